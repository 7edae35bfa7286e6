/- Part 3 of what SpecMode needs: PlN, PlS, PlA, PlC, PlD, PlM, PlR, SmIe, BoE, PlE, PlP, PlK, PlT, DfN, DfT, PlacesG, SmIn, MapE, BoolC, TreeS, FactsA, FactsB, FactsC, FactsD. -/
import Derived.Test.YtldiodhdefnlaaaMgB
import Derived.WalkKit
import Derived.WalkSpells
import Derived.WalkLawsBesides
import Derived.Deep.RegionLaw
import Derived.Deep.AppendLies
import Derived.Deep.QuietTactic
import Derived.BigQuiet
import Derived.Deep.DeepCutAuto
import Derived.Lib.Hide
import Derived.Test.YtldiodhdefnlaaaRows
import Derived.ProofKit
import Derived.OpenShut
import Derived.ShutString
import Derived.SizedLaws
import Derived.JoinedCond
import Derived.Deep.CondSized
import Derived.Deep.Quiet
import Derived.StillTail
import Derived.Deep.LoopGhost
import Derived.Laws.BitsLemmas
import Derived.Laws.BytesString
import Derived.Test.YtldiodhdefnlaaaProg
import Derived.Laws.Entries
import Derived.Laws.BitsAllLaws
import Derived.Lib.TrailingZeros
import Derived.Laws.StructEq
import Derived.Laws.MakeOwn
import Derived.Laws.AppendOwn
import Derived.Maps.OwnSet
import Derived.DeepKeys4
import Derived.WideKeyEntry
import Derived.ChangeKeysEq
import Derived.Laws.Bits64b
import Derived.StringKeys
import Derived.Lib.SlicesCompact
import Derived.Shelf.Sort.Plain
import Derived.Ground.Names2Prog
import Derived.Shelf.Slices.CompactI
import Derived.Shelf.Slices.In.SortNone
import Derived.Lib.RowBridge
/- PlN -/
namespace Go.Proofs.Ytldiodhdefnlaaa.eng
open Go.RowKit kit mix classL rexL placesL
def OldB (B:Base) (k:Nat):Prop:=k<B.w.heap.size∧¬ B.X k
theorem at_oldB {B:Base} {L:List Own} {b off:Nat} {cs:List Value} (hb:OldB B b) (h:Rd B.w b off cs) (j:Nat) (v:Value) (hj:cs[j]?=some v):At B L ⟨b,off+j,none⟩ v:=fun w hm=>
  rd_stay h (hm.low.block b hb.1 hb.2) j v hj
theorem old_on {B:Base} {Lx:List Own} {w:World} (hm:Mem B Lx w) {k:Nat} (hk:OldB B k):OldB (Base.on w Lx) k:=by
  refine⟨Nat.lt_of_lt_of_le hk.1 hm.low.size,?_⟩
  rintro⟨o,ho,hf⟩
  obtain⟨i,hi⟩:=List.mem_iff_getElem?.1 ho
  rcases (hm.owns.all i o hi).2 k hf with h | h
  · have:=hk.1;omega
  · exact hk.2 h
theorem rex_on {B:Base} {Lx:List Own} {w:World} {v:Value} {r:Rx} (hm:Mem B Lx w) (h:RexR (OldB B) B.w v r):RexR (OldB (Base.on w Lx)) w v r:=
  (h.stay fun k hk=>hm.low.block k hk.1 hk.2).mono fun _ hk=>old_on hm hk
structure MIx where
  vc:Value
  vr:Value
  vfol:Value
  vl:Value
  vs:List Value
  F:Nat→Prop
def mkL (g:Nat) (vf ve:Value) (rule:Int) (x:MIx) (p:PS):List Own:=
  [blkO g (mkC x.vc x.vr vf x.vfol x.vl ve rule) 123,rowO 83 4 x.vc p.classes.length (p.classes.flatMap clsL),intR x.vr p.rules,folR x.vfol x.vs,folE x.F x.vs p.follow,rowO 4 1 x.vl p.last.length (p.last.map Value.bool)]
def nodeSp (g:Nat) (vf ve:Value) (rule:Int) (R:Shape×PS):Spec (MIx×Value×Value):=
  ⟨fun x=>x.1.vs.length=R.2.follow.length,fun x=> .agg #[.bool R.1.empty,x.2.1,x.2.2],fun x=>mkL g vf ve rule x.1 R.2++[intR x.2.1 R.1.first,intR x.2.2 R.1.last]⟩
theorem build_shp0 (w:World):(Instr.build 125 (#[]:Array (Nat×Value))).run Try.prog w = .ok (.agg #[.bool false,.slice none 0 0,.slice none 0 0]) w:=by
  go_simp
theorem build_shpT (w:World):(Instr.build 125 #[(0,.bool true)]).run Try.prog w = .ok (.agg #[.bool true,.slice none 0 0,.slice none 0 0]) w:=by
  go_simp
def NodeAt (M:Nat):Prop:=∀ (e:Re),e.size≤M→∀ (g:Nat) (vf ve:Value) (rule:Int) (p:PS) (x:MIx) (v:Value) (w:World) (B:Base),PSOk p→x.vs.length=p.follow.length→p.classes.length+e.size≤100000→kit.okI64 rule→RexR (OldB B) B.w v (emb e)→Mem B (mkL g vf ve rule x p) w→
  Calls Try.prog 36 #[.pointer (some ⟨g,0,none⟩),v] w (MeetsB (nodeSp g vf ve rule (nodeF rule e p)) B)
set_option maxHeartbeats 8000000 in
theorem node_none (g:Nat) (vf ve:Value) (rule:Int) (p:PS) (x:MIx) (v:Value) (w:World) (B:Base) (hx:x.vs.length=p.follow.length) (hv:RexR (OldB B) B.w v (emb .none)) (hm:Mem B (mkL g vf ve rule x p) w) :
    Calls Try.prog 36 #[.pointer (some ⟨g,0,none⟩),v] w (MeetsB (nodeSp g vf ve rule (nodeF rule .none p)) B):=by
  obtain⟨vk,rfl,_,hks⟩:=hv
  obtain⟨bk,ck,rfl,-⟩:=hks
  unfold mkL at hm
  refine enterB hm (args:=[.pointer (some ⟨g,0,none⟩),rexV (emb .none).kind (emb .none).cls (.slice bk (emb .none).kids.length ck)]) (n:=176) Try.func36 rfl rfl rfl ?_
  clear hm
  refine T_seq (T_region (TL_box rfl rfl rfl fun g3=>TL_new rfl fun g4 => ?_))
  conv=>arg 8;simp only[zA,zB,zC,zD,zE,zF,zG,zH,zI,rowS,ret,id_eq]
  repeat(first|refine GA ?_|refine gV (rr_load1 (v:= .int .i64 1) TyC.ty rfl (at_blk (i:=6) rfl rfl)) ?_|refine gV (rr_build rfl build_shp0) ?_)
  refine TL_storeB (i:=7) rfl rfl rfl rfl rfl rfl ?_
  conv=>arg 8;simp only[zA,zB,zC,zD,zE,zF,zG,zH,zI,rowS,ret,id_eq]
  try refine GA ?_
  refine E_nilrow 3 1 (E_nilrow 3 1 ?_)
  exact E_retc1 (i:=7) rfl rfl rfl rfl fun w hm=>hm.meetsB (S:=nodeSp g vf ve rule (nodeF rule .none p)) (x,.slice none 0 0,.slice none 0 0) hx [0,1,2,3,4,5,8,9] (by decide) rfl
set_option maxHeartbeats 8000000 in
theorem node_empty (g:Nat) (vf ve:Value) (rule:Int) (p:PS) (x:MIx) (v:Value) (w:World) (B:Base) (hx:x.vs.length=p.follow.length) (hv:RexR (OldB B) B.w v (emb .empty)) (hm:Mem B (mkL g vf ve rule x p) w) :
    Calls Try.prog 36 #[.pointer (some ⟨g,0,none⟩),v] w (MeetsB (nodeSp g vf ve rule (nodeF rule .empty p)) B):=by
  obtain⟨vk,rfl,_,hks⟩:=hv
  obtain⟨bk,ck,rfl,-⟩:=hks
  unfold mkL at hm
  refine enterB hm (args:=[.pointer (some ⟨g,0,none⟩),rexV (emb .empty).kind (emb .empty).cls (.slice bk (emb .empty).kids.length ck)]) (n:=176) Try.func36 rfl rfl rfl ?_
  clear hm
  refine T_seq (T_region (TL_box rfl rfl rfl fun g3=>TL_new rfl fun g4 => ?_))
  conv=>arg 8;simp only[zA,zB,zC,zD,zE,zF,zG,zH,zI,rowS,ret,id_eq]
  repeat(first|refine GA ?_|refine gV (rr_load1 (v:= .int .i64 2) TyC.ty rfl (at_blk (i:=6) rfl rfl)) ?_|refine gV (rr_build rfl build_shpT) ?_)
  refine TL_storeB (i:=7) rfl rfl rfl rfl rfl rfl ?_
  conv=>arg 8;simp only[zA,zB,zC,zD,zE,zF,zG,zH,zI,rowS,ret,id_eq]
  try refine GA ?_
  refine E_nilrow 3 1 (E_nilrow 3 1 ?_)
  exact E_retc1 (i:=7) rfl rfl rfl rfl fun w hm=>hm.meetsB (S:=nodeSp g vf ve rule (nodeF rule .empty p)) (x,.slice none 0 0,.slice none 0 0) hx [0,1,2,3,4,5,8,9] (by decide) rfl
def ruleO (g:Nat) (rule:Int):Own:=
  ⟨some g,fun _=>False,fun w=>∃ vc vr vf vfol vl ve,w.heap[g]?=some (.cells (mkC vc vr vf vfol vl ve rule) 123 (0,0)),fun w ⟨_,_,_,_,_,_,h⟩ k hk=>by simp only[Option.some.injEq,or_false] at hk;subst hk;exact (Array.getElem?_eq_some_iff.1 h).1,
    fun w w' ⟨vc,vr,vf,vfol,vl,ve,h⟩ _ hb=>⟨vc,vr,vf,vfol,vl,ve,by rw[hb g (.inl rfl)];exact h⟩⟩
theorem sub_rule {B:Base} {L:List Own} {g:Nat} {vc vr vf vfol vl ve:Value} {rule:Int} (h:L[0]?=some (blkO g (mkC vc vr vf vfol vl ve rule) 123)):∀ w,Mem B L w→Mem B [ruleO g rule] w:=fun w hm=>by
  have h1:=hm.pick (L':=[blkO g (mkC vc vr vf vfol vl ve rule) 123]) [0] (by decide) (by simp[h])
  exact h1.reownAt (i:=0) (ruleO g rule) rfl ⟨vc,vr,vf,vfol,vl,ve,h1.get (i:=0) rfl⟩ fun k hk=>hk
theorem at_rule {B:Base} {L:List Own} {g i:Nat} {rule:Int} (h:L[i]?=some (ruleO g rule)):At B L ⟨g,6,none⟩ (.int .i64 rule):=fun w hm=>by
  obtain⟨vc,vr,vf,vfol,vl,ve,h⟩:=(hm.get h:(ruleO g rule).holds w)
  rw[cell_of_row w g 6 _ _ _ h];rfl
theorem cls_one (c:C4) (u:Value) (h:u∈clsL c):u.oneCell'=true:=by
  simp only[clsL,List.mem_cons,List.not_mem_nil,or_false] at h
  rcases h with rfl | rfl | rfl | rfl <;> rfl
theorem rexcls_at (c:C4) {k:Int} {vk v:Value} {j:Nat} (hj:(clsL c)[j]?=some v):((rexC k c vk).toArray)[1+j]?=some v:=by
  match j,hj with
  | 0,hj=>exact hj
  | 1,hj=>exact hj
  | 2,hj=>exact hj
  | 3,hj=>exact hj
theorem build_shp2 (b b':Option Addr) (m m' k k':Nat) (w:World):(Instr.build 125 #[(1,.slice b m k),(2,.slice b' m' k')]).run Try.prog w = .ok (.agg #[.bool false,.slice b m k,.slice b' m' k']) w:=by
  go_simp
theorem intR_snoc (v:Value) (l:List Int) (x:Int):rowO 3 1 v (l.length+1) (l.map (Value.int .i64)++[.int .i64 x])=intR v (l++[x]):=by
  show _=rowO 3 1 v (l++[x]).length ((l++[x]).map (Value.int .i64))
  rw[List.length_append,List.map_append];rfl
theorem fol_snoc (v:Value) (l:List Value) (x:Value):rowO 26 1 v (l.length+1) (l.flatMap one1++[x])=folR v (l++[x]):=by
  show _=rowO 26 1 v (l++[x]).length ((l++[x]).flatMap one1)
  rw[List.length_append,List.flatMap_append];rfl
theorem bool_snoc (v:Value) (l:List Bool) (x:Bool):rowO 4 1 v (l.length+1) (l.map Value.bool++[.bool x])=rowO 4 1 v (l++[x]).length ((l++[x]).map Value.bool):=by
  rw[List.length_append,List.map_append];rfl
theorem one_row {w:World} {g:Nat} {n:Int} (h:(blkO g #[.int .i64 n] 3).holds w):(intR (.slice (some ⟨g,0,none⟩) 1 1) [n]).holds w:=
  ⟨rfl,.inr ⟨g,1,_,rfl,Nat.zero_le _,h,Nat.le_refl _,by decide,rfl,rfl⟩⟩
set_option maxHeartbeats 16000000 in
theorem node_byte (c:C4) (g:Nat) (vf ve:Value) (rule:Int) (p:PS) (x:MIx) (v:Value) (w:World) (B:Base) (hp:PSOk p) (hx:x.vs.length=p.follow.length) (hn:p.classes.length≤100000) (hv:RexR (OldB B) B.w v (emb (.byte c))) (hm:Mem B (mkL g vf ve rule x p) w) :
    Calls Try.prog 36 #[.pointer (some ⟨g,0,none⟩),v] w (MeetsB (nodeSp g vf ve rule (nodeF rule (.byte c) p)) B):=by
  obtain⟨vk,rfl,_,hks⟩:=hv
  obtain⟨bk,ck,rfl,-⟩:=hks
  obtain⟨vc,vr,vfol,vl,vs,F⟩:=x
  unfold mkL at hm
  dsimp only at hx hm
  refine enterB hm (args:=[.pointer (some ⟨g,0,none⟩),rexV (emb (.byte c)).kind (emb (.byte c)).cls (.slice bk (emb (.byte c)).kids.length ck)]) (n:=176) Try.func36 rfl rfl rfl ?_
  clear hm
  refine T_seq (T_region (TL_box rfl rfl rfl fun g3=>TL_new rfl fun g4 => ?_))
  conv=>arg 8;simp only[zA,zB,zC,zD,zE,zF,zG,zH,zI,rowS,ret,id_eq]
  refine TL_rowv (i:=1) rfl fun bc cc hvc hc1 hc2 => ?_
  subst hvc
  repeat(first|refine GA ?_|refine gV (rr_load1 (v:= .int .i64 3) TyC.ty rfl (at_blk (i:=6) rfl rfl)) ?_|refine gV (rr_load1 (v:= .slice bc p.classes.length cc) TyC.ty rfl (at_blk (i:=0) rfl rfl)) ?_)
  (repeat refine T_seq ?_)
  refine T_midq (ι:=Value) (fun _=>True) (fun _=>[(0,.pointer (some ⟨g,0,none⟩)),(3,.pointer (some ⟨g3,0,none⟩)),(4,.pointer (some ⟨g4,0,none⟩)),(5,.int .i64 p.classes.length)])
    (fun vc'=>[blkO g (mkC vc' vr vf vfol vl ve rule) 123,rowO 83 4 vc' (p.classes++[c]).length ((p.classes++[c]).flatMap clsL),intR vr p.rules,folR vfol vs,folE F vs p.follow,rowO 4 1 vl p.last.length (p.last.map Value.bool),blkO g4 #[.bool false,.slice none 0 0,.slice none 0 0] 125]) ?_ ?_
  · refine T_ord ([blkO g3 (rexC 3 c (.slice bk 0 ck)).toArray 85]) (.calm 0 (.calm 1 (.calm 2 (.calm 3 (.calm 4 (.calm 6 (.calm 7 (.two 5 (.one 8 (.one 9 (.calm 10 (.calm 11 (.calm 12 (.one 13 (.done))))))) 8 (.one 5 (.one 9 (.calm 10 (.calm 11 (.calm 12 (.one 13 (.done))))))))))))))) (sub_pick [6] (by decide) rfl) (by kernel_rfl) (by kernel_rfl) (by intro c a d v w h;cases d <;> exact h) ?_
    repeat(first|refine GW ?_|(refine GN ?_;first|refine QW (rr_loadN (cs:=clsL c) TyC.ty rfl rfl (fun j v hj=>at_blk (i:=0) rfl (rexcls_at c hj))) ?_))
    refine TW_two rfl rfl ?_ ?_
    · refine TL_val (rr_load1 (v:= .slice bc p.classes.length cc) TyC.ty rfl (at_blk (i:=0) rfl rfl)) rfl rfl rfl (TW_on (sub_pick [6] (by decide) rfl) ?_)
      refine TW_one rfl (TL_litN (cs:=(clsL c).toArray) [clsV c] rfl rfl rfl (by intro v hv;simp at hv;subst hv;rfl) rfl rfl rfl fun g33=>(TW_on (sub_pick [6] (by decide) rfl) ?_))
      refine TW_one rfl (TL_appSl (i:=1) (e:= 83) (size:=4) (bytes:=32) (m:=p.classes.length) (xs:=p.classes.flatMap clsL) (k:=1) (ys:=clsL c) rfl (sl_blk (i:=8) rfl (fun j u h=>by simpa using h) (Nat.le_refl 1) (by decide)) rfl rfl rfl (fun u hu=>cls_one c u hu) (by omega) (by omega) rfl fun vc'=>(TW_on (sub_pick [6] (by decide) rfl) ?_))
      try refine GW ?_
      refine TW_one rfl (TL_slv (i:=1) rfl fun hv1 hv2=>TL_store1 (i:=0) rfl rfl rfl hv1 hv2 rfl (TW_on (sub_pick [6] (by decide) rfl) ?_))
      try refine GW ?_
      refine E_pick [0,1,2,3,4,5,7] (by decide) rfl ?_
      exact E_mid vc' trivial (by repeat' (first | exact True.intro | refine And.intro rfl ?_)) (by rw[List.length_append,List.flatMap_append];rfl)
    · refine TL_litN (cs:=(clsL c).toArray) [clsV c] rfl rfl rfl (by intro v hv;simp at hv;subst hv;rfl) rfl rfl rfl fun g33=>(TW_on (sub_pick [6] (by decide) rfl) ?_)
      refine TW_one rfl (TL_val (rr_load1 (v:= .slice bc p.classes.length cc) TyC.ty rfl (at_blk (i:=0) rfl rfl)) rfl rfl rfl (TW_on (sub_pick [6] (by decide) rfl) ?_))
      refine TW_one rfl (TL_appSl (i:=1) (e:= 83) (size:=4) (bytes:=32) (m:=p.classes.length) (xs:=p.classes.flatMap clsL) (k:=1) (ys:=clsL c) rfl (sl_blk (i:=8) rfl (fun j u h=>by simpa using h) (Nat.le_refl 1) (by decide)) rfl rfl rfl (fun u hu=>cls_one c u hu) (by omega) (by omega) rfl fun vc'=>(TW_on (sub_pick [6] (by decide) rfl) ?_))
      try refine GW ?_
      refine TW_one rfl (TL_slv (i:=1) rfl fun hv1 hv2=>TL_store1 (i:=0) rfl rfl rfl hv1 hv2 rfl (TW_on (sub_pick [6] (by decide) rfl) ?_))
      try refine GW ?_
      refine E_pick [0,1,2,3,4,5,7] (by decide) rfl ?_
      exact E_mid vc' trivial (by repeat' (first | exact True.intro | refine And.intro rfl ?_)) (by rw[List.length_append,List.flatMap_append];rfl)
  clear hc1 hc2
  intro vc' _
  try refine GA ?_
  (repeat refine T_seq ?_)
  have hrl:=hp.rules
  refine T_midq (ι:=Value) (fun _=>True) (fun _=>[(0,.pointer (some ⟨g,0,none⟩)),(4,.pointer (some ⟨g4,0,none⟩)),(5,.int .i64 p.classes.length)])
    (fun vr'=>[blkO g (mkC vc' vr' vf vfol vl ve rule) 123,rowO 83 4 vc' (p.classes++[c]).length ((p.classes++[c]).flatMap clsL),intR vr' (p.rules++[rule]),folR vfol vs,folE F vs p.follow,rowO 4 1 vl p.last.length (p.last.map Value.bool),blkO g4 #[.bool false,.slice none 0 0,.slice none 0 0] 125]) ?_ ?_
  · refine T_ord ([ruleO g rule]) (.calm 0 (.calm 1 (.calm 2 (.calm 3 (.calm 4 (.calm 6 (.calm 7 (.calm 8 (.calm 9 (.two 5 (.one 10 (.one 11 (.calm 12 (.calm 13 (.calm 14 (.one 15 (.done))))))) 10 (.one 5 (.one 11 (.calm 12 (.calm 13 (.calm 14 (.one 15 (.done))))))))))))))))) (sub_rule rfl) (by kernel_rfl) (by kernel_rfl) (by intro c a d v w h;cases d <;> exact h) ?_
    repeat(first|refine GW ?_|(refine GN ?_;first|refine QW (rr_load1 (v:= .int .i64 rule) TyC.ty rfl (at_rule (i:=0) rfl)) ?_))
    refine TW_two rfl rfl ?_ ?_
    · refine TL_val (rr_load1 (v:=vr) TyC.ty rfl (at_blk (i:=0) rfl rfl)) rfl rfl rfl (TW_on (sub_rule rfl) ?_)
      refine TW_one rfl (TL_litN (cs:=#[.int .i64 rule]) [.int .i64 rule] rfl rfl rfl (by intro v hv;simp at hv;subst hv;rfl) rfl rfl rfl fun g48=>(TW_on (sub_rule rfl) ?_))
      refine TW_one rfl (TL_appSl (i:=2) (e:= 3) (size:=1) (bytes:=8) (m:=p.rules.length) (xs:=p.rules.map (Value.int .i64)) (k:=1) (ys:=[.int .i64 rule]) rfl (sl_blk (i:=7) rfl (fun j u h=>by simpa using h) (Nat.le_refl 1) (by decide)) rfl rfl rfl (fun u hu=>by rw[List.mem_singleton.1 hu];rfl) (by omega) (by omega) rfl fun vr'=>(TW_on (sub_rule rfl) ?_))
      try refine GW ?_
      refine TW_one rfl (TL_slv (i:=2) rfl fun hv1 hv2=>TL_store1 (i:=0) rfl rfl rfl hv1 hv2 rfl (TW_on (sub_rule (vc:=vc') (vr:=vr') (vf:=vf) (vfol:=vfol) (vl:=vl) (ve:=ve) rfl) ?_))
      try refine GW ?_
      refine E_pick [0,1,2,3,4,5,6] (by decide) rfl ?_
      exact E_mid vr' trivial (by repeat' (first | exact True.intro | refine And.intro rfl ?_)) (by rw[←intR_snoc vr' p.rules rule];rfl)
    · refine TL_litN (cs:=#[.int .i64 rule]) [.int .i64 rule] rfl rfl rfl (by intro v hv;simp at hv;subst hv;rfl) rfl rfl rfl fun g48=>(TW_on (sub_rule rfl) ?_)
      refine TW_one rfl (TL_val (rr_load1 (v:=vr) TyC.ty rfl (at_blk (i:=0) rfl rfl)) rfl rfl rfl (TW_on (sub_rule rfl) ?_))
      refine TW_one rfl (TL_appSl (i:=2) (e:= 3) (size:=1) (bytes:=8) (m:=p.rules.length) (xs:=p.rules.map (Value.int .i64)) (k:=1) (ys:=[.int .i64 rule]) rfl (sl_blk (i:=7) rfl (fun j u h=>by simpa using h) (Nat.le_refl 1) (by decide)) rfl rfl rfl (fun u hu=>by rw[List.mem_singleton.1 hu];rfl) (by omega) (by omega) rfl fun vr'=>(TW_on (sub_rule rfl) ?_))
      try refine GW ?_
      refine TW_one rfl (TL_slv (i:=2) rfl fun hv1 hv2=>TL_store1 (i:=0) rfl rfl rfl hv1 hv2 rfl (TW_on (sub_rule (vc:=vc') (vr:=vr') (vf:=vf) (vfol:=vfol) (vl:=vl) (ve:=ve) rfl) ?_))
      try refine GW ?_
      refine E_pick [0,1,2,3,4,5,6] (by decide) rfl ?_
      exact E_mid vr' trivial (by repeat' (first | exact True.intro | refine And.intro rfl ?_)) (by rw[←intR_snoc vr' p.rules rule];rfl)
  intro vr' _
  have hfl:=hp.follow
  have hll:=hp.last
  repeat(first|refine GA ?_|refine gV (rr_load1 (v:=vfol) TyC.ty rfl (at_blk (i:=0) rfl rfl)) ?_)
  refine TL_push1 (i:=3) (bytes:=24) rfl rfl rfl rfl rfl rfl (fun z h=>by cases h;rfl) (by omega) (by omega) rfl fun z1 vfol' => ?_
  conv=>arg 8;simp only[zA,zB,zC,zD,zE,zF,zG,zH,zI,rowS,ret,id_eq]
  try refine GA ?_
  refine TL_slv (i:=3) rfl fun hv1 hv2=>TL_store1 (i:=0) rfl rfl rfl hv1 hv2 rfl ?_
  conv=>arg 8;simp only[zA,zB,zC,zD,zE,zF,zG,zH,zI,rowS,ret,id_eq]
  repeat(first|refine GA ?_|refine gV (rr_load1 (v:=vl) TyC.ty rfl (at_blk (i:=0) rfl rfl)) ?_)
  refine TL_push1 (i:=5) (bytes:=1) rfl rfl rfl rfl rfl rfl (fun z h=>by cases h;rfl) (by omega) (by omega) rfl fun z2 vl' => ?_
  conv=>arg 8;simp only[zA,zB,zC,zD,zE,zF,zG,zH,zI,rowS,ret,id_eq]
  try refine GA ?_
  refine TL_slv (i:=5) rfl fun hv1 hv2=>TL_store1 (i:=0) rfl rfl rfl hv1 hv2 rfl ?_
  conv=>arg 8;simp only[zA,zB,zC,zD,zE,zF,zG,zH,zI,rowS,ret,id_eq]
  try refine GA ?_
  refine TL_litN (cs:=#[.int .i64 p.classes.length]) [.int .i64 p.classes.length] rfl rfl rfl (by intro v hv;simp at hv;subst hv;rfl) rfl rfl rfl fun g76 => ?_
  conv=>arg 8;simp only[zA,zB,zC,zD,zE,zF,zG,zH,zI,rowS,ret,id_eq]
  try refine GA ?_
  refine TL_litN (cs:=#[.int .i64 p.classes.length]) [.int .i64 p.classes.length] rfl rfl rfl (by intro v hv;simp at hv;subst hv;rfl) rfl rfl rfl fun g78 => ?_
  conv=>arg 8;simp only[zA,zB,zC,zD,zE,zF,zG,zH,zI,rowS,ret,id_eq]
  repeat(first|refine GA ?_|refine gV (rr_build rfl (build_shp2 _ _ _ _ _ _)) ?_)
  refine TL_storeB (i:=6) (cs':=#[.bool false,.slice (some ⟨g76,0,none⟩) 1 1,.slice (some ⟨g78,0,none⟩) 1 1]) rfl rfl rfl rfl rfl rfl ?_
  conv=>arg 8;simp only[zA,zB,zC,zD,zE,zF,zG,zH,zI,rowS,ret,id_eq]
  try refine GA ?_
  refine E_reown (i:=7) (intR (.slice (some ⟨g76,0,none⟩) 1 1) [(p.classes.length:Int)]) rfl (fun w h=>one_row h) (fun k hk=>hk) ?_
  refine E_reown (i:=8) (intR (.slice (some ⟨g78,0,none⟩) 1 1) [(p.classes.length:Int)]) rfl (fun w h=>one_row h) (fun k hk=>hk) ?_
  refine E_reown (i:=4) (folE (fun k=>F k∨False) (vs++[.slice none 0 0]) (p.follow++[[]])) rfl (fun w h=>by
    have:=els_snoc (F2:=fun _=>False) h (show folS.is (fun _=>False) w [.slice none 0 0] [] from ⟨_,rfl,fun _ h=>(by cases h),⟨rfl,.inl ⟨rfl,rfl⟩⟩,fun _ h=>(by cases h)⟩) (fun k hk=>hk.elim)
    rw[show vs.map one1++[[Value.slice none 0 0]]=(vs++[Value.slice none 0 0]).map one1 by rw[List.map_append];rfl] at this
    exact this) (fun k hk=>hk.elim (fun h=>by cases h) fun h=>h.elim (fun h=> .inr h) False.elim) ?_
  refine E_retc1 (i:=6) rfl rfl rfl rfl fun w hm => ?_
  refine hm.meetsB (S:=nodeSp g vf ve rule (nodeF rule (.byte c) p)) (⟨vc',vr',vfol',vl',vs++[.slice none 0 0],fun k=>F k∨False⟩,.slice (some ⟨g76,0,none⟩) 1 1,.slice (some ⟨g78,0,none⟩) 1 1) (by show (vs++[_]).length=(p.follow++[[]]).length;rw[List.length_append,List.length_append,hx];rfl) [0,1,2,3,4,5,7,8] (by decide) ?_
  show[_,_,_,folR vfol' (vs++[Value.slice none 0 0]),_,rowO 4 1 vl' (p.last++[false]).length ((p.last++[false]).map Value.bool),_,_]=_
  rw[←fol_snoc,←bool_snoc];rfl
end Go.Proofs.Ytldiodhdefnlaaa.eng

/- PlS -/
namespace Go.Proofs.Ytldiodhdefnlaaa.eng
open Go.RowKit kit mix classL rexL placesL
set_option maxHeartbeats 16000000 in
theorem node_star {M:Nat} (IH:NodeAt M) (a:Re) (ha:a.size≤M) (g:Nat) (vf ve:Value) (rule:Int) (p:PS) (x:MIx) (v:Value) (w:World) (B:Base) (hp:PSOk p) (hx:x.vs.length=p.follow.length) (hn:p.classes.length+(a.size+1)≤100000) (hr64:kit.okI64 rule) (hv:RexR (OldB B) B.w v (emb (.star a))) (hm:Mem B (mkL g vf ve rule x p) w) :
    Calls Try.prog 36 #[.pointer (some ⟨g,0,none⟩),v] w (MeetsB (nodeSp g vf ve rule (nodeF rule (.star a) p)) B):=by
  obtain⟨vk,rfl,_,hks⟩:=hv
  obtain⟨bk,ck,rfl,h1,h2,h3⟩:=hks
  obtain⟨b,off,rfl,hF,hrd⟩:=h3 (by show 0<1;decide)
  obtain⟨kb,kc,hr,hkid⟩:=rkid_at (k:=0) hrd (by show 0<1;decide)
  have hat:=fun (L:List Own) (j:Nat) (v:Value) hj=>at_oldB (L:=L) hF hr j v hj
  clear h3 hrd hr
  obtain⟨hp1,hp2,hp3,hp4,hp5⟩:=node_ok rule a p hp
  have hspec:nodeF rule (.star a) p=(⟨true,(nodeF rule a p).1.first,(nodeF rule a p).1.last⟩,{ (nodeF rule a p).2 with follow:=behindF (nodeF rule a p).2.follow (nodeF rule a p).1.last (nodeF rule a p).1.first }):=rfl
  have hIH:=fun w B hv hm=>IH a ha g vf ve rule p x (rexV (emb a).kind (emb a).cls (.slice kb (emb a).kids.length kc)) w B hp hx (by omega) hr64 hv hm
  rw[hspec]
  generalize nodeF rule a p=R at *
  obtain⟨⟨e,first,last⟩,p'⟩:=R
  dsimp only at hp1 hp2 hp3 hp4 hp5 ⊢
  clear hspec
  unfold mkL at hm
  refine enterB hm (args:=[.pointer (some ⟨g,0,none⟩),rexV 6 C4.zero (.slice (some ⟨b,off,none⟩) 1 ck)]) (n:=176) Try.func36 rfl rfl rfl ?_
  clear hm
  refine T_seq (T_region (TL_box rfl rfl rfl fun g3=>TL_new rfl fun g4 => ?_))
  conv=>arg 8;simp only[zA,zB,zC,zD,zE,zF,zG,zH,zI,rowS,ret,id_eq]
  repeat(first|refine GA ?_|refine gV (rr_load1 (v:= .int .i64 6) TyC.ty rfl (at_blk (i:=6) rfl rfl)) ?_|refine gV (rr_load1 (v:= .slice (some ⟨b,off,none⟩) 1 ck) TyC.ty rfl (at_blk (i:=6) rfl rfl)) ?_|refine gV (rr_idxc (j:=0) Und.eq TyC.ty rfl rfl (by decide)) ?_|refine gV (rr_loadN TyC.ty rfl rfl (hat _)) ?_)
  refine TL_callB [0,1,2,3,4,5] [6,7] (by decide) rfl rfl (he2 EntersC.en rfl rfl rfl) (fun w hm hb=>hIH w _ (rex_on (hm.pick [0,1,2,3,4,5] (by decide) rfl) hkid) hb) rfl rfl rfl ?_
  rintro⟨⟨vc,vr,vfol,vl,vs,F⟩,va,vb⟩ hx'
  have hx':vs.length=p'.follow.length:=hx'
  conv=>arg 8;simp only[zA,zB,zC,zD,zE,zF,zG,zH,zI,rowS,ret,id_eq,nodeSp,mkL]
  conv=>arg 7;simp only[nodeSp]
  refine TL_slv (i:=8) rfl fun hva1 hva2 => ?_
  refine TL_slv (i:=9) rfl fun hvb1 hvb2 => ?_
  refine TL_new rfl fun g6 => ?_
  conv=>arg 8;simp only[zA,zB,zC,zD,zE,zF,zG,zH,zI,rowS,ret,id_eq]
  refine TL_storeB (i:=10) (cs':=#[.bool e,va,vb]) rfl rfl rfl rfl (by simp only[List.all_cons,List.all_nil,hva2,hvb2];rfl) rfl ?_
  conv=>arg 8;simp only[zA,zB,zC,zD,zE,zF,zG,zH,zI,rowS,ret,id_eq]
  repeat(first|refine GA ?_|refine gV (rr_load1 (v:=vb) TyC.ty rfl (at_blk (i:=10) rfl rfl)) ?_|refine gV (rr_load1 (v:=va) TyC.ty rfl (at_blk (i:=10) rfl rfl)) ?_)
  refine TL_callB [2,5,6,9,8] [0,1,3,4,7,10] (by decide) rfl rfl (he3 EntersC.en rfl rfl rfl rfl) (fun w hm hb=>behind_calls g vc vr vf vfol vl ve rule vb va vs F p'.follow last first w _ hx' (by rw[hp1.follow];omega) (by rw[hp1.follow];exact hp1.ris) (by rw[hp1.follow];exact hp5) (by rw[hp1.follow];exact hp4) hb) rfl rfl rfl ?_
  rintro⟨vs',F'⟩ hx2
  have hx2:vs'.length=p'.follow.length:=hx2
  conv=>arg 8;simp only[zA,zB,zC,zD,zE,zF,zG,zH,zI,rowS,ret,id_eq,behSp]
  try refine GA ?_
  refine TL_store1 (i:=5) rfl rfl rfl rfl rfl rfl ?_
  conv=>arg 8;simp only[zA,zB,zC,zD,zE,zF,zG,zH,zI,rowS,ret,id_eq]
  repeat(first|refine GA ?_|refine gV (rr_loadB (i:=5) TyC.ty rfl rfl rfl) ?_)
  refine TL_storeB (i:=1) (cs':=#[.bool true,va,vb]) rfl rfl rfl rfl (by simp only[List.all_cons,List.all_nil,hva2,hvb2];rfl) rfl ?_
  conv=>arg 8;simp only[zA,zB,zC,zD,zE,zF,zG,zH,zI,rowS,ret,id_eq]
  try refine GA ?_
  refine E_retc1 (i:=1) rfl rfl rfl rfl fun w hm => ?_
  exact hm.meetsB (S:=nodeSp g vf ve rule (⟨true,first,last⟩,{ p' with follow:=behindF p'.follow last first })) (⟨vc,vr,vfol,vl,vs',F'⟩,va,vb) (by show vs'.length=(behindF p'.follow last first).length;rw[behind_len];exact hx2) [6,2,3,7,8,4,10,9] (by decide) rfl
end Go.Proofs.Ytldiodhdefnlaaa.eng

/- PlA -/
namespace Go.Proofs.Ytldiodhdefnlaaa.eng
open Go.RowKit kit mix classL rexL placesL
theorem build_shpA (e:Bool) (b b':Option Addr) (m m' k k':Nat) (w:World):(Instr.build 125 #[(0,.bool e),(1,.slice b m k),(2,.slice b' m' k')]).run Try.prog w = .ok (.agg #[.bool e,.slice b m k,.slice b' m' k']) w:=by
  go_simp
set_option maxHeartbeats 32000000 in
set_option maxRecDepth 100000 in
theorem node_alt {M:Nat} (IH:NodeAt M) (a b1:Re) (ha:a.size≤M) (hb1:b1.size≤M) (g:Nat) (vf ve:Value) (rule:Int) (p:PS) (x:MIx) (v:Value) (w:World) (B:Base) (hp:PSOk p) (hx:x.vs.length=p.follow.length) (hn:p.classes.length+(a.size+b1.size+1)≤100000) (hr64:kit.okI64 rule) (hv:RexR (OldB B) B.w v (emb (.alt a b1))) (hm:Mem B (mkL g vf ve rule x p) w) :
    Calls Try.prog 36 #[.pointer (some ⟨g,0,none⟩),v] w (MeetsB (nodeSp g vf ve rule (nodeF rule (.alt a b1) p)) B):=by
  obtain⟨vk,rfl,_,hks⟩:=hv
  obtain⟨bk,ck,rfl,h1,h2,h3⟩:=hks
  obtain⟨b,off,rfl,hF,hrd⟩:=h3 (by show 0<2;decide)
  obtain⟨kb,kc,hr,hkid1⟩:=rkid_at (k:=0) hrd (by show 0<2;decide)
  obtain⟨kb2,kc2,hr2,hkid2⟩:=rkid_at (k:=1) hrd (by show 1<2;decide)
  have hat1:=fun (L:List Own) (j:Nat) (v:Value) hj=>at_oldB (L:=L) hF hr j v hj
  have hat2:=fun (L:List Own) (j:Nat) (v:Value) hj=>at_oldB (L:=L) hF hr2 j v hj
  clear h3 hrd hr hr2
  obtain⟨hp1,hp2,hp3,hp4,hp5⟩:=node_ok rule a p hp
  obtain⟨kp1,kp2,kp3,kp4,kp5⟩:=node_ok rule b1 _ hp1
  have hI1:=fun w B hv hm=>IH a ha g vf ve rule p x (rexV (emb a).kind (emb a).cls (.slice kb (emb a).kids.length kc)) w B hp hx (by omega) hr64 hv hm
  have hI2:=fun x1 hx1 w B hv hm=>IH b1 hb1 g vf ve rule (nodeF rule a p).2 x1 (rexV (emb b1).kind (emb b1).cls (.slice kb2 (emb b1).kids.length kc2)) w B hp1 hx1 (by omega) hr64 hv hm
  rw[show nodeF rule (.alt a b1) p=(⟨(nodeF rule a p).1.empty || (nodeF rule b1 (nodeF rule a p).2).1.empty,uni (nodeF rule a p).1.first (nodeF rule b1 (nodeF rule a p).2).1.first,uni (nodeF rule a p).1.last (nodeF rule b1 (nodeF rule a p).2).1.last⟩,(nodeF rule b1 (nodeF rule a p).2).2) from rfl]
  generalize nodeF rule b1 (nodeF rule a p).2=R2 at *
  generalize nodeF rule a p=R1 at *
  obtain⟨⟨e1,first1,last1⟩,p1⟩:=R1
  obtain⟨⟨e2,first2,last2⟩,p2⟩:=R2
  dsimp only at hp1 hp2 hp3 hp4 hp5 kp1 kp2 kp3 kp4 kp5 hI2 ⊢
  unfold mkL at hm
  refine enterB hm (args:=[.pointer (some ⟨g,0,none⟩),rexV 5 C4.zero (.slice (some ⟨b,off,none⟩) 2 ck)]) (n:=176) Try.func36 rfl rfl rfl ?_
  clear hm
  refine T_seq (T_region (TL_box rfl rfl rfl fun g3=>TL_new rfl fun g4 => ?_))
  conv=>arg 8;simp only[zA,zB,zC,zD,zE,zF,zG,zH,zI,rowS,ret,id_eq]
  repeat(first|refine GA ?_|refine gV (rr_load1 (v:= .int .i64 5) TyC.ty rfl (at_blk (i:=6) rfl rfl)) ?_)
  (repeat refine T_seq ?_)
  refine T_midq (ι:=MIx×Value×Value×Value×Value×Nat×Nat) (fun y=>y.1.vs.length=p2.follow.length) (fun y=>[(0,.pointer (some ⟨g,0,none⟩)),(4,.pointer (some ⟨g4,0,none⟩)),(7,.pointer (some ⟨y.2.2.2.2.2.1,0,none⟩)),(8,.pointer (some ⟨y.2.2.2.2.2.2,0,none⟩))])
    (fun y=>mkL g vf ve rule y.1 p2++[intR y.2.1 first1,intR y.2.2.1 last1,intR y.2.2.2.1 first2,intR y.2.2.2.2.1 last2,blkO g4 #[.bool false,.slice none 0 0,.slice none 0 0] 125,blkO y.2.2.2.2.2.1 #[.bool e1,y.2.1,y.2.2.1] 125,blkO y.2.2.2.2.2.2 #[.bool e2,y.2.2.2.1,y.2.2.2.2.1] 125]) ?_ ?_
  · refine T_ord ([blkO g3 (rexC 5 C4.zero (.slice (some ⟨b,off,none⟩) 2 ck)).toArray 85]) (.calm 0 (.calm 1 (.calm 2 (.calm 3 (.calm 4 (.calm 6 (.calm 7 (.calm 8 (.calm 9 (.calm 10 (.three 5 (.three 11 (.two 12 (.one 13 (.one 14 (.one 15 (.done)))) 13 (.one 12 (.one 14 (.one 15 (.done))))) 12 (.two 11 (.one 13 (.one 14 (.one 15 (.done)))) 13 (.one 11 (.one 14 (.one 15 (.done))))) 13 (.two 11 (.one 12 (.one 14 (.one 15 (.done)))) 12 (.one 11 (.one 14 (.one 15 (.done)))))) 12 (.two 5 (.two 11 (.one 13 (.one 14 (.one 15 (.done)))) 13 (.one 11 (.one 14 (.one 15 (.done))))) 13 (.one 5 (.one 11 (.one 14 (.one 15 (.done)))))) 13 (.two 5 (.two 11 (.one 12 (.one 14 (.one 15 (.done)))) 12 (.one 11 (.one 14 (.one 15 (.done))))) 12 (.one 5 (.one 11 (.one 14 (.one 15 (.done))))))))))))))))) (sub_pick [6] (by decide) rfl) (by kernel_rfl) (by kernel_rfl) (by intro c a d v w h;cases d <;> exact h) ?_
    repeat(first|refine GW ?_|(refine GN ?_;first|refine QW (rr_load1 (v:= .slice (some ⟨b,off,none⟩) 2 ck) TyC.ty rfl (at_blk (i:=0) rfl rfl)) ?_|refine QW (rr_idxc (j:=0) Und.eq TyC.ty rfl rfl (by decide)) ?_|refine QW (rr_idxc (j:=1) Und.eq TyC.ty rfl rfl (by decide)) ?_|refine QW (rr_loadN TyC.ty rfl rfl (hat1 _)) ?_|refine QW (rr_loadN TyC.ty rfl rfl (hat2 _)) ?_))
    refine TW_three rfl rfl rfl ?_ ?_ ?_
    · refine TL_callB [0,1,2,3,4,5] [6,7] (by decide) rfl rfl (he2 EntersC.en rfl rfl rfl) (fun w hm hb=>hI1 w _ (rex_on (hm.pick [0,1,2,3,4,5] (by decide) rfl) hkid1) hb) rfl rfl rfl ?_
      rintro⟨⟨vc1,vr1,vfol1,vl1,vs1,F1⟩,va1,vb1⟩ hx1
      have hx1:vs1.length=p1.follow.length:=hx1
      conv=>arg 8;simp only[zA,zB,zC,zD,zE,zF,zG,zH,zI,rowS,ret,id_eq,nodeSp,mkL]
      conv=>arg 7;simp only[nodeSp]
      refine TW_on (sub_pick [0] (by decide) rfl) ?_
      refine TW_three rfl rfl rfl ?_ ?_ ?_
      · refine TL_callB [2,3,4,5,6,7] [0,1,8,9] (by decide) rfl rfl (he2 EntersC.en rfl rfl rfl) (fun w hm hb=>hI2 ⟨vc1,vr1,vfol1,vl1,vs1,F1⟩ hx1 w _ (rex_on (hm.pick [2,3,4,5,6,7] (by decide) rfl) hkid2) hb) rfl rfl rfl ?_
        rintro⟨⟨vc2,vr2,vfol2,vl2,vs2,F2⟩,va2,vb2⟩ hx2
        have hx2:vs2.length=p2.follow.length:=hx2
        conv=>arg 8;simp only[zA,zB,zC,zD,zE,zF,zG,zH,zI,rowS,ret,id_eq,nodeSp,mkL]
        conv=>arg 7;simp only[nodeSp]
        refine TW_on (sub_pick [0] (by decide) rfl) ?_
        refine TW_two rfl rfl ?_ ?_
        · refine TL_new rfl fun g7=>(TW_on (sub_pick [0] (by decide) rfl) ?_)
          refine TW_one rfl (TL_new rfl fun g8=>(TW_on (sub_pick [0] (by decide) rfl) ?_))
          refine TW_one rfl (TL_slv (i:=2) rfl fun _ qa1=>TL_slv (i:=3) rfl fun _ qb1=>TL_storeB (i:=12) (cs':=#[.bool e1,va1,vb1]) rfl rfl rfl rfl (by simp only[List.all_cons,List.all_nil,qa1,qb1];rfl) rfl (TW_on (sub_pick [0] (by decide) rfl) ?_))
          try refine GW ?_
          refine TW_one rfl (TL_slv (i:=10) rfl fun _ qa2=>TL_slv (i:=11) rfl fun _ qb2=>TL_storeB (i:=13) (cs':=#[.bool e2,va2,vb2]) rfl rfl rfl rfl (by simp only[List.all_cons,List.all_nil,qa2,qb2];rfl) rfl (TW_on (sub_pick [0] (by decide) rfl) ?_))
          try refine GW ?_
          refine E_pick [4,5,6,7,8,9,2,3,10,11,1,12,13] (by decide) rfl ?_
          exact E_mid (⟨vc2,vr2,vfol2,vl2,vs2,F2⟩,va1,vb1,va2,vb2,g7,g8) hx2 (by repeat' (first | exact True.intro | refine And.intro rfl ?_)) rfl
        · refine TL_new rfl fun g8=>(TW_on (sub_pick [0] (by decide) rfl) ?_)
          refine TW_one rfl (TL_new rfl fun g7=>(TW_on (sub_pick [0] (by decide) rfl) ?_))
          refine TW_one rfl (TL_slv (i:=2) rfl fun _ qa1=>TL_slv (i:=3) rfl fun _ qb1=>TL_storeB (i:=13) (cs':=#[.bool e1,va1,vb1]) rfl rfl rfl rfl (by simp only[List.all_cons,List.all_nil,qa1,qb1];rfl) rfl (TW_on (sub_pick [0] (by decide) rfl) ?_))
          try refine GW ?_
          refine TW_one rfl (TL_slv (i:=10) rfl fun _ qa2=>TL_slv (i:=11) rfl fun _ qb2=>TL_storeB (i:=12) (cs':=#[.bool e2,va2,vb2]) rfl rfl rfl rfl (by simp only[List.all_cons,List.all_nil,qa2,qb2];rfl) rfl (TW_on (sub_pick [0] (by decide) rfl) ?_))
          try refine GW ?_
          refine E_pick [4,5,6,7,8,9,2,3,10,11,1,13,12] (by decide) rfl ?_
          exact E_mid (⟨vc2,vr2,vfol2,vl2,vs2,F2⟩,va1,vb1,va2,vb2,g7,g8) hx2 (by repeat' (first | exact True.intro | refine And.intro rfl ?_)) rfl
      · refine TL_new rfl fun g7=>(TW_on (sub_pick [0] (by decide) rfl) ?_)
        refine TW_two rfl rfl ?_ ?_
        · refine TL_callB [2,3,4,5,6,7] [0,1,8,9,10] (by decide) rfl rfl (he2 EntersC.en rfl rfl rfl) (fun w hm hb=>hI2 ⟨vc1,vr1,vfol1,vl1,vs1,F1⟩ hx1 w _ (rex_on (hm.pick [2,3,4,5,6,7] (by decide) rfl) hkid2) hb) rfl rfl rfl ?_
          rintro⟨⟨vc2,vr2,vfol2,vl2,vs2,F2⟩,va2,vb2⟩ hx2
          have hx2:vs2.length=p2.follow.length:=hx2
          conv=>arg 8;simp only[zA,zB,zC,zD,zE,zF,zG,zH,zI,rowS,ret,id_eq,nodeSp,mkL]
          conv=>arg 7;simp only[nodeSp]
          refine TW_on (sub_pick [0] (by decide) rfl) ?_
          refine TW_one rfl (TL_new rfl fun g8=>(TW_on (sub_pick [0] (by decide) rfl) ?_))
          refine TW_one rfl (TL_slv (i:=2) rfl fun _ qa1=>TL_slv (i:=3) rfl fun _ qb1=>TL_storeB (i:=4) (cs':=#[.bool e1,va1,vb1]) rfl rfl rfl rfl (by simp only[List.all_cons,List.all_nil,qa1,qb1];rfl) rfl (TW_on (sub_pick [0] (by decide) rfl) ?_))
          try refine GW ?_
          refine TW_one rfl (TL_slv (i:=11) rfl fun _ qa2=>TL_slv (i:=12) rfl fun _ qb2=>TL_storeB (i:=13) (cs':=#[.bool e2,va2,vb2]) rfl rfl rfl rfl (by simp only[List.all_cons,List.all_nil,qa2,qb2];rfl) rfl (TW_on (sub_pick [0] (by decide) rfl) ?_))
          try refine GW ?_
          refine E_pick [5,6,7,8,9,10,2,3,11,12,1,4,13] (by decide) rfl ?_
          exact E_mid (⟨vc2,vr2,vfol2,vl2,vs2,F2⟩,va1,vb1,va2,vb2,g7,g8) hx2 (by repeat' (first | exact True.intro | refine And.intro rfl ?_)) rfl
        · refine TL_new rfl fun g8=>(TW_on (sub_pick [0] (by decide) rfl) ?_)
          refine TW_one rfl (TL_callB [2,3,4,5,6,7] [0,1,8,9,10,11] (by decide) rfl rfl (he2 EntersC.en rfl rfl rfl) (fun w hm hb=>hI2 ⟨vc1,vr1,vfol1,vl1,vs1,F1⟩ hx1 w _ (rex_on (hm.pick [2,3,4,5,6,7] (by decide) rfl) hkid2) hb) rfl rfl rfl ?_)
          rintro⟨⟨vc2,vr2,vfol2,vl2,vs2,F2⟩,va2,vb2⟩ hx2
          have hx2:vs2.length=p2.follow.length:=hx2
          conv=>arg 8;simp only[zA,zB,zC,zD,zE,zF,zG,zH,zI,rowS,ret,id_eq,nodeSp,mkL]
          conv=>arg 7;simp only[nodeSp]
          refine TW_on (sub_pick [0] (by decide) rfl) ?_
          refine TW_one rfl (TL_slv (i:=2) rfl fun _ qa1=>TL_slv (i:=3) rfl fun _ qb1=>TL_storeB (i:=4) (cs':=#[.bool e1,va1,vb1]) rfl rfl rfl rfl (by simp only[List.all_cons,List.all_nil,qa1,qb1];rfl) rfl (TW_on (sub_pick [0] (by decide) rfl) ?_))
          try refine GW ?_
          refine TW_one rfl (TL_slv (i:=12) rfl fun _ qa2=>TL_slv (i:=13) rfl fun _ qb2=>TL_storeB (i:=5) (cs':=#[.bool e2,va2,vb2]) rfl rfl rfl rfl (by simp only[List.all_cons,List.all_nil,qa2,qb2];rfl) rfl (TW_on (sub_pick [0] (by decide) rfl) ?_))
          try refine GW ?_
          refine E_pick [6,7,8,9,10,11,2,3,12,13,1,4,5] (by decide) rfl ?_
          exact E_mid (⟨vc2,vr2,vfol2,vl2,vs2,F2⟩,va1,vb1,va2,vb2,g7,g8) hx2 (by repeat' (first | exact True.intro | refine And.intro rfl ?_)) rfl
      · refine TL_new rfl fun g8=>(TW_on (sub_pick [0] (by decide) rfl) ?_)
        refine TW_two rfl rfl ?_ ?_
        · refine TL_callB [2,3,4,5,6,7] [0,1,8,9,10] (by decide) rfl rfl (he2 EntersC.en rfl rfl rfl) (fun w hm hb=>hI2 ⟨vc1,vr1,vfol1,vl1,vs1,F1⟩ hx1 w _ (rex_on (hm.pick [2,3,4,5,6,7] (by decide) rfl) hkid2) hb) rfl rfl rfl ?_
          rintro⟨⟨vc2,vr2,vfol2,vl2,vs2,F2⟩,va2,vb2⟩ hx2
          have hx2:vs2.length=p2.follow.length:=hx2
          conv=>arg 8;simp only[zA,zB,zC,zD,zE,zF,zG,zH,zI,rowS,ret,id_eq,nodeSp,mkL]
          conv=>arg 7;simp only[nodeSp]
          refine TW_on (sub_pick [0] (by decide) rfl) ?_
          refine TW_one rfl (TL_new rfl fun g7=>(TW_on (sub_pick [0] (by decide) rfl) ?_))
          refine TW_one rfl (TL_slv (i:=2) rfl fun _ qa1=>TL_slv (i:=3) rfl fun _ qb1=>TL_storeB (i:=13) (cs':=#[.bool e1,va1,vb1]) rfl rfl rfl rfl (by simp only[List.all_cons,List.all_nil,qa1,qb1];rfl) rfl (TW_on (sub_pick [0] (by decide) rfl) ?_))
          try refine GW ?_
          refine TW_one rfl (TL_slv (i:=11) rfl fun _ qa2=>TL_slv (i:=12) rfl fun _ qb2=>TL_storeB (i:=4) (cs':=#[.bool e2,va2,vb2]) rfl rfl rfl rfl (by simp only[List.all_cons,List.all_nil,qa2,qb2];rfl) rfl (TW_on (sub_pick [0] (by decide) rfl) ?_))
          try refine GW ?_
          refine E_pick [5,6,7,8,9,10,2,3,11,12,1,13,4] (by decide) rfl ?_
          exact E_mid (⟨vc2,vr2,vfol2,vl2,vs2,F2⟩,va1,vb1,va2,vb2,g7,g8) hx2 (by repeat' (first | exact True.intro | refine And.intro rfl ?_)) rfl
        · refine TL_new rfl fun g7=>(TW_on (sub_pick [0] (by decide) rfl) ?_)
          refine TW_one rfl (TL_callB [2,3,4,5,6,7] [0,1,8,9,10,11] (by decide) rfl rfl (he2 EntersC.en rfl rfl rfl) (fun w hm hb=>hI2 ⟨vc1,vr1,vfol1,vl1,vs1,F1⟩ hx1 w _ (rex_on (hm.pick [2,3,4,5,6,7] (by decide) rfl) hkid2) hb) rfl rfl rfl ?_)
          rintro⟨⟨vc2,vr2,vfol2,vl2,vs2,F2⟩,va2,vb2⟩ hx2
          have hx2:vs2.length=p2.follow.length:=hx2
          conv=>arg 8;simp only[zA,zB,zC,zD,zE,zF,zG,zH,zI,rowS,ret,id_eq,nodeSp,mkL]
          conv=>arg 7;simp only[nodeSp]
          refine TW_on (sub_pick [0] (by decide) rfl) ?_
          refine TW_one rfl (TL_slv (i:=2) rfl fun _ qa1=>TL_slv (i:=3) rfl fun _ qb1=>TL_storeB (i:=5) (cs':=#[.bool e1,va1,vb1]) rfl rfl rfl rfl (by simp only[List.all_cons,List.all_nil,qa1,qb1];rfl) rfl (TW_on (sub_pick [0] (by decide) rfl) ?_))
          try refine GW ?_
          refine TW_one rfl (TL_slv (i:=12) rfl fun _ qa2=>TL_slv (i:=13) rfl fun _ qb2=>TL_storeB (i:=4) (cs':=#[.bool e2,va2,vb2]) rfl rfl rfl rfl (by simp only[List.all_cons,List.all_nil,qa2,qb2];rfl) rfl (TW_on (sub_pick [0] (by decide) rfl) ?_))
          try refine GW ?_
          refine E_pick [6,7,8,9,10,11,2,3,12,13,1,5,4] (by decide) rfl ?_
          exact E_mid (⟨vc2,vr2,vfol2,vl2,vs2,F2⟩,va1,vb1,va2,vb2,g7,g8) hx2 (by repeat' (first | exact True.intro | refine And.intro rfl ?_)) rfl
    · refine TL_new rfl fun g7=>(TW_on (sub_pick [6] (by decide) rfl) ?_)
      refine TW_two rfl rfl ?_ ?_
      · refine TL_callB [0,1,2,3,4,5] [6,7,8] (by decide) rfl rfl (he2 EntersC.en rfl rfl rfl) (fun w hm hb=>hI1 w _ (rex_on (hm.pick [0,1,2,3,4,5] (by decide) rfl) hkid1) hb) rfl rfl rfl ?_
        rintro⟨⟨vc1,vr1,vfol1,vl1,vs1,F1⟩,va1,vb1⟩ hx1
        have hx1:vs1.length=p1.follow.length:=hx1
        conv=>arg 8;simp only[zA,zB,zC,zD,zE,zF,zG,zH,zI,rowS,ret,id_eq,nodeSp,mkL]
        conv=>arg 7;simp only[nodeSp]
        refine TW_on (sub_pick [0] (by decide) rfl) ?_
        refine TW_two rfl rfl ?_ ?_
        · refine TL_callB [3,4,5,6,7,8] [0,1,2,9,10] (by decide) rfl rfl (he2 EntersC.en rfl rfl rfl) (fun w hm hb=>hI2 ⟨vc1,vr1,vfol1,vl1,vs1,F1⟩ hx1 w _ (rex_on (hm.pick [3,4,5,6,7,8] (by decide) rfl) hkid2) hb) rfl rfl rfl ?_
          rintro⟨⟨vc2,vr2,vfol2,vl2,vs2,F2⟩,va2,vb2⟩ hx2
          have hx2:vs2.length=p2.follow.length:=hx2
          conv=>arg 8;simp only[zA,zB,zC,zD,zE,zF,zG,zH,zI,rowS,ret,id_eq,nodeSp,mkL]
          conv=>arg 7;simp only[nodeSp]
          refine TW_on (sub_pick [0] (by decide) rfl) ?_
          refine TW_one rfl (TL_new rfl fun g8=>(TW_on (sub_pick [0] (by decide) rfl) ?_))
          refine TW_one rfl (TL_slv (i:=3) rfl fun _ qa1=>TL_slv (i:=4) rfl fun _ qb1=>TL_storeB (i:=2) (cs':=#[.bool e1,va1,vb1]) rfl rfl rfl rfl (by simp only[List.all_cons,List.all_nil,qa1,qb1];rfl) rfl (TW_on (sub_pick [0] (by decide) rfl) ?_))
          try refine GW ?_
          refine TW_one rfl (TL_slv (i:=11) rfl fun _ qa2=>TL_slv (i:=12) rfl fun _ qb2=>TL_storeB (i:=13) (cs':=#[.bool e2,va2,vb2]) rfl rfl rfl rfl (by simp only[List.all_cons,List.all_nil,qa2,qb2];rfl) rfl (TW_on (sub_pick [0] (by decide) rfl) ?_))
          try refine GW ?_
          refine E_pick [5,6,7,8,9,10,3,4,11,12,1,2,13] (by decide) rfl ?_
          exact E_mid (⟨vc2,vr2,vfol2,vl2,vs2,F2⟩,va1,vb1,va2,vb2,g7,g8) hx2 (by repeat' (first | exact True.intro | refine And.intro rfl ?_)) rfl
        · refine TL_new rfl fun g8=>(TW_on (sub_pick [0] (by decide) rfl) ?_)
          refine TW_one rfl (TL_callB [3,4,5,6,7,8] [0,1,2,9,10,11] (by decide) rfl rfl (he2 EntersC.en rfl rfl rfl) (fun w hm hb=>hI2 ⟨vc1,vr1,vfol1,vl1,vs1,F1⟩ hx1 w _ (rex_on (hm.pick [3,4,5,6,7,8] (by decide) rfl) hkid2) hb) rfl rfl rfl ?_)
          rintro⟨⟨vc2,vr2,vfol2,vl2,vs2,F2⟩,va2,vb2⟩ hx2
          have hx2:vs2.length=p2.follow.length:=hx2
          conv=>arg 8;simp only[zA,zB,zC,zD,zE,zF,zG,zH,zI,rowS,ret,id_eq,nodeSp,mkL]
          conv=>arg 7;simp only[nodeSp]
          refine TW_on (sub_pick [0] (by decide) rfl) ?_
          refine TW_one rfl (TL_slv (i:=3) rfl fun _ qa1=>TL_slv (i:=4) rfl fun _ qb1=>TL_storeB (i:=2) (cs':=#[.bool e1,va1,vb1]) rfl rfl rfl rfl (by simp only[List.all_cons,List.all_nil,qa1,qb1];rfl) rfl (TW_on (sub_pick [0] (by decide) rfl) ?_))
          try refine GW ?_
          refine TW_one rfl (TL_slv (i:=12) rfl fun _ qa2=>TL_slv (i:=13) rfl fun _ qb2=>TL_storeB (i:=5) (cs':=#[.bool e2,va2,vb2]) rfl rfl rfl rfl (by simp only[List.all_cons,List.all_nil,qa2,qb2];rfl) rfl (TW_on (sub_pick [0] (by decide) rfl) ?_))
          try refine GW ?_
          refine E_pick [6,7,8,9,10,11,3,4,12,13,1,2,5] (by decide) rfl ?_
          exact E_mid (⟨vc2,vr2,vfol2,vl2,vs2,F2⟩,va1,vb1,va2,vb2,g7,g8) hx2 (by repeat' (first | exact True.intro | refine And.intro rfl ?_)) rfl
      · refine TL_new rfl fun g8=>(TW_on (sub_pick [6] (by decide) rfl) ?_)
        refine TW_one rfl (TL_callB [0,1,2,3,4,5] [6,7,8,9] (by decide) rfl rfl (he2 EntersC.en rfl rfl rfl) (fun w hm hb=>hI1 w _ (rex_on (hm.pick [0,1,2,3,4,5] (by decide) rfl) hkid1) hb) rfl rfl rfl ?_)
        rintro⟨⟨vc1,vr1,vfol1,vl1,vs1,F1⟩,va1,vb1⟩ hx1
        have hx1:vs1.length=p1.follow.length:=hx1
        conv=>arg 8;simp only[zA,zB,zC,zD,zE,zF,zG,zH,zI,rowS,ret,id_eq,nodeSp,mkL]
        conv=>arg 7;simp only[nodeSp]
        refine TW_on (sub_pick [0] (by decide) rfl) ?_
        refine TW_one rfl (TL_callB [4,5,6,7,8,9] [0,1,2,3,10,11] (by decide) rfl rfl (he2 EntersC.en rfl rfl rfl) (fun w hm hb=>hI2 ⟨vc1,vr1,vfol1,vl1,vs1,F1⟩ hx1 w _ (rex_on (hm.pick [4,5,6,7,8,9] (by decide) rfl) hkid2) hb) rfl rfl rfl ?_)
        rintro⟨⟨vc2,vr2,vfol2,vl2,vs2,F2⟩,va2,vb2⟩ hx2
        have hx2:vs2.length=p2.follow.length:=hx2
        conv=>arg 8;simp only[zA,zB,zC,zD,zE,zF,zG,zH,zI,rowS,ret,id_eq,nodeSp,mkL]
        conv=>arg 7;simp only[nodeSp]
        refine TW_on (sub_pick [0] (by decide) rfl) ?_
        refine TW_one rfl (TL_slv (i:=4) rfl fun _ qa1=>TL_slv (i:=5) rfl fun _ qb1=>TL_storeB (i:=2) (cs':=#[.bool e1,va1,vb1]) rfl rfl rfl rfl (by simp only[List.all_cons,List.all_nil,qa1,qb1];rfl) rfl (TW_on (sub_pick [0] (by decide) rfl) ?_))
        try refine GW ?_
        refine TW_one rfl (TL_slv (i:=12) rfl fun _ qa2=>TL_slv (i:=13) rfl fun _ qb2=>TL_storeB (i:=3) (cs':=#[.bool e2,va2,vb2]) rfl rfl rfl rfl (by simp only[List.all_cons,List.all_nil,qa2,qb2];rfl) rfl (TW_on (sub_pick [0] (by decide) rfl) ?_))
        try refine GW ?_
        refine E_pick [6,7,8,9,10,11,4,5,12,13,1,2,3] (by decide) rfl ?_
        exact E_mid (⟨vc2,vr2,vfol2,vl2,vs2,F2⟩,va1,vb1,va2,vb2,g7,g8) hx2 (by repeat' (first | exact True.intro | refine And.intro rfl ?_)) rfl
    · refine TL_new rfl fun g8=>(TW_on (sub_pick [6] (by decide) rfl) ?_)
      refine TW_two rfl rfl ?_ ?_
      · refine TL_callB [0,1,2,3,4,5] [6,7,8] (by decide) rfl rfl (he2 EntersC.en rfl rfl rfl) (fun w hm hb=>hI1 w _ (rex_on (hm.pick [0,1,2,3,4,5] (by decide) rfl) hkid1) hb) rfl rfl rfl ?_
        rintro⟨⟨vc1,vr1,vfol1,vl1,vs1,F1⟩,va1,vb1⟩ hx1
        have hx1:vs1.length=p1.follow.length:=hx1
        conv=>arg 8;simp only[zA,zB,zC,zD,zE,zF,zG,zH,zI,rowS,ret,id_eq,nodeSp,mkL]
        conv=>arg 7;simp only[nodeSp]
        refine TW_on (sub_pick [0] (by decide) rfl) ?_
        refine TW_two rfl rfl ?_ ?_
        · refine TL_callB [3,4,5,6,7,8] [0,1,2,9,10] (by decide) rfl rfl (he2 EntersC.en rfl rfl rfl) (fun w hm hb=>hI2 ⟨vc1,vr1,vfol1,vl1,vs1,F1⟩ hx1 w _ (rex_on (hm.pick [3,4,5,6,7,8] (by decide) rfl) hkid2) hb) rfl rfl rfl ?_
          rintro⟨⟨vc2,vr2,vfol2,vl2,vs2,F2⟩,va2,vb2⟩ hx2
          have hx2:vs2.length=p2.follow.length:=hx2
          conv=>arg 8;simp only[zA,zB,zC,zD,zE,zF,zG,zH,zI,rowS,ret,id_eq,nodeSp,mkL]
          conv=>arg 7;simp only[nodeSp]
          refine TW_on (sub_pick [0] (by decide) rfl) ?_
          refine TW_one rfl (TL_new rfl fun g7=>(TW_on (sub_pick [0] (by decide) rfl) ?_))
          refine TW_one rfl (TL_slv (i:=3) rfl fun _ qa1=>TL_slv (i:=4) rfl fun _ qb1=>TL_storeB (i:=13) (cs':=#[.bool e1,va1,vb1]) rfl rfl rfl rfl (by simp only[List.all_cons,List.all_nil,qa1,qb1];rfl) rfl (TW_on (sub_pick [0] (by decide) rfl) ?_))
          try refine GW ?_
          refine TW_one rfl (TL_slv (i:=11) rfl fun _ qa2=>TL_slv (i:=12) rfl fun _ qb2=>TL_storeB (i:=2) (cs':=#[.bool e2,va2,vb2]) rfl rfl rfl rfl (by simp only[List.all_cons,List.all_nil,qa2,qb2];rfl) rfl (TW_on (sub_pick [0] (by decide) rfl) ?_))
          try refine GW ?_
          refine E_pick [5,6,7,8,9,10,3,4,11,12,1,13,2] (by decide) rfl ?_
          exact E_mid (⟨vc2,vr2,vfol2,vl2,vs2,F2⟩,va1,vb1,va2,vb2,g7,g8) hx2 (by repeat' (first | exact True.intro | refine And.intro rfl ?_)) rfl
        · refine TL_new rfl fun g7=>(TW_on (sub_pick [0] (by decide) rfl) ?_)
          refine TW_one rfl (TL_callB [3,4,5,6,7,8] [0,1,2,9,10,11] (by decide) rfl rfl (he2 EntersC.en rfl rfl rfl) (fun w hm hb=>hI2 ⟨vc1,vr1,vfol1,vl1,vs1,F1⟩ hx1 w _ (rex_on (hm.pick [3,4,5,6,7,8] (by decide) rfl) hkid2) hb) rfl rfl rfl ?_)
          rintro⟨⟨vc2,vr2,vfol2,vl2,vs2,F2⟩,va2,vb2⟩ hx2
          have hx2:vs2.length=p2.follow.length:=hx2
          conv=>arg 8;simp only[zA,zB,zC,zD,zE,zF,zG,zH,zI,rowS,ret,id_eq,nodeSp,mkL]
          conv=>arg 7;simp only[nodeSp]
          refine TW_on (sub_pick [0] (by decide) rfl) ?_
          refine TW_one rfl (TL_slv (i:=3) rfl fun _ qa1=>TL_slv (i:=4) rfl fun _ qb1=>TL_storeB (i:=5) (cs':=#[.bool e1,va1,vb1]) rfl rfl rfl rfl (by simp only[List.all_cons,List.all_nil,qa1,qb1];rfl) rfl (TW_on (sub_pick [0] (by decide) rfl) ?_))
          try refine GW ?_
          refine TW_one rfl (TL_slv (i:=12) rfl fun _ qa2=>TL_slv (i:=13) rfl fun _ qb2=>TL_storeB (i:=2) (cs':=#[.bool e2,va2,vb2]) rfl rfl rfl rfl (by simp only[List.all_cons,List.all_nil,qa2,qb2];rfl) rfl (TW_on (sub_pick [0] (by decide) rfl) ?_))
          try refine GW ?_
          refine E_pick [6,7,8,9,10,11,3,4,12,13,1,5,2] (by decide) rfl ?_
          exact E_mid (⟨vc2,vr2,vfol2,vl2,vs2,F2⟩,va1,vb1,va2,vb2,g7,g8) hx2 (by repeat' (first | exact True.intro | refine And.intro rfl ?_)) rfl
      · refine TL_new rfl fun g7=>(TW_on (sub_pick [6] (by decide) rfl) ?_)
        refine TW_one rfl (TL_callB [0,1,2,3,4,5] [6,7,8,9] (by decide) rfl rfl (he2 EntersC.en rfl rfl rfl) (fun w hm hb=>hI1 w _ (rex_on (hm.pick [0,1,2,3,4,5] (by decide) rfl) hkid1) hb) rfl rfl rfl ?_)
        rintro⟨⟨vc1,vr1,vfol1,vl1,vs1,F1⟩,va1,vb1⟩ hx1
        have hx1:vs1.length=p1.follow.length:=hx1
        conv=>arg 8;simp only[zA,zB,zC,zD,zE,zF,zG,zH,zI,rowS,ret,id_eq,nodeSp,mkL]
        conv=>arg 7;simp only[nodeSp]
        refine TW_on (sub_pick [0] (by decide) rfl) ?_
        refine TW_one rfl (TL_callB [4,5,6,7,8,9] [0,1,2,3,10,11] (by decide) rfl rfl (he2 EntersC.en rfl rfl rfl) (fun w hm hb=>hI2 ⟨vc1,vr1,vfol1,vl1,vs1,F1⟩ hx1 w _ (rex_on (hm.pick [4,5,6,7,8,9] (by decide) rfl) hkid2) hb) rfl rfl rfl ?_)
        rintro⟨⟨vc2,vr2,vfol2,vl2,vs2,F2⟩,va2,vb2⟩ hx2
        have hx2:vs2.length=p2.follow.length:=hx2
        conv=>arg 8;simp only[zA,zB,zC,zD,zE,zF,zG,zH,zI,rowS,ret,id_eq,nodeSp,mkL]
        conv=>arg 7;simp only[nodeSp]
        refine TW_on (sub_pick [0] (by decide) rfl) ?_
        refine TW_one rfl (TL_slv (i:=4) rfl fun _ qa1=>TL_slv (i:=5) rfl fun _ qb1=>TL_storeB (i:=3) (cs':=#[.bool e1,va1,vb1]) rfl rfl rfl rfl (by simp only[List.all_cons,List.all_nil,qa1,qb1];rfl) rfl (TW_on (sub_pick [0] (by decide) rfl) ?_))
        try refine GW ?_
        refine TW_one rfl (TL_slv (i:=12) rfl fun _ qa2=>TL_slv (i:=13) rfl fun _ qb2=>TL_storeB (i:=2) (cs':=#[.bool e2,va2,vb2]) rfl rfl rfl rfl (by simp only[List.all_cons,List.all_nil,qa2,qb2];rfl) rfl (TW_on (sub_pick [0] (by decide) rfl) ?_))
        try refine GW ?_
        refine E_pick [6,7,8,9,10,11,4,5,12,13,1,3,2] (by decide) rfl ?_
        exact E_mid (⟨vc2,vr2,vfol2,vl2,vs2,F2⟩,va1,vb1,va2,vb2,g7,g8) hx2 (by repeat' (first | exact True.intro | refine And.intro rfl ?_)) rfl
  clear hI1 hI2 hat1 hat2
  rintro⟨⟨vc,vr,vfol,vl,vs,F⟩,va1,vb1,va2,vb2,g7,g8⟩ hx2
  have hx2:vs.length=p2.follow.length:=hx2
  dsimp only
  conv=>arg 7;simp only[zA,zB,zC,zD,zE,zF,zG,zH,zI,rowS,ret,id_eq,mkL]
  have hl1:=ris_len hp4
  have hl2:=ris_len hp5
  have hl3:=ris_len kp4
  have hl4:=ris_len kp5
  cases e1 with
  | true=>
    (repeat refine T_seq ?_)
    refine T_ord ([blkO g7 #[.bool true,va1,vb1] 125,blkO g8 #[.bool e2,va2,vb2] 125]) (.calm 0 (.calm 1 (.calm 2 (.calm 3 (.calm 4 (.calm 5 (.calm 6 (.calm 7 (.calm 8 (.calm 9 (.calm 11 (.calm 12 (.calm 13 (.calm 14 (.one 10 (.one 15 (.calm 16 (.one 17 (.done))))))))))))))))))) (sub_pick [11,12] (by decide) rfl) (by kernel_rfl) (by kernel_rfl) (by intro c a d v w h;cases d <;> exact h) ?_
    repeat(first|refine GW ?_|(refine GN ?_;first|refine QW (rr_load1 TyC.ty rfl (at_blk (i:=0) rfl rfl)) ?_|refine QW (rr_load1 TyC.ty rfl (at_blk (i:=1) rfl rfl)) ?_))
    refine TW_one rfl (TL_call (he2 EntersC.en rfl rfl rfl) (fun w' hm=>union_calls va1 va2 first1 first2 w' (Sl.of_own (hm.get (i:=6) rfl)) (Sl.of_own (hm.get (i:=8) rfl)) (by omega) (by omega)) rfl rfl rfl ?_)
    intro vu _
    conv=>arg 8;simp only[zA,zB,zC,zD,zE,zF,zG,zH,zI,rowS,ret,id_eq,intRS]
    refine TW_on (sub_pick [11,12] (by decide) rfl) ?_
    try refine GW ?_
    refine TW_one rfl (TL_call (he2 EntersC.en rfl rfl rfl) (fun w' hm=>union_calls vb1 vb2 last1 last2 w' (Sl.of_own (hm.get (i:=7) rfl)) (Sl.of_own (hm.get (i:=9) rfl)) (by omega) (by omega)) rfl rfl rfl ?_)
    intro vu2 _
    conv=>arg 8;simp only[zA,zB,zC,zD,zE,zF,zG,zH,zI,rowS,ret,id_eq,intRS]
    refine TL_rowv (i:=13) rfl fun bu cu hu _ _ => ?_
    refine TL_rowv (i:=14) rfl fun bu2 cu2 hu2 _ _ => ?_
    subst hu hu2
    refine TW_on (sub_pick [11,12] (by decide) rfl) ?_
    repeat(first|refine GW ?_|(refine GN ?_;first|refine QW (rr_build rfl (build_shpA _ _ _ _ _ _ _)) ?_))
    refine TW_one rfl (TL_storeB (i:=10) (cs':=#[.bool true,.slice bu (uni first1 first2).length cu,.slice bu2 (uni last1 last2).length cu2]) rfl rfl rfl rfl rfl rfl (TW_on (sub_pick [11,12] (by decide) rfl) ?_))
    try refine GW ?_
    try refine GA ?_
    refine E_retc1 (i:=10) rfl rfl rfl rfl fun w hm => ?_
    exact hm.meetsB (S:=nodeSp g vf ve rule (⟨true || e2,uni first1 first2,uni last1 last2⟩,p2)) (⟨vc,vr,vfol,vl,vs,F⟩,.slice bu (uni first1 first2).length cu,.slice bu2 (uni last1 last2).length cu2) hx2 [0,1,2,3,4,5,13,14] (by decide) rfl
  | false=>
    (repeat refine T_seq ?_)
    refine T_ord ([blkO g7 #[.bool false,va1,vb1] 125,blkO g8 #[.bool e2,va2,vb2] 125]) (.calm 0 (.calm 1 (.calm 2 (.calm 3 (.calm 4 (.calm 5 (.calm 6 (.calm 7 (.calm 8 (.calm 9 (.calm 11 (.calm 12 (.calm 13 (.calm 14 (.one 10 (.one 15 (.calm 16 (.one 17 (.done))))))))))))))))))) (sub_pick [11,12] (by decide) rfl) (by kernel_rfl) (by kernel_rfl) (by intro c a d v w h;cases d <;> exact h) ?_
    repeat(first|refine GW ?_|(refine GN ?_;first|refine QW (rr_load1 TyC.ty rfl (at_blk (i:=0) rfl rfl)) ?_|refine QW (rr_load1 TyC.ty rfl (at_blk (i:=1) rfl rfl)) ?_))
    refine TW_one rfl (TL_call (he2 EntersC.en rfl rfl rfl) (fun w' hm=>union_calls va1 va2 first1 first2 w' (Sl.of_own (hm.get (i:=6) rfl)) (Sl.of_own (hm.get (i:=8) rfl)) (by omega) (by omega)) rfl rfl rfl ?_)
    intro vu _
    conv=>arg 8;simp only[zA,zB,zC,zD,zE,zF,zG,zH,zI,rowS,ret,id_eq,intRS]
    refine TW_on (sub_pick [11,12] (by decide) rfl) ?_
    try refine GW ?_
    refine TW_one rfl (TL_call (he2 EntersC.en rfl rfl rfl) (fun w' hm=>union_calls vb1 vb2 last1 last2 w' (Sl.of_own (hm.get (i:=7) rfl)) (Sl.of_own (hm.get (i:=9) rfl)) (by omega) (by omega)) rfl rfl rfl ?_)
    intro vu2 _
    conv=>arg 8;simp only[zA,zB,zC,zD,zE,zF,zG,zH,zI,rowS,ret,id_eq,intRS]
    refine TL_rowv (i:=13) rfl fun bu cu hu _ _ => ?_
    refine TL_rowv (i:=14) rfl fun bu2 cu2 hu2 _ _ => ?_
    subst hu hu2
    refine TW_on (sub_pick [11,12] (by decide) rfl) ?_
    repeat(first|refine GW ?_|(refine GN ?_;first|refine QW (rr_build rfl (build_shpA _ _ _ _ _ _ _)) ?_))
    refine TW_one rfl (TL_storeB (i:=10) (cs':=#[.bool e2,.slice bu (uni first1 first2).length cu,.slice bu2 (uni last1 last2).length cu2]) rfl rfl rfl rfl rfl rfl (TW_on (sub_pick [11,12] (by decide) rfl) ?_))
    try refine GW ?_
    try refine GA ?_
    refine E_retc1 (i:=10) rfl rfl rfl rfl fun w hm => ?_
    exact hm.meetsB (S:=nodeSp g vf ve rule (⟨false || e2,uni first1 first2,uni last1 last2⟩,p2)) (⟨vc,vr,vfol,vl,vs,F⟩,.slice bu (uni first1 first2).length cu,.slice bu2 (uni last1 last2).length cu2) hx2 [0,1,2,3,4,5,13,14] (by decide) rfl
end Go.Proofs.Ytldiodhdefnlaaa.eng

/- PlC -/
namespace Go.Proofs.Ytldiodhdefnlaaa.eng
open Go.RowKit kit mix classL rexL placesL
set_option maxHeartbeats 32000000 in
set_option maxRecDepth 100000 in
theorem node_cat {M:Nat} (IH:NodeAt M) (a b1:Re) (ha:a.size≤M) (hb1:b1.size≤M) (g:Nat) (vf ve:Value) (rule:Int) (p:PS) (x:MIx) (v:Value) (w:World) (B:Base) (hp:PSOk p) (hx:x.vs.length=p.follow.length) (hn:p.classes.length+(a.size+b1.size+1)≤100000) (hr64:kit.okI64 rule) (hv:RexR (OldB B) B.w v (emb (.cat a b1))) (hm:Mem B (mkL g vf ve rule x p) w) :
    Calls Try.prog 36 #[.pointer (some ⟨g,0,none⟩),v] w (MeetsB (nodeSp g vf ve rule (nodeF rule (.cat a b1) p)) B):=by
  obtain⟨vk,rfl,_,hks⟩:=hv
  obtain⟨bk,ck,rfl,h1,h2,h3⟩:=hks
  obtain⟨b,off,rfl,hF,hrd⟩:=h3 (by show 0<2;decide)
  obtain⟨kb,kc,hr,hkid1⟩:=rkid_at (k:=0) hrd (by show 0<2;decide)
  obtain⟨kb2,kc2,hr2,hkid2⟩:=rkid_at (k:=1) hrd (by show 1<2;decide)
  have hat1:=fun (L:List Own) (j:Nat) (v:Value) hj=>at_oldB (L:=L) hF hr j v hj
  have hat2:=fun (L:List Own) (j:Nat) (v:Value) hj=>at_oldB (L:=L) hF hr2 j v hj
  clear h3 hrd hr hr2
  obtain⟨hp1,hp2,hp3,hp4,hp5⟩:=node_ok rule a p hp
  obtain⟨kp1,kp2,kp3,kp4,kp5⟩:=node_ok rule b1 _ hp1
  have hI1:=fun w B hv hm=>IH a ha g vf ve rule p x (rexV (emb a).kind (emb a).cls (.slice kb (emb a).kids.length kc)) w B hp hx (by omega) hr64 hv hm
  have hI2:=fun x1 hx1 w B hv hm=>IH b1 hb1 g vf ve rule (nodeF rule a p).2 x1 (rexV (emb b1).kind (emb b1).cls (.slice kb2 (emb b1).kids.length kc2)) w B hp1 hx1 (by omega) hr64 hv hm
  rw[show nodeF rule (.cat a b1) p=(⟨(nodeF rule a p).1.empty && (nodeF rule b1 (nodeF rule a p).2).1.empty,if (nodeF rule a p).1.empty then uni (nodeF rule a p).1.first (nodeF rule b1 (nodeF rule a p).2).1.first else (nodeF rule a p).1.first,if (nodeF rule b1 (nodeF rule a p).2).1.empty then uni (nodeF rule a p).1.last (nodeF rule b1 (nodeF rule a p).2).1.last else (nodeF rule b1 (nodeF rule a p).2).1.last⟩,{ (nodeF rule b1 (nodeF rule a p).2).2 with follow:=behindF (nodeF rule b1 (nodeF rule a p).2).2.follow (nodeF rule a p).1.last (nodeF rule b1 (nodeF rule a p).2).1.first }) from rfl]
  generalize nodeF rule b1 (nodeF rule a p).2=R2 at *
  generalize nodeF rule a p=R1 at *
  obtain⟨⟨e1,first1,last1⟩,p1⟩:=R1
  obtain⟨⟨e2,first2,last2⟩,p2⟩:=R2
  dsimp only at hp1 hp2 hp3 hp4 hp5 kp1 kp2 kp3 kp4 kp5 hI2 ⊢
  unfold mkL at hm
  refine enterB hm (args:=[.pointer (some ⟨g,0,none⟩),rexV 4 C4.zero (.slice (some ⟨b,off,none⟩) 2 ck)]) (n:=176) Try.func36 rfl rfl rfl ?_
  clear hm
  refine T_seq (T_region (TL_box rfl rfl rfl fun g3=>TL_new rfl fun g4 => ?_))
  conv=>arg 8;simp only[zA,zB,zC,zD,zE,zF,zG,zH,zI,rowS,ret,id_eq]
  repeat(first|refine GA ?_|refine gV (rr_load1 (v:= .int .i64 4) TyC.ty rfl (at_blk (i:=6) rfl rfl)) ?_)
  (repeat refine T_seq ?_)
  refine T_midq (ι:=MIx×Value×Value×Value×Value×Nat×Nat) (fun y=>y.1.vs.length=p2.follow.length) (fun y=>[(0,.pointer (some ⟨g,0,none⟩)),(4,.pointer (some ⟨g4,0,none⟩)),(9,.pointer (some ⟨y.2.2.2.2.2.1,0,none⟩)),(10,.pointer (some ⟨y.2.2.2.2.2.2,0,none⟩))])
    (fun y=>mkL g vf ve rule y.1 p2++[intR y.2.1 first1,intR y.2.2.1 last1,intR y.2.2.2.1 first2,intR y.2.2.2.2.1 last2,blkO g4 #[.bool false,.slice none 0 0,.slice none 0 0] 125,blkO y.2.2.2.2.2.1 #[.bool e1,y.2.1,y.2.2.1] 125,blkO y.2.2.2.2.2.2 #[.bool e2,y.2.2.2.1,y.2.2.2.2.1] 125]) ?_ ?_
  · refine T_ord ([blkO g3 (rexC 4 C4.zero (.slice (some ⟨b,off,none⟩) 2 ck)).toArray 85]) (.calm 0 (.calm 1 (.calm 2 (.calm 3 (.calm 4 (.calm 6 (.calm 7 (.calm 8 (.calm 9 (.calm 10 (.three 5 (.three 11 (.two 12 (.one 13 (.one 14 (.one 15 (.done)))) 13 (.one 12 (.one 14 (.one 15 (.done))))) 12 (.two 11 (.one 13 (.one 14 (.one 15 (.done)))) 13 (.one 11 (.one 14 (.one 15 (.done))))) 13 (.two 11 (.one 12 (.one 14 (.one 15 (.done)))) 12 (.one 11 (.one 14 (.one 15 (.done)))))) 12 (.two 5 (.two 11 (.one 13 (.one 14 (.one 15 (.done)))) 13 (.one 11 (.one 14 (.one 15 (.done))))) 13 (.one 5 (.one 11 (.one 14 (.one 15 (.done)))))) 13 (.two 5 (.two 11 (.one 12 (.one 14 (.one 15 (.done)))) 12 (.one 11 (.one 14 (.one 15 (.done))))) 12 (.one 5 (.one 11 (.one 14 (.one 15 (.done))))))))))))))))) (sub_pick [6] (by decide) rfl) (by kernel_rfl) (by kernel_rfl) (by intro c a d v w h;cases d <;> exact h) ?_
    repeat(first|refine GW ?_|(refine GN ?_;first|refine QW (rr_load1 (v:= .slice (some ⟨b,off,none⟩) 2 ck) TyC.ty rfl (at_blk (i:=0) rfl rfl)) ?_|refine QW (rr_idxc (j:=0) Und.eq TyC.ty rfl rfl (by decide)) ?_|refine QW (rr_idxc (j:=1) Und.eq TyC.ty rfl rfl (by decide)) ?_|refine QW (rr_loadN TyC.ty rfl rfl (hat1 _)) ?_|refine QW (rr_loadN TyC.ty rfl rfl (hat2 _)) ?_))
    refine TW_three rfl rfl rfl ?_ ?_ ?_
    · refine TL_callB [0,1,2,3,4,5] [6,7] (by decide) rfl rfl (he2 EntersC.en rfl rfl rfl) (fun w hm hb=>hI1 w _ (rex_on (hm.pick [0,1,2,3,4,5] (by decide) rfl) hkid1) hb) rfl rfl rfl ?_
      rintro⟨⟨vc1,vr1,vfol1,vl1,vs1,F1⟩,va1,vb1⟩ hx1
      have hx1:vs1.length=p1.follow.length:=hx1
      conv=>arg 8;simp only[zA,zB,zC,zD,zE,zF,zG,zH,zI,rowS,ret,id_eq,nodeSp,mkL]
      conv=>arg 7;simp only[nodeSp]
      refine TW_on (sub_pick [0] (by decide) rfl) ?_
      refine TW_three rfl rfl rfl ?_ ?_ ?_
      · refine TL_callB [2,3,4,5,6,7] [0,1,8,9] (by decide) rfl rfl (he2 EntersC.en rfl rfl rfl) (fun w hm hb=>hI2 ⟨vc1,vr1,vfol1,vl1,vs1,F1⟩ hx1 w _ (rex_on (hm.pick [2,3,4,5,6,7] (by decide) rfl) hkid2) hb) rfl rfl rfl ?_
        rintro⟨⟨vc2,vr2,vfol2,vl2,vs2,F2⟩,va2,vb2⟩ hx2
        have hx2:vs2.length=p2.follow.length:=hx2
        conv=>arg 8;simp only[zA,zB,zC,zD,zE,zF,zG,zH,zI,rowS,ret,id_eq,nodeSp,mkL]
        conv=>arg 7;simp only[nodeSp]
        refine TW_on (sub_pick [0] (by decide) rfl) ?_
        refine TW_two rfl rfl ?_ ?_
        · refine TL_new rfl fun g7=>(TW_on (sub_pick [0] (by decide) rfl) ?_)
          refine TW_one rfl (TL_new rfl fun g8=>(TW_on (sub_pick [0] (by decide) rfl) ?_))
          refine TW_one rfl (TL_slv (i:=2) rfl fun _ qa1=>TL_slv (i:=3) rfl fun _ qb1=>TL_storeB (i:=12) (cs':=#[.bool e1,va1,vb1]) rfl rfl rfl rfl (by simp only[List.all_cons,List.all_nil,qa1,qb1];rfl) rfl (TW_on (sub_pick [0] (by decide) rfl) ?_))
          try refine GW ?_
          refine TW_one rfl (TL_slv (i:=10) rfl fun _ qa2=>TL_slv (i:=11) rfl fun _ qb2=>TL_storeB (i:=13) (cs':=#[.bool e2,va2,vb2]) rfl rfl rfl rfl (by simp only[List.all_cons,List.all_nil,qa2,qb2];rfl) rfl (TW_on (sub_pick [0] (by decide) rfl) ?_))
          try refine GW ?_
          refine E_pick [4,5,6,7,8,9,2,3,10,11,1,12,13] (by decide) rfl ?_
          exact E_mid (⟨vc2,vr2,vfol2,vl2,vs2,F2⟩,va1,vb1,va2,vb2,g7,g8) hx2 (by repeat' (first | exact True.intro | refine And.intro rfl ?_)) rfl
        · refine TL_new rfl fun g8=>(TW_on (sub_pick [0] (by decide) rfl) ?_)
          refine TW_one rfl (TL_new rfl fun g7=>(TW_on (sub_pick [0] (by decide) rfl) ?_))
          refine TW_one rfl (TL_slv (i:=2) rfl fun _ qa1=>TL_slv (i:=3) rfl fun _ qb1=>TL_storeB (i:=13) (cs':=#[.bool e1,va1,vb1]) rfl rfl rfl rfl (by simp only[List.all_cons,List.all_nil,qa1,qb1];rfl) rfl (TW_on (sub_pick [0] (by decide) rfl) ?_))
          try refine GW ?_
          refine TW_one rfl (TL_slv (i:=10) rfl fun _ qa2=>TL_slv (i:=11) rfl fun _ qb2=>TL_storeB (i:=12) (cs':=#[.bool e2,va2,vb2]) rfl rfl rfl rfl (by simp only[List.all_cons,List.all_nil,qa2,qb2];rfl) rfl (TW_on (sub_pick [0] (by decide) rfl) ?_))
          try refine GW ?_
          refine E_pick [4,5,6,7,8,9,2,3,10,11,1,13,12] (by decide) rfl ?_
          exact E_mid (⟨vc2,vr2,vfol2,vl2,vs2,F2⟩,va1,vb1,va2,vb2,g7,g8) hx2 (by repeat' (first | exact True.intro | refine And.intro rfl ?_)) rfl
      · refine TL_new rfl fun g7=>(TW_on (sub_pick [0] (by decide) rfl) ?_)
        refine TW_two rfl rfl ?_ ?_
        · refine TL_callB [2,3,4,5,6,7] [0,1,8,9,10] (by decide) rfl rfl (he2 EntersC.en rfl rfl rfl) (fun w hm hb=>hI2 ⟨vc1,vr1,vfol1,vl1,vs1,F1⟩ hx1 w _ (rex_on (hm.pick [2,3,4,5,6,7] (by decide) rfl) hkid2) hb) rfl rfl rfl ?_
          rintro⟨⟨vc2,vr2,vfol2,vl2,vs2,F2⟩,va2,vb2⟩ hx2
          have hx2:vs2.length=p2.follow.length:=hx2
          conv=>arg 8;simp only[zA,zB,zC,zD,zE,zF,zG,zH,zI,rowS,ret,id_eq,nodeSp,mkL]
          conv=>arg 7;simp only[nodeSp]
          refine TW_on (sub_pick [0] (by decide) rfl) ?_
          refine TW_one rfl (TL_new rfl fun g8=>(TW_on (sub_pick [0] (by decide) rfl) ?_))
          refine TW_one rfl (TL_slv (i:=2) rfl fun _ qa1=>TL_slv (i:=3) rfl fun _ qb1=>TL_storeB (i:=4) (cs':=#[.bool e1,va1,vb1]) rfl rfl rfl rfl (by simp only[List.all_cons,List.all_nil,qa1,qb1];rfl) rfl (TW_on (sub_pick [0] (by decide) rfl) ?_))
          try refine GW ?_
          refine TW_one rfl (TL_slv (i:=11) rfl fun _ qa2=>TL_slv (i:=12) rfl fun _ qb2=>TL_storeB (i:=13) (cs':=#[.bool e2,va2,vb2]) rfl rfl rfl rfl (by simp only[List.all_cons,List.all_nil,qa2,qb2];rfl) rfl (TW_on (sub_pick [0] (by decide) rfl) ?_))
          try refine GW ?_
          refine E_pick [5,6,7,8,9,10,2,3,11,12,1,4,13] (by decide) rfl ?_
          exact E_mid (⟨vc2,vr2,vfol2,vl2,vs2,F2⟩,va1,vb1,va2,vb2,g7,g8) hx2 (by repeat' (first | exact True.intro | refine And.intro rfl ?_)) rfl
        · refine TL_new rfl fun g8=>(TW_on (sub_pick [0] (by decide) rfl) ?_)
          refine TW_one rfl (TL_callB [2,3,4,5,6,7] [0,1,8,9,10,11] (by decide) rfl rfl (he2 EntersC.en rfl rfl rfl) (fun w hm hb=>hI2 ⟨vc1,vr1,vfol1,vl1,vs1,F1⟩ hx1 w _ (rex_on (hm.pick [2,3,4,5,6,7] (by decide) rfl) hkid2) hb) rfl rfl rfl ?_)
          rintro⟨⟨vc2,vr2,vfol2,vl2,vs2,F2⟩,va2,vb2⟩ hx2
          have hx2:vs2.length=p2.follow.length:=hx2
          conv=>arg 8;simp only[zA,zB,zC,zD,zE,zF,zG,zH,zI,rowS,ret,id_eq,nodeSp,mkL]
          conv=>arg 7;simp only[nodeSp]
          refine TW_on (sub_pick [0] (by decide) rfl) ?_
          refine TW_one rfl (TL_slv (i:=2) rfl fun _ qa1=>TL_slv (i:=3) rfl fun _ qb1=>TL_storeB (i:=4) (cs':=#[.bool e1,va1,vb1]) rfl rfl rfl rfl (by simp only[List.all_cons,List.all_nil,qa1,qb1];rfl) rfl (TW_on (sub_pick [0] (by decide) rfl) ?_))
          try refine GW ?_
          refine TW_one rfl (TL_slv (i:=12) rfl fun _ qa2=>TL_slv (i:=13) rfl fun _ qb2=>TL_storeB (i:=5) (cs':=#[.bool e2,va2,vb2]) rfl rfl rfl rfl (by simp only[List.all_cons,List.all_nil,qa2,qb2];rfl) rfl (TW_on (sub_pick [0] (by decide) rfl) ?_))
          try refine GW ?_
          refine E_pick [6,7,8,9,10,11,2,3,12,13,1,4,5] (by decide) rfl ?_
          exact E_mid (⟨vc2,vr2,vfol2,vl2,vs2,F2⟩,va1,vb1,va2,vb2,g7,g8) hx2 (by repeat' (first | exact True.intro | refine And.intro rfl ?_)) rfl
      · refine TL_new rfl fun g8=>(TW_on (sub_pick [0] (by decide) rfl) ?_)
        refine TW_two rfl rfl ?_ ?_
        · refine TL_callB [2,3,4,5,6,7] [0,1,8,9,10] (by decide) rfl rfl (he2 EntersC.en rfl rfl rfl) (fun w hm hb=>hI2 ⟨vc1,vr1,vfol1,vl1,vs1,F1⟩ hx1 w _ (rex_on (hm.pick [2,3,4,5,6,7] (by decide) rfl) hkid2) hb) rfl rfl rfl ?_
          rintro⟨⟨vc2,vr2,vfol2,vl2,vs2,F2⟩,va2,vb2⟩ hx2
          have hx2:vs2.length=p2.follow.length:=hx2
          conv=>arg 8;simp only[zA,zB,zC,zD,zE,zF,zG,zH,zI,rowS,ret,id_eq,nodeSp,mkL]
          conv=>arg 7;simp only[nodeSp]
          refine TW_on (sub_pick [0] (by decide) rfl) ?_
          refine TW_one rfl (TL_new rfl fun g7=>(TW_on (sub_pick [0] (by decide) rfl) ?_))
          refine TW_one rfl (TL_slv (i:=2) rfl fun _ qa1=>TL_slv (i:=3) rfl fun _ qb1=>TL_storeB (i:=13) (cs':=#[.bool e1,va1,vb1]) rfl rfl rfl rfl (by simp only[List.all_cons,List.all_nil,qa1,qb1];rfl) rfl (TW_on (sub_pick [0] (by decide) rfl) ?_))
          try refine GW ?_
          refine TW_one rfl (TL_slv (i:=11) rfl fun _ qa2=>TL_slv (i:=12) rfl fun _ qb2=>TL_storeB (i:=4) (cs':=#[.bool e2,va2,vb2]) rfl rfl rfl rfl (by simp only[List.all_cons,List.all_nil,qa2,qb2];rfl) rfl (TW_on (sub_pick [0] (by decide) rfl) ?_))
          try refine GW ?_
          refine E_pick [5,6,7,8,9,10,2,3,11,12,1,13,4] (by decide) rfl ?_
          exact E_mid (⟨vc2,vr2,vfol2,vl2,vs2,F2⟩,va1,vb1,va2,vb2,g7,g8) hx2 (by repeat' (first | exact True.intro | refine And.intro rfl ?_)) rfl
        · refine TL_new rfl fun g7=>(TW_on (sub_pick [0] (by decide) rfl) ?_)
          refine TW_one rfl (TL_callB [2,3,4,5,6,7] [0,1,8,9,10,11] (by decide) rfl rfl (he2 EntersC.en rfl rfl rfl) (fun w hm hb=>hI2 ⟨vc1,vr1,vfol1,vl1,vs1,F1⟩ hx1 w _ (rex_on (hm.pick [2,3,4,5,6,7] (by decide) rfl) hkid2) hb) rfl rfl rfl ?_)
          rintro⟨⟨vc2,vr2,vfol2,vl2,vs2,F2⟩,va2,vb2⟩ hx2
          have hx2:vs2.length=p2.follow.length:=hx2
          conv=>arg 8;simp only[zA,zB,zC,zD,zE,zF,zG,zH,zI,rowS,ret,id_eq,nodeSp,mkL]
          conv=>arg 7;simp only[nodeSp]
          refine TW_on (sub_pick [0] (by decide) rfl) ?_
          refine TW_one rfl (TL_slv (i:=2) rfl fun _ qa1=>TL_slv (i:=3) rfl fun _ qb1=>TL_storeB (i:=5) (cs':=#[.bool e1,va1,vb1]) rfl rfl rfl rfl (by simp only[List.all_cons,List.all_nil,qa1,qb1];rfl) rfl (TW_on (sub_pick [0] (by decide) rfl) ?_))
          try refine GW ?_
          refine TW_one rfl (TL_slv (i:=12) rfl fun _ qa2=>TL_slv (i:=13) rfl fun _ qb2=>TL_storeB (i:=4) (cs':=#[.bool e2,va2,vb2]) rfl rfl rfl rfl (by simp only[List.all_cons,List.all_nil,qa2,qb2];rfl) rfl (TW_on (sub_pick [0] (by decide) rfl) ?_))
          try refine GW ?_
          refine E_pick [6,7,8,9,10,11,2,3,12,13,1,5,4] (by decide) rfl ?_
          exact E_mid (⟨vc2,vr2,vfol2,vl2,vs2,F2⟩,va1,vb1,va2,vb2,g7,g8) hx2 (by repeat' (first | exact True.intro | refine And.intro rfl ?_)) rfl
    · refine TL_new rfl fun g7=>(TW_on (sub_pick [6] (by decide) rfl) ?_)
      refine TW_two rfl rfl ?_ ?_
      · refine TL_callB [0,1,2,3,4,5] [6,7,8] (by decide) rfl rfl (he2 EntersC.en rfl rfl rfl) (fun w hm hb=>hI1 w _ (rex_on (hm.pick [0,1,2,3,4,5] (by decide) rfl) hkid1) hb) rfl rfl rfl ?_
        rintro⟨⟨vc1,vr1,vfol1,vl1,vs1,F1⟩,va1,vb1⟩ hx1
        have hx1:vs1.length=p1.follow.length:=hx1
        conv=>arg 8;simp only[zA,zB,zC,zD,zE,zF,zG,zH,zI,rowS,ret,id_eq,nodeSp,mkL]
        conv=>arg 7;simp only[nodeSp]
        refine TW_on (sub_pick [0] (by decide) rfl) ?_
        refine TW_two rfl rfl ?_ ?_
        · refine TL_callB [3,4,5,6,7,8] [0,1,2,9,10] (by decide) rfl rfl (he2 EntersC.en rfl rfl rfl) (fun w hm hb=>hI2 ⟨vc1,vr1,vfol1,vl1,vs1,F1⟩ hx1 w _ (rex_on (hm.pick [3,4,5,6,7,8] (by decide) rfl) hkid2) hb) rfl rfl rfl ?_
          rintro⟨⟨vc2,vr2,vfol2,vl2,vs2,F2⟩,va2,vb2⟩ hx2
          have hx2:vs2.length=p2.follow.length:=hx2
          conv=>arg 8;simp only[zA,zB,zC,zD,zE,zF,zG,zH,zI,rowS,ret,id_eq,nodeSp,mkL]
          conv=>arg 7;simp only[nodeSp]
          refine TW_on (sub_pick [0] (by decide) rfl) ?_
          refine TW_one rfl (TL_new rfl fun g8=>(TW_on (sub_pick [0] (by decide) rfl) ?_))
          refine TW_one rfl (TL_slv (i:=3) rfl fun _ qa1=>TL_slv (i:=4) rfl fun _ qb1=>TL_storeB (i:=2) (cs':=#[.bool e1,va1,vb1]) rfl rfl rfl rfl (by simp only[List.all_cons,List.all_nil,qa1,qb1];rfl) rfl (TW_on (sub_pick [0] (by decide) rfl) ?_))
          try refine GW ?_
          refine TW_one rfl (TL_slv (i:=11) rfl fun _ qa2=>TL_slv (i:=12) rfl fun _ qb2=>TL_storeB (i:=13) (cs':=#[.bool e2,va2,vb2]) rfl rfl rfl rfl (by simp only[List.all_cons,List.all_nil,qa2,qb2];rfl) rfl (TW_on (sub_pick [0] (by decide) rfl) ?_))
          try refine GW ?_
          refine E_pick [5,6,7,8,9,10,3,4,11,12,1,2,13] (by decide) rfl ?_
          exact E_mid (⟨vc2,vr2,vfol2,vl2,vs2,F2⟩,va1,vb1,va2,vb2,g7,g8) hx2 (by repeat' (first | exact True.intro | refine And.intro rfl ?_)) rfl
        · refine TL_new rfl fun g8=>(TW_on (sub_pick [0] (by decide) rfl) ?_)
          refine TW_one rfl (TL_callB [3,4,5,6,7,8] [0,1,2,9,10,11] (by decide) rfl rfl (he2 EntersC.en rfl rfl rfl) (fun w hm hb=>hI2 ⟨vc1,vr1,vfol1,vl1,vs1,F1⟩ hx1 w _ (rex_on (hm.pick [3,4,5,6,7,8] (by decide) rfl) hkid2) hb) rfl rfl rfl ?_)
          rintro⟨⟨vc2,vr2,vfol2,vl2,vs2,F2⟩,va2,vb2⟩ hx2
          have hx2:vs2.length=p2.follow.length:=hx2
          conv=>arg 8;simp only[zA,zB,zC,zD,zE,zF,zG,zH,zI,rowS,ret,id_eq,nodeSp,mkL]
          conv=>arg 7;simp only[nodeSp]
          refine TW_on (sub_pick [0] (by decide) rfl) ?_
          refine TW_one rfl (TL_slv (i:=3) rfl fun _ qa1=>TL_slv (i:=4) rfl fun _ qb1=>TL_storeB (i:=2) (cs':=#[.bool e1,va1,vb1]) rfl rfl rfl rfl (by simp only[List.all_cons,List.all_nil,qa1,qb1];rfl) rfl (TW_on (sub_pick [0] (by decide) rfl) ?_))
          try refine GW ?_
          refine TW_one rfl (TL_slv (i:=12) rfl fun _ qa2=>TL_slv (i:=13) rfl fun _ qb2=>TL_storeB (i:=5) (cs':=#[.bool e2,va2,vb2]) rfl rfl rfl rfl (by simp only[List.all_cons,List.all_nil,qa2,qb2];rfl) rfl (TW_on (sub_pick [0] (by decide) rfl) ?_))
          try refine GW ?_
          refine E_pick [6,7,8,9,10,11,3,4,12,13,1,2,5] (by decide) rfl ?_
          exact E_mid (⟨vc2,vr2,vfol2,vl2,vs2,F2⟩,va1,vb1,va2,vb2,g7,g8) hx2 (by repeat' (first | exact True.intro | refine And.intro rfl ?_)) rfl
      · refine TL_new rfl fun g8=>(TW_on (sub_pick [6] (by decide) rfl) ?_)
        refine TW_one rfl (TL_callB [0,1,2,3,4,5] [6,7,8,9] (by decide) rfl rfl (he2 EntersC.en rfl rfl rfl) (fun w hm hb=>hI1 w _ (rex_on (hm.pick [0,1,2,3,4,5] (by decide) rfl) hkid1) hb) rfl rfl rfl ?_)
        rintro⟨⟨vc1,vr1,vfol1,vl1,vs1,F1⟩,va1,vb1⟩ hx1
        have hx1:vs1.length=p1.follow.length:=hx1
        conv=>arg 8;simp only[zA,zB,zC,zD,zE,zF,zG,zH,zI,rowS,ret,id_eq,nodeSp,mkL]
        conv=>arg 7;simp only[nodeSp]
        refine TW_on (sub_pick [0] (by decide) rfl) ?_
        refine TW_one rfl (TL_callB [4,5,6,7,8,9] [0,1,2,3,10,11] (by decide) rfl rfl (he2 EntersC.en rfl rfl rfl) (fun w hm hb=>hI2 ⟨vc1,vr1,vfol1,vl1,vs1,F1⟩ hx1 w _ (rex_on (hm.pick [4,5,6,7,8,9] (by decide) rfl) hkid2) hb) rfl rfl rfl ?_)
        rintro⟨⟨vc2,vr2,vfol2,vl2,vs2,F2⟩,va2,vb2⟩ hx2
        have hx2:vs2.length=p2.follow.length:=hx2
        conv=>arg 8;simp only[zA,zB,zC,zD,zE,zF,zG,zH,zI,rowS,ret,id_eq,nodeSp,mkL]
        conv=>arg 7;simp only[nodeSp]
        refine TW_on (sub_pick [0] (by decide) rfl) ?_
        refine TW_one rfl (TL_slv (i:=4) rfl fun _ qa1=>TL_slv (i:=5) rfl fun _ qb1=>TL_storeB (i:=2) (cs':=#[.bool e1,va1,vb1]) rfl rfl rfl rfl (by simp only[List.all_cons,List.all_nil,qa1,qb1];rfl) rfl (TW_on (sub_pick [0] (by decide) rfl) ?_))
        try refine GW ?_
        refine TW_one rfl (TL_slv (i:=12) rfl fun _ qa2=>TL_slv (i:=13) rfl fun _ qb2=>TL_storeB (i:=3) (cs':=#[.bool e2,va2,vb2]) rfl rfl rfl rfl (by simp only[List.all_cons,List.all_nil,qa2,qb2];rfl) rfl (TW_on (sub_pick [0] (by decide) rfl) ?_))
        try refine GW ?_
        refine E_pick [6,7,8,9,10,11,4,5,12,13,1,2,3] (by decide) rfl ?_
        exact E_mid (⟨vc2,vr2,vfol2,vl2,vs2,F2⟩,va1,vb1,va2,vb2,g7,g8) hx2 (by repeat' (first | exact True.intro | refine And.intro rfl ?_)) rfl
    · refine TL_new rfl fun g8=>(TW_on (sub_pick [6] (by decide) rfl) ?_)
      refine TW_two rfl rfl ?_ ?_
      · refine TL_callB [0,1,2,3,4,5] [6,7,8] (by decide) rfl rfl (he2 EntersC.en rfl rfl rfl) (fun w hm hb=>hI1 w _ (rex_on (hm.pick [0,1,2,3,4,5] (by decide) rfl) hkid1) hb) rfl rfl rfl ?_
        rintro⟨⟨vc1,vr1,vfol1,vl1,vs1,F1⟩,va1,vb1⟩ hx1
        have hx1:vs1.length=p1.follow.length:=hx1
        conv=>arg 8;simp only[zA,zB,zC,zD,zE,zF,zG,zH,zI,rowS,ret,id_eq,nodeSp,mkL]
        conv=>arg 7;simp only[nodeSp]
        refine TW_on (sub_pick [0] (by decide) rfl) ?_
        refine TW_two rfl rfl ?_ ?_
        · refine TL_callB [3,4,5,6,7,8] [0,1,2,9,10] (by decide) rfl rfl (he2 EntersC.en rfl rfl rfl) (fun w hm hb=>hI2 ⟨vc1,vr1,vfol1,vl1,vs1,F1⟩ hx1 w _ (rex_on (hm.pick [3,4,5,6,7,8] (by decide) rfl) hkid2) hb) rfl rfl rfl ?_
          rintro⟨⟨vc2,vr2,vfol2,vl2,vs2,F2⟩,va2,vb2⟩ hx2
          have hx2:vs2.length=p2.follow.length:=hx2
          conv=>arg 8;simp only[zA,zB,zC,zD,zE,zF,zG,zH,zI,rowS,ret,id_eq,nodeSp,mkL]
          conv=>arg 7;simp only[nodeSp]
          refine TW_on (sub_pick [0] (by decide) rfl) ?_
          refine TW_one rfl (TL_new rfl fun g7=>(TW_on (sub_pick [0] (by decide) rfl) ?_))
          refine TW_one rfl (TL_slv (i:=3) rfl fun _ qa1=>TL_slv (i:=4) rfl fun _ qb1=>TL_storeB (i:=13) (cs':=#[.bool e1,va1,vb1]) rfl rfl rfl rfl (by simp only[List.all_cons,List.all_nil,qa1,qb1];rfl) rfl (TW_on (sub_pick [0] (by decide) rfl) ?_))
          try refine GW ?_
          refine TW_one rfl (TL_slv (i:=11) rfl fun _ qa2=>TL_slv (i:=12) rfl fun _ qb2=>TL_storeB (i:=2) (cs':=#[.bool e2,va2,vb2]) rfl rfl rfl rfl (by simp only[List.all_cons,List.all_nil,qa2,qb2];rfl) rfl (TW_on (sub_pick [0] (by decide) rfl) ?_))
          try refine GW ?_
          refine E_pick [5,6,7,8,9,10,3,4,11,12,1,13,2] (by decide) rfl ?_
          exact E_mid (⟨vc2,vr2,vfol2,vl2,vs2,F2⟩,va1,vb1,va2,vb2,g7,g8) hx2 (by repeat' (first | exact True.intro | refine And.intro rfl ?_)) rfl
        · refine TL_new rfl fun g7=>(TW_on (sub_pick [0] (by decide) rfl) ?_)
          refine TW_one rfl (TL_callB [3,4,5,6,7,8] [0,1,2,9,10,11] (by decide) rfl rfl (he2 EntersC.en rfl rfl rfl) (fun w hm hb=>hI2 ⟨vc1,vr1,vfol1,vl1,vs1,F1⟩ hx1 w _ (rex_on (hm.pick [3,4,5,6,7,8] (by decide) rfl) hkid2) hb) rfl rfl rfl ?_)
          rintro⟨⟨vc2,vr2,vfol2,vl2,vs2,F2⟩,va2,vb2⟩ hx2
          have hx2:vs2.length=p2.follow.length:=hx2
          conv=>arg 8;simp only[zA,zB,zC,zD,zE,zF,zG,zH,zI,rowS,ret,id_eq,nodeSp,mkL]
          conv=>arg 7;simp only[nodeSp]
          refine TW_on (sub_pick [0] (by decide) rfl) ?_
          refine TW_one rfl (TL_slv (i:=3) rfl fun _ qa1=>TL_slv (i:=4) rfl fun _ qb1=>TL_storeB (i:=5) (cs':=#[.bool e1,va1,vb1]) rfl rfl rfl rfl (by simp only[List.all_cons,List.all_nil,qa1,qb1];rfl) rfl (TW_on (sub_pick [0] (by decide) rfl) ?_))
          try refine GW ?_
          refine TW_one rfl (TL_slv (i:=12) rfl fun _ qa2=>TL_slv (i:=13) rfl fun _ qb2=>TL_storeB (i:=2) (cs':=#[.bool e2,va2,vb2]) rfl rfl rfl rfl (by simp only[List.all_cons,List.all_nil,qa2,qb2];rfl) rfl (TW_on (sub_pick [0] (by decide) rfl) ?_))
          try refine GW ?_
          refine E_pick [6,7,8,9,10,11,3,4,12,13,1,5,2] (by decide) rfl ?_
          exact E_mid (⟨vc2,vr2,vfol2,vl2,vs2,F2⟩,va1,vb1,va2,vb2,g7,g8) hx2 (by repeat' (first | exact True.intro | refine And.intro rfl ?_)) rfl
      · refine TL_new rfl fun g7=>(TW_on (sub_pick [6] (by decide) rfl) ?_)
        refine TW_one rfl (TL_callB [0,1,2,3,4,5] [6,7,8,9] (by decide) rfl rfl (he2 EntersC.en rfl rfl rfl) (fun w hm hb=>hI1 w _ (rex_on (hm.pick [0,1,2,3,4,5] (by decide) rfl) hkid1) hb) rfl rfl rfl ?_)
        rintro⟨⟨vc1,vr1,vfol1,vl1,vs1,F1⟩,va1,vb1⟩ hx1
        have hx1:vs1.length=p1.follow.length:=hx1
        conv=>arg 8;simp only[zA,zB,zC,zD,zE,zF,zG,zH,zI,rowS,ret,id_eq,nodeSp,mkL]
        conv=>arg 7;simp only[nodeSp]
        refine TW_on (sub_pick [0] (by decide) rfl) ?_
        refine TW_one rfl (TL_callB [4,5,6,7,8,9] [0,1,2,3,10,11] (by decide) rfl rfl (he2 EntersC.en rfl rfl rfl) (fun w hm hb=>hI2 ⟨vc1,vr1,vfol1,vl1,vs1,F1⟩ hx1 w _ (rex_on (hm.pick [4,5,6,7,8,9] (by decide) rfl) hkid2) hb) rfl rfl rfl ?_)
        rintro⟨⟨vc2,vr2,vfol2,vl2,vs2,F2⟩,va2,vb2⟩ hx2
        have hx2:vs2.length=p2.follow.length:=hx2
        conv=>arg 8;simp only[zA,zB,zC,zD,zE,zF,zG,zH,zI,rowS,ret,id_eq,nodeSp,mkL]
        conv=>arg 7;simp only[nodeSp]
        refine TW_on (sub_pick [0] (by decide) rfl) ?_
        refine TW_one rfl (TL_slv (i:=4) rfl fun _ qa1=>TL_slv (i:=5) rfl fun _ qb1=>TL_storeB (i:=3) (cs':=#[.bool e1,va1,vb1]) rfl rfl rfl rfl (by simp only[List.all_cons,List.all_nil,qa1,qb1];rfl) rfl (TW_on (sub_pick [0] (by decide) rfl) ?_))
        try refine GW ?_
        refine TW_one rfl (TL_slv (i:=12) rfl fun _ qa2=>TL_slv (i:=13) rfl fun _ qb2=>TL_storeB (i:=2) (cs':=#[.bool e2,va2,vb2]) rfl rfl rfl rfl (by simp only[List.all_cons,List.all_nil,qa2,qb2];rfl) rfl (TW_on (sub_pick [0] (by decide) rfl) ?_))
        try refine GW ?_
        refine E_pick [6,7,8,9,10,11,4,5,12,13,1,3,2] (by decide) rfl ?_
        exact E_mid (⟨vc2,vr2,vfol2,vl2,vs2,F2⟩,va1,vb1,va2,vb2,g7,g8) hx2 (by repeat' (first | exact True.intro | refine And.intro rfl ?_)) rfl
  clear hI1 hI2 hat1 hat2
  rintro⟨⟨vc,vr,vfol,vl,vs,F⟩,va1,vb1,va2,vb2,g7,g8⟩ hx2
  have hx2:vs.length=p2.follow.length:=hx2
  dsimp only
  conv=>arg 7;simp only[zA,zB,zC,zD,zE,zF,zG,zH,zI,rowS,ret,id_eq,mkL]
  have hl1:=ris_len hp4
  have hl2:=ris_len hp5
  have hl3:=ris_len kp4
  have hl4:=ris_len kp5
  repeat(first|refine GA ?_|refine gV (rr_load1 (v:=vb1) TyC.ty rfl (at_blk (i:=11) rfl rfl)) ?_|refine gV (rr_load1 (v:=va2) TyC.ty rfl (at_blk (i:=12) rfl rfl)) ?_)
  refine TL_callB [0,3,4,7,8] [1,2,5,6,9,10,11,12] (by decide) rfl rfl (he3 EntersC.en rfl rfl rfl rfl) (fun w hm hb=>behind_calls g vc vr vf vfol vl ve rule vb1 va2 vs F p2.follow last1 first2 w _ hx2 (by rw[kp1.follow];omega) (by rw[kp1.follow];exact kp1.ris) (by rw[kp1.follow];exact ris_mono hp5 kp2) (by rw[kp1.follow];exact kp4) hb) rfl rfl rfl ?_
  rintro⟨vs',F'⟩ hx3
  have hx3:vs'.length=p2.follow.length:=hx3
  conv=>arg 8;simp only[zA,zB,zC,zD,zE,zF,zG,zH,zI,rowS,ret,id_eq,behSp]
  refine TL_rowv (i:=3) rfl fun ba ca hva _ _ => ?_
  refine TL_rowv (i:=4) rfl fun bb cb hvb _ _ => ?_
  subst hva hvb
  cases e1 with
  | true=>
    cases e2 with
    | true=>
      repeat(first|refine GA ?_|refine gV (rr_load1 TyC.ty rfl (at_blk (i:=6) rfl rfl)) ?_|refine gV (rr_load1 TyC.ty rfl (at_blk (i:=7) rfl rfl)) ?_|refine gV (rr_build rfl (build_shpA _ _ _ _ _ _ _)) ?_)
      refine TL_new rfl fun g11 => ?_
      conv=>arg 8;simp only[zA,zB,zC,zD,zE,zF,zG,zH,zI,rowS,ret,id_eq]
      refine TL_storeB (i:=13) (cs':=#[.bool true,.slice ba first1.length ca,.slice bb last2.length cb]) rfl rfl rfl rfl rfl rfl ?_
      conv=>arg 8;simp only[zA,zB,zC,zD,zE,zF,zG,zH,zI,rowS,ret,id_eq]
      repeat(first|refine GA ?_|refine gV (rr_load1 TyC.ty rfl (at_blk (i:=6) rfl rfl)) ?_|refine gV (rr_load1 TyC.ty rfl (at_blk (i:=7) rfl rfl)) ?_)
      refine TL_call (he2 EntersC.en rfl rfl rfl) (fun w' hm=>union_calls _ va2 first1 first2 w' (Sl.of_own (hm.get (i:=3) rfl)) (Sl.of_own (hm.get (i:=12) rfl)) (by omega) (by omega)) rfl rfl rfl ?_
      intro vu _
      conv=>arg 8;simp only[zA,zB,zC,zD,zE,zF,zG,zH,zI,rowS,ret,id_eq,intRS]
      try refine GA ?_
      refine TL_slv (i:=14) rfl fun qu1 qu2=>TL_store1 (i:=13) rfl rfl rfl qu1 qu2 rfl ?_
      conv=>arg 8;simp only[zA,zB,zC,zD,zE,zF,zG,zH,zI,rowS,ret,id_eq]
      repeat(first|refine GA ?_|refine gV (rr_load1 TyC.ty rfl (at_blk (i:=6) rfl rfl)) ?_|refine gV (rr_load1 TyC.ty rfl (at_blk (i:=7) rfl rfl)) ?_)
      refine TL_call (he2 EntersC.en rfl rfl rfl) (fun w' hm=>union_calls vb1 _ last1 last2 w' (Sl.of_own (hm.get (i:=11) rfl)) (Sl.of_own (hm.get (i:=4) rfl)) (by omega) (by omega)) rfl rfl rfl ?_
      intro vu2 _
      conv=>arg 8;simp only[zA,zB,zC,zD,zE,zF,zG,zH,zI,rowS,ret,id_eq,intRS]
      try refine GA ?_
      refine TL_slv (i:=15) rfl fun qv1 qv2=>TL_store1 (i:=13) rfl rfl rfl qv1 qv2 rfl ?_
      conv=>arg 8;simp only[zA,zB,zC,zD,zE,zF,zG,zH,zI,rowS,ret,id_eq]
      repeat(first|refine GA ?_|refine gV (rr_loadB (i:=13) TyC.ty rfl rfl rfl) ?_|refine gV (rr_load1 TyC.ty rfl (at_blk (i:=6) rfl rfl)) ?_|refine gV (rr_load1 TyC.ty rfl (at_blk (i:=7) rfl rfl)) ?_)
      refine TL_storeB (i:=5) (cs':=#[.bool true,vu,vu2]) rfl rfl rfl rfl (by simp only[List.all_cons,List.all_nil,qu2,qv2];rfl) rfl ?_
      conv=>arg 8;simp only[zA,zB,zC,zD,zE,zF,zG,zH,zI,rowS,ret,id_eq]
      try refine GA ?_
      refine E_retc1 (i:=5) rfl rfl rfl rfl fun w hm => ?_
      exact hm.meetsB (S:=nodeSp g vf ve rule (⟨true,uni first1 first2,uni last1 last2⟩,{ p2 with follow:=behindF p2.follow last1 first2 })) (⟨vc,vr,vfol,vl,vs',F'⟩,vu,vu2) (by show vs'.length=(behindF p2.follow last1 first2).length;rw[behind_len];exact hx3) [8,0,1,9,10,2,14,15] (by decide) rfl
    | false=>
      repeat(first|refine GA ?_|refine gV (rr_load1 TyC.ty rfl (at_blk (i:=6) rfl rfl)) ?_|refine gV (rr_load1 TyC.ty rfl (at_blk (i:=7) rfl rfl)) ?_|refine gV (rr_build rfl (build_shpA _ _ _ _ _ _ _)) ?_)
      refine TL_new rfl fun g11 => ?_
      conv=>arg 8;simp only[zA,zB,zC,zD,zE,zF,zG,zH,zI,rowS,ret,id_eq]
      refine TL_storeB (i:=13) (cs':=#[.bool false,.slice ba first1.length ca,.slice bb last2.length cb]) rfl rfl rfl rfl rfl rfl ?_
      conv=>arg 8;simp only[zA,zB,zC,zD,zE,zF,zG,zH,zI,rowS,ret,id_eq]
      repeat(first|refine GA ?_|refine gV (rr_load1 TyC.ty rfl (at_blk (i:=6) rfl rfl)) ?_|refine gV (rr_load1 TyC.ty rfl (at_blk (i:=7) rfl rfl)) ?_)
      refine TL_call (he2 EntersC.en rfl rfl rfl) (fun w' hm=>union_calls _ va2 first1 first2 w' (Sl.of_own (hm.get (i:=3) rfl)) (Sl.of_own (hm.get (i:=12) rfl)) (by omega) (by omega)) rfl rfl rfl ?_
      intro vu _
      conv=>arg 8;simp only[zA,zB,zC,zD,zE,zF,zG,zH,zI,rowS,ret,id_eq,intRS]
      try refine GA ?_
      refine TL_slv (i:=14) rfl fun qu1 qu2=>TL_store1 (i:=13) rfl rfl rfl qu1 qu2 rfl ?_
      conv=>arg 8;simp only[zA,zB,zC,zD,zE,zF,zG,zH,zI,rowS,ret,id_eq]
      repeat(first|refine GA ?_|refine gV (rr_loadB (i:=13) TyC.ty rfl rfl rfl) ?_|refine gV (rr_load1 TyC.ty rfl (at_blk (i:=6) rfl rfl)) ?_|refine gV (rr_load1 TyC.ty rfl (at_blk (i:=7) rfl rfl)) ?_)
      refine TL_storeB (i:=5) (cs':=#[.bool false,vu,.slice bb last2.length cb]) rfl rfl rfl rfl (by simp only[List.all_cons,List.all_nil,qu2];rfl) rfl ?_
      conv=>arg 8;simp only[zA,zB,zC,zD,zE,zF,zG,zH,zI,rowS,ret,id_eq]
      try refine GA ?_
      refine E_retc1 (i:=5) rfl rfl rfl rfl fun w hm => ?_
      exact hm.meetsB (S:=nodeSp g vf ve rule (⟨false,uni first1 first2,last2⟩,{ p2 with follow:=behindF p2.follow last1 first2 })) (⟨vc,vr,vfol,vl,vs',F'⟩,vu,.slice bb last2.length cb) (by show vs'.length=(behindF p2.follow last1 first2).length;rw[behind_len];exact hx3) [8,0,1,9,10,2,14,4] (by decide) rfl
  | false=>
    cases e2 with
    | true=>
      repeat(first|refine GA ?_|refine gV (rr_load1 TyC.ty rfl (at_blk (i:=6) rfl rfl)) ?_|refine gV (rr_load1 TyC.ty rfl (at_blk (i:=7) rfl rfl)) ?_|refine gV (rr_build rfl (build_shpA _ _ _ _ _ _ _)) ?_)
      refine TL_new rfl fun g11 => ?_
      conv=>arg 8;simp only[zA,zB,zC,zD,zE,zF,zG,zH,zI,rowS,ret,id_eq]
      refine TL_storeB (i:=13) (cs':=#[.bool false,.slice ba first1.length ca,.slice bb last2.length cb]) rfl rfl rfl rfl rfl rfl ?_
      conv=>arg 8;simp only[zA,zB,zC,zD,zE,zF,zG,zH,zI,rowS,ret,id_eq]
      repeat(first|refine GA ?_|refine gV (rr_load1 TyC.ty rfl (at_blk (i:=6) rfl rfl)) ?_|refine gV (rr_load1 TyC.ty rfl (at_blk (i:=7) rfl rfl)) ?_)
      refine TL_call (he2 EntersC.en rfl rfl rfl) (fun w' hm=>union_calls vb1 _ last1 last2 w' (Sl.of_own (hm.get (i:=11) rfl)) (Sl.of_own (hm.get (i:=4) rfl)) (by omega) (by omega)) rfl rfl rfl ?_
      intro vu2 _
      conv=>arg 8;simp only[zA,zB,zC,zD,zE,zF,zG,zH,zI,rowS,ret,id_eq,intRS]
      try refine GA ?_
      refine TL_slv (i:=14) rfl fun qv1 qv2=>TL_store1 (i:=13) rfl rfl rfl qv1 qv2 rfl ?_
      conv=>arg 8;simp only[zA,zB,zC,zD,zE,zF,zG,zH,zI,rowS,ret,id_eq]
      repeat(first|refine GA ?_|refine gV (rr_loadB (i:=13) TyC.ty rfl rfl rfl) ?_|refine gV (rr_load1 TyC.ty rfl (at_blk (i:=6) rfl rfl)) ?_|refine gV (rr_load1 TyC.ty rfl (at_blk (i:=7) rfl rfl)) ?_)
      refine TL_storeB (i:=5) (cs':=#[.bool false,.slice ba first1.length ca,vu2]) rfl rfl rfl rfl (by simp only[List.all_cons,List.all_nil,qv2];rfl) rfl ?_
      conv=>arg 8;simp only[zA,zB,zC,zD,zE,zF,zG,zH,zI,rowS,ret,id_eq]
      try refine GA ?_
      refine E_retc1 (i:=5) rfl rfl rfl rfl fun w hm => ?_
      exact hm.meetsB (S:=nodeSp g vf ve rule (⟨false,first1,uni last1 last2⟩,{ p2 with follow:=behindF p2.follow last1 first2 })) (⟨vc,vr,vfol,vl,vs',F'⟩,.slice ba first1.length ca,vu2) (by show vs'.length=(behindF p2.follow last1 first2).length;rw[behind_len];exact hx3) [8,0,1,9,10,2,3,14] (by decide) rfl
    | false=>
      repeat(first|refine GA ?_|refine gV (rr_load1 TyC.ty rfl (at_blk (i:=6) rfl rfl)) ?_|refine gV (rr_load1 TyC.ty rfl (at_blk (i:=7) rfl rfl)) ?_|refine gV (rr_build rfl (build_shpA _ _ _ _ _ _ _)) ?_)
      refine TL_new rfl fun g11 => ?_
      conv=>arg 8;simp only[zA,zB,zC,zD,zE,zF,zG,zH,zI,rowS,ret,id_eq]
      refine TL_storeB (i:=13) (cs':=#[.bool false,.slice ba first1.length ca,.slice bb last2.length cb]) rfl rfl rfl rfl rfl rfl ?_
      conv=>arg 8;simp only[zA,zB,zC,zD,zE,zF,zG,zH,zI,rowS,ret,id_eq]
      repeat(first|refine GA ?_|refine gV (rr_loadB (i:=13) TyC.ty rfl rfl rfl) ?_|refine gV (rr_load1 TyC.ty rfl (at_blk (i:=6) rfl rfl)) ?_|refine gV (rr_load1 TyC.ty rfl (at_blk (i:=7) rfl rfl)) ?_)
      refine TL_storeB (i:=5) (cs':=#[.bool false,.slice ba first1.length ca,.slice bb last2.length cb]) rfl rfl rfl rfl rfl rfl ?_
      conv=>arg 8;simp only[zA,zB,zC,zD,zE,zF,zG,zH,zI,rowS,ret,id_eq]
      try refine GA ?_
      refine E_retc1 (i:=5) rfl rfl rfl rfl fun w hm => ?_
      exact hm.meetsB (S:=nodeSp g vf ve rule (⟨false,first1,last2⟩,{ p2 with follow:=behindF p2.follow last1 first2 })) (⟨vc,vr,vfol,vl,vs',F'⟩,.slice ba first1.length ca,.slice bb last2.length cb) (by show vs'.length=(behindF p2.follow last1 first2).length;rw[behind_len];exact hx3) [8,0,1,9,10,2,3,4] (by decide) rfl
end Go.Proofs.Ytldiodhdefnlaaa.eng

/- PlD -/
namespace Go.Proofs.Ytldiodhdefnlaaa.eng
open Go.RowKit kit mix classL rexL placesL
theorem node_at:∀ M,NodeAt M
  | 0=>fun e h=>by have:=e.size_pos;omega
  | M + 1=>fun e h g vf ve rule p x v w B hp hx hn hr hv hm=>by
    cases e with
    | none=>exact node_none g vf ve rule p x v w B hx hv hm
    | empty=>exact node_empty g vf ve rule p x v w B hx hv hm
    | byte c=>exact node_byte c g vf ve rule p x v w B hp hx (by omega) hv hm
    | star a=>
      have h:a.size+1≤M+1:=h
      exact node_star (node_at M) a (by omega) g vf ve rule p x v w B hp hx hn hr hv hm
    | alt a b=>
      have h:a.size+b.size+1≤M+1:=h
      exact node_alt (node_at M) a b (by omega) (by omega) g vf ve rule p x v w B hp hx hn hr hv hm
    | cat a b=>
      have h:a.size+b.size+1≤M+1:=h
      exact node_cat (node_at M) a b (by omega) (by omega) g vf ve rule p x v w B hp hx hn hr hv hm
end Go.Proofs.Ytldiodhdefnlaaa.eng

/- PlM -/
namespace Go.Proofs.Ytldiodhdefnlaaa.eng
open Go.RowKit kit mix classL rexL placesL
theorem build_posz (w:World):(Instr.build 90 (#[]:Array (Nat×Value))).run Try.prog w = .ok (.agg #[.slice none 0 0,.slice none 0 0,.slice none 0 0,.slice none 0 0,.slice none 0 0,.slice none 0 0]) w:=by
  go_simp
theorem build_mkz (w:World):(Instr.build 123 (#[]:Array (Nat×Value))).run Try.prog w = .ok (.agg #[.slice none 0 0,.slice none 0 0,.slice none 0 0,.slice none 0 0,.slice none 0 0,.slice none 0 0,.int .i64 0]) w:=by
  go_simp
structure PIx where
  vc:Value
  vr:Value
  vf:Value
  vfol:Value
  vl:Value
  ve:Value
  vs:List Value
  F:Nat→Prop
def posL (x:PIx) (m:MS):List Own:=
  [rowO 83 4 x.vc m.ps.classes.length (m.ps.classes.flatMap clsL),intR x.vr m.ps.rules,intR x.vf m.first,folR x.vfol x.vs,folE x.F x.vs m.ps.follow,rowO 4 1 x.vl m.ps.last.length (m.ps.last.map Value.bool),rowO 4 1 x.ve m.empty.length (m.empty.map Value.bool)]
def posC (x:PIx):Array Value:=#[x.vc,x.vr,x.vf,x.vfol,x.vl,x.ve]
def makeSp (R:Int×MS):Spec PIx:=⟨fun x=>x.vs.length=R.2.ps.follow.length,fun x=> .tuple #[.agg (posC x),.int .i64 R.1],fun x=>posL x R.2⟩
def nilP:PIx:=⟨.slice none 0 0,.slice none 0 0,.slice none 0 0,.slice none 0 0,.slice none 0 0,.slice none 0 0,[],fun _=>False⟩
theorem E_zero {n:Nat} {W:Base} {Q:Exit→Act→World→Prop} {fr:Fr} {L:List Own} {e':Exit} (h:E n W e' Q fr (L++posL nilP .zero)):E n W e' Q fr L:=by
  refine E_nilrow 83 4 (E_nilrow 3 1 (E_nilrow 3 1 (E_nilrow 26 1 (E_extra (folE (fun _=>False) [] []) (fun k hk=>hk.elim (fun h=>by cases h) id) (fun w=>els_nil) (E_nilrow 4 1 (E_nilrow 4 1 ?_))))))
  simp only[List.append_assoc,List.cons_append,List.nil_append]
  exact h
theorem posn_at {vc vr vf vfol vl ve v:Value} {rule:Int} {j:Nat} (h:[vc,vr,vf,vfol,vl,ve][j]?=some v):(mkC vc vr vf vfol vl ve rule)[0+j]?=some v:=by
  rw[Nat.zero_add]
  match j,h with
  | 0,h=>exact h
  | 1,h=>exact h
  | 2,h=>exact h
  | 3,h=>exact h
  | 4,h=>exact h
  | 5,h=>exact h
def boolC (b:Bool):List Value:=[.bool b]
theorem boolC_len (b:Bool):(boolC b).length=1:=rfl
theorem bool_flat (l:List Bool):l.flatMap boolC=l.map Value.bool:=by
  induction l with
  | nil=>rfl
  | cons x r ih=>rw[List.flatMap_cons,ih];rfl
def MakeR (rs:List Rx) (R:Int×MS):Prop:=
  ((rs.length=0∨20<rs.length)∧R=(1,.zero))∨(¬ (rs.length=0∨20<rs.length)∧checkM rs≠0∧R=(checkM rs,.zero))∨
    (¬ (rs.length=0∨20<rs.length)∧checkM rs=0∧∃ es:List Re,rs=es.map emb∧(∀ e∈es,e.size≤100)∧R=loopM 0 .zero es)
theorem check_drop {l:List Rx} {k:Nat} (h:k<l.length):checkM (l.drop k)=if chkR l[k]≠0 then chkR l[k] else checkM (l.drop (k+1)):=by
  rw[List.drop_eq_getElem_cons h,checkM]
set_option maxHeartbeats 16000000 in
theorem make_calls (v:Value) (rs:List Rx) (R:Int×MS) (w:World) (hv:SlF rexS (Low w) w v rs) (hR:MakeR rs R) :
    Calls Try.prog 21 #[v] w (Meets (makeSp R) w):=by
  obtain⟨bk,ck,rfl,h1,h2,h3⟩:=hv
  unfold maxLen at h2
  refine enter (args:=[.slice bk rs.length ck]) (n:=104) Try.func21 rfl rfl rfl ?_
  refine T_seq (T_region (TL_new rfl fun g2 => ?_))
  conv=>arg 8;simp only[zA,zB,zC,zD,zE,zF,zG,zH,zI,rowS,ret,id_eq]
  rcases hR with ⟨c1,rfl⟩ | hR
  · by_cases c2:rs.length=0
    · repeat(first|refine GC ?_|refine gV (rr_eql (b:=true) rfl rfl (decide_eq_true (by omega))) ?_|refine gV (rr_build rfl build_posz) ?_|refine GB ?_)
      refine TL_storeB (i:=0) rfl rfl rfl rfl rfl rfl ?_
      conv=>arg 8;simp only[zA,zB,zC,zD,zE,zF,zG,zH,zI,rowS,ret,id_eq]
      try refine GA ?_
      refine E_zero ?_
      exact E_retc2 (i:=0) rfl rfl rfl rfl rfl fun w hm=>hm.meets (S:=makeSp (1,.zero)) nilP rfl [1,2,3,4,5,6,7] (by decide) rfl
    · have c3:20<rs.length:=c1.resolve_left c2
      repeat(first|refine GC ?_|refine gV (rr_eql (b:=false) rfl rfl (decide_eq_false (by omega))) ?_|refine gV (rr_gtr (b:=true) rfl rfl (decide_eq_true (by omega))) ?_|refine gV (rr_build rfl build_posz) ?_|refine GB ?_)
      refine TL_storeB (i:=0) rfl rfl rfl rfl rfl rfl ?_
      conv=>arg 8;simp only[zA,zB,zC,zD,zE,zF,zG,zH,zI,rowS,ret,id_eq]
      try refine GA ?_
      refine E_zero ?_
      exact E_retc2 (i:=0) rfl rfl rfl rfl rfl fun w hm=>hm.meets (S:=makeSp (1,.zero)) nilP rfl [1,2,3,4,5,6,7] (by decide) rfl
  have hlen:¬ (rs.length=0∨20<rs.length):=by rcases hR with ⟨h,_⟩ | ⟨h,_⟩ <;> exact h
  repeat(first|refine GC ?_|refine gV (rr_eql (b:=false) rfl rfl (decide_eq_false (by omega))) ?_|refine gV (rr_gtr (b:=false) rfl rfl (decide_eq_false (by omega))) ?_|refine GB ?_)
  refine T_loop (ι:=Nat) (fun k=>k≤rs.length∧checkM rs=checkM (rs.drop k)) (fun k=>[(0,.slice bk rs.length ck),(2,.pointer (some ⟨g2,0,none⟩)),(22,.slice bk rs.length ck),(23,.int .i64 rs.length),(24,.int .i64 (k:Int))])
    (fun _=>[blkO g2 #[.slice none 0 0,.slice none 0 0,.slice none 0 0,.slice none 0 0,.slice none 0 0,.slice none 0 0] 90]) (fun k=>rs.length - k) 0 ⟨Nat.zero_le _,rfl⟩ (by repeat' (first | exact True.intro | refine And.intro rfl ?_)) rfl ?_
  rintro k ⟨i1,i2⟩
  by_cases c6:k<rs.length
  · obtain⟨b,off,rfl,hF,hrd⟩:=h3 (by omega)
    obtain⟨kb,kc,hr,hkid⟩:=rkid_at hrd c6
    have hat:=fun (L:List Own) (j:Nat) (v:Value) (hj:(rexC rs[k].kind rs[k].cls (.slice kb rs[k].kids.length kc))[j]?=some v)=>at_rd (L:=L) hr hj
    have hck:∀ w',Gr w w'→Calls Try.prog 35 #[rexV rs[k].kind rs[k].cls (.slice kb rs[k].kids.length kc)] w' (Meets (ret (.int .i64 (chkR rs[k]))) w'):=fun w' hg=>rexCheck_calls _ _ w' (hkid.gr hg)
    have hdr:=check_drop c6
    clear h3 hrd hr
    generalize rs[k]=r at *
    repeat(first|refine GA ?_|refine gV (rr_idxc Und.eq TyC.ty rfl rfl c6) ?_|refine gV (rr_loadN TyC.ty rfl rfl (hat _)) ?_)
    refine TL_new rfl fun g5 => ?_
    conv=>arg 8;simp only[zA,zB,zC,zD,zE,zF,zG,zH,zI,rowS,ret,id_eq]
    refine TL_storeB (i:=1) (cs':=(rexC r.kind r.cls (.slice kb r.kids.length kc)).toArray) rfl rfl rfl rfl rfl rfl ?_
    conv=>arg 8;simp only[zA,zB,zC,zD,zE,zF,zG,zH,zI,rowS,ret,id_eq]
    repeat(first|refine GA ?_|refine gV (rr_loadB (i:=1) TyC.ty rfl rfl rfl) ?_)
    refine TL_call (he1 EntersC.en rfl rfl) (fun w hm=>hck _ hm.below) rfl rfl rfl ?_
    intro _ _
    conv=>arg 8;simp only[zA,zB,zC,zD,zE,zF,zG,zH,zI,rowS,ret,id_eq]
    by_cases c7:chkR r=0
    · repeat(first|refine GC ?_|refine gV (rr_neq (b:=false) rfl rfl (decide_eq_false (by simpa using c7))) ?_|refine GB ?_)
      refine E_pick [0] (by decide) rfl ?_
      exact E_round (k+1) ⟨by omega,by rw[i2,hdr,if_neg (by simpa using c7)]⟩ (by show rs.length - (k+1)<rs.length - k;omega) (by repeat' (first | exact True.intro | refine And.intro rfl ?_)) rfl
    · have hne:checkM rs≠0:=by rw[i2,hdr,if_pos c7];exact c7
      rcases hR with ⟨_,_,rfl⟩ | ⟨_,h0,_⟩
      · rw[i2,hdr,if_pos c7]
        repeat(first|refine GC ?_|refine gV (rr_neq (b:=true) rfl rfl (decide_eq_true c7)) ?_|refine gV (rr_build rfl build_posz) ?_|refine GB ?_)
        refine TL_storeB (i:=0) rfl rfl rfl rfl rfl rfl ?_
        conv=>arg 8;simp only[zA,zB,zC,zD,zE,zF,zG,zH,zI,rowS,ret,id_eq]
        try refine GA ?_
        refine E_zero ?_
        exact E_retc2 (i:=0) rfl rfl rfl rfl rfl fun w hm=>hm.meets (S:=makeSp (chkR r,.zero)) nilP rfl [2,3,4,5,6,7,8] (by decide) rfl
      · exact absurd h0 hne
  · obtain rfl:k=rs.length:=by omega
    have h0:checkM rs=0:=by rw[i2,List.drop_eq_nil_of_le (Nat.le_refl _)];rfl
    obtain⟨es,rfl,hsz,rfl⟩:∃ es:List Re,rs=es.map emb∧(∀ e∈es,e.size≤100)∧R=loopM 0 .zero es:=by
      rcases hR with ⟨_,h,_⟩ | ⟨_,_,h⟩
      · exact absurd h0 h
      · exact h
    have h20:(List.map emb es).length≤20:=by omega
    clear hR hlen i1 i2
    repeat(first|refine GA ?_|refine gV (rr_build rfl build_mkz) ?_)
    refine TL_box rfl rfl rfl fun g7 => ?_
    conv=>arg 8;simp only[zA,zB,zC,zD,zE,zF,zG,zH,zI,rowS,ret,id_eq]
    try refine GA ?_
    refine T_nil 83 4 (T_nil 3 1 (T_nil 26 1 (T_extra (folE (fun _=>False) [] []) (fun k hk=>hk.elim (fun h=>by cases h) id) (fun w=>els_nil) (T_nil 4 1 (T_nil 3 1 (T_nil 4 1 ?_))))))
    refine T_loop (ι:=Nat×MS×MIx×Value×Value×Int) (fun (k,m,x,_,_,_)=>k≤es.length∧loopM 0 .zero es=loopM k m (es.drop k)∧MSOk m∧m.ps.classes.length≤200∧x.vs.length=m.ps.follow.length∧m.empty.length=k) (fun (k,_,_,_,_,_)=>[(2,.pointer (some ⟨g2,0,none⟩)),(7,.pointer (some ⟨g7,0,none⟩)),(37,.slice bk (es.map emb).length ck),(38,.int .i64 (es.map emb).length),(39,.int .i64 (k:Int))])
      (fun (_,m,x,vf,ve,rule)=>[blkO g2 #[.slice none 0 0,.slice none 0 0,.slice none 0 0,.slice none 0 0,.slice none 0 0,.slice none 0 0] 90]++mkL g7 vf ve rule x m.ps++[intR vf m.first,rowO 4 1 ve m.empty.length (m.empty.map Value.bool)]) (fun (k,_,_,_,_,_)=>es.length - k)
      (0,.zero,⟨.slice none 0 0,.slice none 0 0,.slice none 0 0,.slice none 0 0,[],fun _=>False⟩,.slice none 0 0,.slice none 0 0,0) ⟨Nat.zero_le _,rfl,zero_ok,Nat.zero_le _,rfl,rfl⟩ (by repeat' (first | exact True.intro | refine And.intro rfl ?_)) rfl ?_
    rintro⟨k,m,⟨vc,vr,vfol,vl,vs,F⟩,vf,ve,rule⟩ ⟨i1,i2,i3,i4,i5,i6⟩
    dsimp only at i1 i2 i3 i4 i5 i6 ⊢
    conv=>arg 7;simp only[zA,zB,zC,zD,zE,zF,zG,zH,zI,rowS,ret,id_eq,mkL]
    have hml:(List.map emb es).length=es.length:=List.length_map ..
    by_cases c6:k<es.length
    · obtain⟨b,off,rfl,hF,hrd⟩:=h3 (by omega)
      obtain⟨kb,kc,hr,hkid⟩:=rkid_at (k:=k) hrd (by omega)
      have hat:=fun (L:List Own) (j:Nat) (v:Value) (hj:(rexC (es.map emb)[k].kind (es.map emb)[k].cls (.slice kb (es.map emb)[k].kids.length kc))[j]?=some v)=>at_rd (L:=L) hr hj
      have hke:(es.map emb)[k]'(by omega)=emb es[k]:=List.getElem_map ..
      rw[hke] at hat hkid
      have hse:=hsz es[k] (List.getElem_mem c6)
      rw[List.drop_eq_getElem_cons c6,loopM] at i2
      clear h3 hrd hr hke
      generalize es[k]=e at *
      have hst:=step_ok k i3 e
      have hnd:=node_ok k e m.ps i3.ps
      have hno:=fun v w B hv hm=>node_at 100 e hse g7 vf ve k m.ps ⟨vc,vr,vfol,vl,vs,F⟩ v w B i3.ps i5 (by omega) ⟨by omega,by omega⟩ hv hm
      repeat(first|refine GA ?_|refine gV (rr_idxc Und.eq TyC.ty rfl rfl (by omega)) ?_|refine gV (rr_loadN TyC.ty rfl rfl (hat _)) ?_)
      refine TL_new rfl fun g9 => ?_
      conv=>arg 8;simp only[zA,zB,zC,zD,zE,zF,zG,zH,zI,rowS,ret,id_eq]
      try refine GA ?_
      refine TL_storeB (i:=9) (cs':=(rexC (emb e).kind (emb e).cls (.slice kb (emb e).kids.length kc)).toArray) rfl rfl rfl rfl rfl rfl ?_
      conv=>arg 8;simp only[zA,zB,zC,zD,zE,zF,zG,zH,zI,rowS,ret,id_eq]
      try refine GA ?_
      refine TL_store1 (i:=1) rfl rfl rfl rfl rfl rfl ?_
      conv=>arg 8;simp only[zA,zB,zC,zD,zE,zF,zG,zH,zI,rowS,ret,id_eq]
      repeat(first|refine GA ?_|refine gV (rr_loadB (i:=9) TyC.ty rfl rfl rfl) ?_)
      refine TL_callB [1,2,3,4,5,6] [0,7,8,9] (by decide) rfl rfl (he2 EntersC.en rfl rfl rfl) (fun w hm hb=>hno _ w _ (rex_on (hm.pick [1,2,3,4,5,6] (by decide) rfl) (hkid.mono fun k hk=>⟨hk,id⟩)) hb) rfl rfl rfl ?_
      rintro⟨⟨vc',vr',vfol',vl',vs',F'⟩,va,vb⟩ hx'
      conv=>arg 8;simp only[zA,zB,zC,zD,zE,zF,zG,zH,zI,rowS,ret,id_eq,nodeSp,mkL]
      conv=>arg 7;simp only[nodeSp]
      have hx':vs'.length=(nodeF k e m.ps).2.follow.length:=hx'
      unfold stepM at i2 hst
      generalize nodeF k e m.ps=R at *
      obtain⟨⟨em,first,last⟩,p'⟩:=R
      dsimp only at i2 hst hnd hx' ⊢
      obtain⟨n1,n2,n3,n4,n5⟩:=hnd
      have hl1:=ris_len i3.first
      have hl2:=ris_len n4
      have hl3:=ris_len n5
      refine TL_slv (i:=10) rfl fun _ qa=>TL_slv (i:=11) rfl fun _ qb=>TL_new rfl fun g10 => ?_
      conv=>arg 8;simp only[zA,zB,zC,zD,zE,zF,zG,zH,zI,rowS,ret,id_eq]
      refine TL_storeB (i:=12) (cs':=#[.bool em,va,vb]) rfl rfl rfl rfl (by simp only[List.all_cons,List.all_nil,qa,qb];rfl) rfl ?_
      conv=>arg 8;simp only[zA,zB,zC,zD,zE,zF,zG,zH,zI,rowS,ret,id_eq]
      try refine GA ?_
      (repeat refine T_seq ?_)
      refine T_midq (ι:=Value) (fun vf'=>vf'.oneCell'=true) (fun _=>[(2,.pointer (some ⟨g2,0,none⟩)),(7,.pointer (some ⟨g7,0,none⟩)),(10,.pointer (some ⟨g10,0,none⟩)),(37,.slice (some ⟨b,off,none⟩) (es.map emb).length ck),(38,.int .i64 (es.map emb).length),(39,.int .i64 (k:Int))])
        (fun vf'=>[blkO g2 #[.slice none 0 0,.slice none 0 0,.slice none 0 0,.slice none 0 0,.slice none 0 0,.slice none 0 0] 90,blkO g7 (mkC vc' vr' vf' vfol' vl' ve (k:Int)) 123,rowO 83 4 vc' p'.classes.length (p'.classes.flatMap clsL),intR vr' p'.rules,folR vfol' vs',folE F' vs' p'.follow,rowO 4 1 vl' p'.last.length (p'.last.map Value.bool),intR vf' (uni m.first first),rowO 4 1 ve m.empty.length (m.empty.map Value.bool),blkO g10 #[.bool em,va,vb] 125,intR vb last]) ?_ ?_
      · refine T_ord ([blkO g10 #[.bool em,va,vb] 125]) (.calm 0 (.calm 1 (.calm 2 (.calm 3 (.calm 4 (.calm 6 (.calm 7 (.one 5 (.one 8 (.calm 9 (.calm 10 (.calm 11 (.one 12 (.done)))))))))))))) (sub_pick [12] (by decide) rfl) (by kernel_rfl) (by kernel_rfl) (by intro c a d v w h;cases d <;> exact h) ?_
        repeat(first|refine GW ?_|(refine GN ?_;first|refine QW (rr_load1 TyC.ty rfl (at_blk (i:=0) rfl rfl)) ?_))
        refine TW_one rfl (TL_val (rr_load1 (v:=vf) TyC.ty rfl (at_blk (i:=4) rfl rfl)) rfl rfl rfl (TW_on (sub_pick [12] (by decide) rfl) ?_))
        refine TW_one rfl (TL_call (he2 EntersC.en rfl rfl rfl) (fun w' hm=>union_calls vf va m.first first w' (Sl.of_own (hm.get (i:=1) rfl)) (Sl.of_own (hm.get (i:=10) rfl)) (by omega) (by omega)) rfl rfl rfl ?_)
        intro vf' _
        conv=>arg 8;simp only[zA,zB,zC,zD,zE,zF,zG,zH,zI,rowS,ret,id_eq,intRS]
        refine TW_on (sub_pick [12] (by decide) rfl) ?_
        try refine GW ?_
        refine TW_one rfl (TL_slv (i:=13) rfl fun qf1 qf2=>TL_store1 (i:=4) rfl rfl rfl qf1 qf2 rfl (TW_on (sub_pick [12] (by decide) rfl) ?_))
        try refine GW ?_
        refine E_pick [0,4,5,6,7,8,9,13,2,12,11] (by decide) rfl ?_
        exact E_mid vf' qf2 (by repeat' (first | exact True.intro | refine And.intro rfl ?_)) rfl
      intro vf' hf'
      (repeat refine T_seq ?_)
      refine T_midq (ι:=Value) (fun ve'=>ve'.oneCell'=true) (fun _=>[(2,.pointer (some ⟨g2,0,none⟩)),(7,.pointer (some ⟨g7,0,none⟩)),(10,.pointer (some ⟨g10,0,none⟩)),(37,.slice (some ⟨b,off,none⟩) (es.map emb).length ck),(38,.int .i64 (es.map emb).length),(39,.int .i64 (k:Int))])
        (fun ve'=>[blkO g2 #[.slice none 0 0,.slice none 0 0,.slice none 0 0,.slice none 0 0,.slice none 0 0,.slice none 0 0] 90,blkO g7 (mkC vc' vr' vf' vfol' vl' ve' (k:Int)) 123,rowO 83 4 vc' p'.classes.length (p'.classes.flatMap clsL),intR vr' p'.rules,folR vfol' vs',folE F' vs' p'.follow,rowO 4 1 vl' p'.last.length (p'.last.map Value.bool),intR vf' (uni m.first first),rowO 4 1 ve' (m.empty++[em]).length ((m.empty++[em]).map Value.bool),blkO g10 #[.bool em,va,vb] 125,intR vb last]) ?_ ?_
      · refine T_ord ([blkO g10 #[.bool em,va,vb] 125]) (.calm 0 (.calm 1 (.calm 2 (.calm 3 (.calm 4 (.calm 6 (.calm 7 (.two 5 (.one 8 (.one 9 (.calm 10 (.calm 11 (.calm 12 (.one 13 (.done))))))) 8 (.one 5 (.one 9 (.calm 10 (.calm 11 (.calm 12 (.one 13 (.done))))))))))))))) (sub_pick [9] (by decide) rfl) (by kernel_rfl) (by kernel_rfl) (by intro c a d v w h;cases d <;> exact h) ?_
        repeat(first|refine GW ?_|(refine GN ?_;first|refine QW (rr_load1 TyC.ty rfl (at_blk (i:=0) rfl rfl)) ?_))
        refine TW_two rfl rfl ?_ ?_
        · refine TL_val (rr_load1 (v:=ve) TyC.ty rfl (at_blk (i:=1) rfl rfl)) rfl rfl rfl (TW_on (sub_pick [9] (by decide) rfl) ?_)
          refine TW_one rfl (TL_litN (cs:=#[.bool em]) [.bool em] rfl rfl rfl (by intro v hv;simp at hv;subst hv;rfl) rfl rfl rfl fun g71=>(TW_on (sub_pick [9] (by decide) rfl) ?_))
          refine TW_one rfl (TL_appSl (i:=8) (e:= 4) (size:=1) (bytes:=1) (m:=m.empty.length) (xs:=m.empty.map Value.bool) (k:=1) (ys:=[.bool em]) rfl (sl_blk (i:=11) rfl (fun j u h=>by simpa using h) (Nat.le_refl 1) (by decide)) rfl rfl rfl (fun u hu=>by rw[List.mem_singleton.1 hu];rfl) (by omega) (by omega) rfl fun ve'=>(TW_on (sub_pick [9] (by decide) rfl) ?_))
          try refine GW ?_
          refine TW_one rfl (TL_slv (i:=8) rfl fun qe1 qe2=>TL_store1 (i:=1) rfl rfl rfl qe1 qe2 rfl (TW_on (sub_pick [9] (by decide) rfl) ?_))
          try refine GW ?_
          refine E_pick [0,1,2,3,4,5,6,7,8,9,10] (by decide) rfl ?_
          exact E_mid ve' qe2 (by repeat' (first | exact True.intro | refine And.intro rfl ?_)) (by rw[←bool_snoc ve' m.empty em];rfl)
        · refine TL_litN (cs:=#[.bool em]) [.bool em] rfl rfl rfl (by intro v hv;simp at hv;subst hv;rfl) rfl rfl rfl fun g71=>(TW_on (sub_pick [9] (by decide) rfl) ?_)
          refine TW_one rfl (TL_val (rr_load1 (v:=ve) TyC.ty rfl (at_blk (i:=1) rfl rfl)) rfl rfl rfl (TW_on (sub_pick [9] (by decide) rfl) ?_))
          refine TW_one rfl (TL_appSl (i:=8) (e:= 4) (size:=1) (bytes:=1) (m:=m.empty.length) (xs:=m.empty.map Value.bool) (k:=1) (ys:=[.bool em]) rfl (sl_blk (i:=11) rfl (fun j u h=>by simpa using h) (Nat.le_refl 1) (by decide)) rfl rfl rfl (fun u hu=>by rw[List.mem_singleton.1 hu];rfl) (by omega) (by omega) rfl fun ve'=>(TW_on (sub_pick [9] (by decide) rfl) ?_))
          try refine GW ?_
          refine TW_one rfl (TL_slv (i:=8) rfl fun qe1 qe2=>TL_store1 (i:=1) rfl rfl rfl qe1 qe2 rfl (TW_on (sub_pick [9] (by decide) rfl) ?_))
          try refine GW ?_
          refine E_pick [0,1,2,3,4,5,6,7,8,9,10] (by decide) rfl ?_
          exact E_mid ve' qe2 (by repeat' (first | exact True.intro | refine And.intro rfl ?_)) (by rw[←bool_snoc ve' m.empty em];rfl)
      intro ve' he'
      rw[show p'.last.map Value.bool=p'.last.flatMap boolC from (bool_flat _).symm]
      refine T_know (i:=10) (φ:=∃ a c,vb = .slice a last.length c∧(0<last.length→∃ gl,a=some ⟨gl,0,none⟩)) rfl (fun w h=>by
        obtain⟨y1,y2⟩:=(show w.ownsRow 0 3 1 vb last.length (last.map (Value.int .i64)) from h)
        rcases y2 with ⟨y3,y4⟩ | ⟨gl,cap,cur,hv,_⟩
        · exact⟨none,0,by rw[y3,y4],fun h=>by omega⟩
        · exact⟨_,_,hv,fun _=>⟨gl,rfl⟩⟩) fun hvb => ?_
      obtain⟨al,cl,rfl,hal⟩:=hvb
      refine T_know (i:=6) (φ:=0<p'.last.length→∃ gb cb,vl' = .slice (some ⟨gb,0,none⟩) p'.last.length cb) rfl (fun w h=>by
        obtain⟨y1,y2⟩:=(show w.ownsRow 0 4 1 vl' p'.last.length (p'.last.flatMap boolC) from h)
        rcases y2 with ⟨y3,y4⟩ | ⟨gl,cap,cur,hv,_⟩
        · intro h;omega
        · exact fun _=>⟨gl,cap,hv⟩) fun hvl => ?_
      repeat(first|refine GA ?_|refine gV (rr_load1 (v:= .slice al last.length cl) TyC.ty rfl (at_blk (i:=9) rfl rfl)) ?_)
      refine T_pick [0,1,2,3,4,5,6,7,8,10] (by decide) rfl ?_
      refine T_loop (ι:=Nat) (fun j=>j≤last.length) (fun j=>[(2,.pointer (some ⟨g2,0,none⟩)),(7,.pointer (some ⟨g7,0,none⟩)),(37,.slice (some ⟨b,off,none⟩) (es.map emb).length ck),(38,.int .i64 (es.map emb).length),(39,.int .i64 (k:Int)),(77,.slice al last.length cl),(78,.int .i64 last.length),(79,.int .i64 (j:Int))])
        (fun j=>[blkO g2 #[.slice none 0 0,.slice none 0 0,.slice none 0 0,.slice none 0 0,.slice none 0 0,.slice none 0 0] 90,blkO g7 (mkC vc' vr' vf' vfol' vl' ve' (k:Int)) 123,rowO 83 4 vc' p'.classes.length (p'.classes.flatMap clsL),intR vr' p'.rules,folR vfol' vs',folE F' vs' p'.follow,rowO 4 1 vl' p'.last.length ((markF p'.last (last.take j)).flatMap boolC),intR vf' (uni m.first first),rowO 4 1 ve' (m.empty++[em]).length ((m.empty++[em]).map Value.bool),intR (.slice al last.length cl) last]) (fun j=>last.length - j) 0 (Nat.zero_le _) (by repeat' (first | exact True.intro | refine And.intro rfl ?_)) rfl ?_
      intro j j1
      by_cases c7:j<last.length
      · obtain⟨gl,rfl⟩:=hal (by omega)
        have hx:=n5.2 last[j] (List.getElem_mem c7)
        have hgx:last[j]?=some last[j]:=List.getElem?_eq_getElem c7
        have hms:=mark_step p'.last last c7
        have hml2:=mark_len p'.last (last.take j)
        generalize last[j]=xx at *
        obtain⟨xn,rfl⟩:=Int.eq_ofNat_of_zero_le hx.1
        rw[Int.toNat_natCast] at hms
        have hxn:xn<p'.last.length:=by rw[n1.last];omega
        obtain⟨gb,cb,rfl⟩:=hvl (by omega)
        have hat3:∀ (L:List Own) (hi:L[9]?=some (intR (.slice (some ⟨gl,0,none⟩) last.length cl) last)),At (w:Base) L ⟨gl,0+j*1,none⟩ (.int .i64 (xn:Int)):=fun L hi=>at_row hi (by rw[List.getElem?_map,Nat.zero_add,Nat.mul_one,hgx];rfl)
        repeat(first|refine GA ?_|refine gV (rr_idxc Und.eq TyC.ty rfl rfl c7) ?_|refine gV (rr_load1 (v:= .int .i64 (xn:Int)) TyC.ty rfl (hat3 _ rfl)) ?_|refine gV (rr_load1 (v:= .slice (some ⟨gb,0,none⟩) p'.last.length cb) TyC.ty rfl (at_blk (i:=1) rfl rfl)) ?_|refine gV (rr_idxc Und.eq TyC.ty rfl rfl hxn) ?_)
        refine TL_setRow boolC_len (i:=6) (k:=xn) (l:=markF p'.last (last.take j)) (a:=true) TyC.ty rfl rfl (by omega) (by omega) (by omega) rfl rfl rfl ?_
        rw[←hms]
        conv=>arg 8;simp only[zA,zB,zC,zD,zE,zF,zG,zH,zI,rowS,ret,id_eq]
        try refine GA ?_
        exact E_round (j+1) (by omega) (by show last.length - (j+1)<last.length - j;omega) (by repeat' (first | exact True.intro | refine And.intro rfl ?_)) rfl
      · obtain rfl:j=last.length:=by omega
        rw[List.take_of_length_le (Nat.le_refl _),bool_flat]
        refine T_know (i:=2) (φ:=∃ a c,vc' = .slice a p'.classes.length c) rfl (fun w h=>by
          obtain⟨a,c,h,_⟩:=Sl.of_own (show w.ownsRow 0 83 4 vc' p'.classes.length (p'.classes.flatMap clsL) from h)
          exact⟨a,c,h⟩) fun hvc => ?_
        obtain⟨ac,cc,rfl⟩:=hvc
        by_cases c8:200<p'.classes.length
        · rw[if_pos c8] at i2
          rw[i2]
          repeat(first|refine GC ?_|refine gV (rr_load1 (v:= .slice ac p'.classes.length cc) TyC.ty rfl (at_blk (i:=1) rfl rfl)) ?_|refine gV (rr_gtr (b:=true) rfl rfl (decide_eq_true (by omega))) ?_|refine gV (rr_build rfl build_posz) ?_|refine GB ?_)
          refine TL_storeB (i:=0) rfl rfl rfl rfl rfl rfl ?_
          conv=>arg 8;simp only[zA,zB,zC,zD,zE,zF,zG,zH,zI,rowS,ret,id_eq]
          try refine GA ?_
          refine E_zero ?_
          exact E_retc2 (i:=0) rfl rfl rfl rfl rfl fun w hm=>hm.meets (S:=makeSp (2,.zero)) nilP rfl [10,11,12,13,14,15,16] (by decide) rfl
        · rw[if_neg c8] at i2
          repeat(first|refine GC ?_|refine gV (rr_load1 (v:= .slice ac p'.classes.length cc) TyC.ty rfl (at_blk (i:=1) rfl rfl)) ?_|refine gV (rr_gtr (b:=false) rfl rfl (decide_eq_false (by omega))) ?_|refine GB ?_)
          refine E_pick [0,1,2,3,4,5,6,7,8] (by decide) rfl ?_
          exact E_round (k+1,⟨{ p' with last:=markF p'.last last },uni m.first first,m.empty++[em]⟩,⟨.slice ac p'.classes.length cc,vr',vfol',vl',vs',F'⟩,vf',ve',(k:Int)) ⟨by omega,i2,hst.1,by show p'.classes.length≤200;omega,hx',by rw[List.length_append,List.length_singleton,i6]⟩ (by show es.length - (k+1)<es.length - k;omega) (by repeat' (first | exact True.intro | refine And.intro rfl ?_)) (by dsimp only;rw[show p'.last.length=(markF p'.last last).length from (mark_len _ _).symm];rfl)
    · obtain rfl:k=es.length:=by omega
      rw[List.drop_eq_nil_of_le (Nat.le_refl _)] at i2
      rw[i2]
      try refine GA ?_
      refine TL_slv (i:=2) rfl fun _ a1=>TL_slv (i:=3) rfl fun _ a2=>TL_slv (i:=4) rfl fun _ a3=>TL_slv (i:=6) rfl fun _ a4=>TL_slv (i:=7) rfl fun _ a5=>TL_slv (i:=8) rfl fun _ a6 => ?_
      repeat(first|refine GA ?_|refine gV (rr_loadN (cs:=[vc,vr,vf,vfol,vl,ve]) TyC.ty rfl rfl (fun j v hj=>at_blk (i:=1) rfl (posn_at hj))) ?_)
      refine TL_storeB (i:=0) (cs':=#[vc,vr,vf,vfol,vl,ve]) rfl rfl rfl rfl (by simp only[List.all_cons,List.all_nil,a1,a2,a3,a4,a5,a6];rfl) rfl ?_
      conv=>arg 8;simp only[zA,zB,zC,zD,zE,zF,zG,zH,zI,rowS,ret,id_eq]
      try refine GA ?_
      exact E_retc2 (i:=0) rfl rfl rfl rfl rfl fun w hm=>hm.meets (S:=makeSp (0,m)) ⟨vc,vr,vf,vfol,vl,ve,vs,F⟩ i5 [2,3,7,4,5,6,8] (by decide) rfl
end Go.Proofs.Ytldiodhdefnlaaa.eng

/- PlR -/
namespace Go.Proofs.Ytldiodhdefnlaaa.eng
open Go.RowKit kit mix classL rexL placesL classSets
theorem embs_of:∀ {rs:List Rx},checkM rs=0→∃ es:List Re,rs=es.map emb∧∀ e∈es,Fit e 1 0
  | [],_=>⟨[],rfl,fun _ h=>by cases h⟩
  | r::l,h=>by
    have hr:=check_all h r (List.mem_cons_self ..)
    have hl:checkM l=0:=by rw[checkM,if_neg (by simpa using hr)] at h;exact h
    obtain⟨es,rfl,h2⟩:=embs_of hl
    obtain⟨e,rfl,hf,_⟩:=chk_fit (sizeX r) r 1 0 (chk r 1 0).2 (Nat.le_refl _) (by rw[←hr])
    refine⟨e::es,rfl,fun x hx => ?_⟩
    rcases List.mem_cons.1 hx with rfl | hx
    · exact hf
    · exact h2 x hx
theorem fit_size {e:Re} (h:Fit e 1 0):e.size≤100:=by have:=h.sz;omega
theorem loop_zero:∀ (es:List Re) (i:Nat) (m:MS),(loopM i m es).1≠0→(loopM i m es).2 = .zero
  | [],_,_,h=>absurd rfl h
  | e::r,i,m,h=>by
    rw[loopM] at h ⊢
    split at h
    · rename_i c;rw[if_pos c]
    · rename_i c;rw[if_neg c];exact loop_zero r _ _ h
theorem makeR_two (rs:List Rx):(∃ k:Int,k≠0∧MakeR rs (k,.zero))∨∃ (es:List Re) (m:MS),rs=es.map emb∧(∀ e∈es,Fit e 1 0)∧0<es.length∧es.length≤20∧loopM 0 .zero es=(0,m)∧MakeR rs (0,m):=by
  by_cases c:rs.length=0∨20<rs.length
  · exact .inl ⟨1,by decide,.inl ⟨c,rfl⟩⟩
  · by_cases h:checkM rs=0
    · obtain⟨es,h1,h2⟩:=embs_of h
      have hR:MakeR rs (loopM 0 .zero es):= .inr (.inr ⟨c,h,es,h1,fun e he=>fit_size (h2 e he),rfl⟩)
      have hz:=loop_zero es 0 .zero
      have hl:rs.length=es.length:=by rw[h1,List.length_map]
      obtain⟨k,m,e⟩:∃ k m,loopM 0 .zero es=(k,m):=⟨_,_,rfl⟩
      rw[e] at hR hz
      by_cases h0:k=0
      · subst h0
        exact .inr ⟨es,m,h1,h2,by omega,by omega,e,hR⟩
      · obtain rfl:m = .zero:=hz h0
        exact .inl ⟨k,h0,hR⟩
    · exact .inl ⟨checkM rs,h,.inr (.inl ⟨c,h,rfl⟩)⟩
theorem row_slm {e:TypeId} {size n:Nat} {v:Value} {xs:List Value} (w:World) (h:(rowO e size v n xs).holds w):∃ a c,v = .slice a n c∧n≤9223372036854775807∧(0<n→∃ g,a=some ⟨g,0,none⟩):=by
  rcases (show w.ownsRow 0 e size v n xs from h).2 with ⟨rfl,rfl⟩ | ⟨g,cap,cur,rfl,_,_,hn,hm,_⟩
  · exact⟨_,_,rfl,by omega,fun h=>by omega⟩
  · exact⟨_,_,rfl,by unfold maxLen at hm;omega,fun _=>⟨g,rfl⟩⟩
theorem pos_slf {F:Nat→Prop} {v:Value} {vs:List Value} {fol:List (List Int)} {w:World} (hr:(folR v vs).holds w) (he:(folE F vs fol).holds w) (hl:vs.length=fol.length):SlF (sliceS intS) (Low w) w v fol:=by
  have hr':w.ownsRow 0 26 1 v vs.length (vs.flatMap one1):=hr
  obtain⟨base,cap,h1,h2,h3,h4⟩:=Sl.of_own hr'
  rw[hl] at h1 h2
  refine⟨base,cap,h1,h2,h3,fun h0 => ?_⟩
  obtain⟨b,off,h5,h6⟩:=h4 (by omega)
  rw[one1_flat] at h6
  refine⟨b,off,h5,?_,fun i hi=>⟨[vs[i]'(by omega)],⟨vs[i]'(by omega),rfl,?_⟩,fun j u hj => ?_⟩⟩
  · have:=h6 0 _ (List.getElem?_eq_getElem (by omega))
    exact World.block_lt_of_cell? w _ this
  · have hs:=fol_sl he hi (by omega)
    obtain⟨⟨q1,q2⟩,q3⟩:=he
    obtain⟨v',hv',hok,_,hF⟩:=q2 i hi (by rw[List.length_map];omega)
    rw[List.getElem_map] at hv'
    simp only[one1,List.cons.injEq,and_true] at hv'
    rw[←int_flat] at hs
    refine SlF.of_flat hs hok (fun b hb=>q3 b (hF b (by rw[←hv'];exact hb))) fun a n cp hv=>q3 a.block (hF _ (by rw[←hv',hv];rfl))
  · have hj0:j=0:=by have:=(List.getElem?_eq_some_iff.1 hj).1;simp at this;exact this
    subst hj0
    have:=h6 i u (by rw[List.getElem?_eq_getElem (by omega)];exact hj)
    show w.cell? ⟨b,off+i*1+0,none⟩=some u
    rw[Nat.mul_one,Nat.add_zero]
    exact this
end Go.Proofs.Ytldiodhdefnlaaa.eng

/- SmIe -/
namespace Go.Proofs.Ytldiodhdefnlaaa.eng
open Go.RowKit kit mix
theorem SmIn_len (a:Int):(kit.intC a).length=1:=rfl
set_option maxHeartbeats 2000000 in
theorem equalSmIn_calls (v v':Value) (l l':List Int) (w:World) (hs:Sl w v l.length (l.flatMap kit.intC)) (hs':Sl w v' l'.length (l'.flatMap kit.intC)) :
    Calls Try.prog 9 #[v,v'] w (Meets (ret (.bool (decide (l=l')))) w):=by
  obtain⟨base,cap,rfl,hcap,hmax,hrd⟩:=hs
  obtain⟨base',cap',rfl,hcap',hmax',hrd'⟩:=hs'
  unfold maxLen at hmax hmax'
  refine enter (args:=[.slice base l.length cap,.slice base' l'.length cap']) (n:=26) Try.func9 rfl rfl rfl ?_
  by_cases c1:l.length=l'.length
  · try refine GA ?_
    refine T_loop (ι:=Nat) (fun k=>k≤l.length∧l.take k=l'.take k) (fun k=>[(0,.slice base l.length cap),(1,.slice base' l'.length cap'),(12,.int .i64 l.length),(13,.int .i64 (k:Int))]) (fun _=>[]) (fun k=>l.length - k) 0 ⟨by omega,rfl⟩ ⟨rfl,rfl,rfl,rfl,trivial⟩ rfl ?_
    rintro k ⟨h1,h2⟩
    by_cases c2:k<l.length
    · obtain⟨b,off,rfl,hr⟩:=hrd (by omega)
      obtain⟨b',off',rfl,hr'⟩:=hrd' (by omega)
      have c2':k<l'.length:=by omega
      have hat:=at_el (L:=([]:List Own)) SmIn_len hr c2
      have hat':=at_el (L:=([]:List Own)) SmIn_len hr' c2'
      have hv:=hat 0 _ rfl
      have hv':=hat' 0 _ rfl
      clear hat hat'
      by_cases c3:l[k]=l'[k]
      · try refine GA ?_
        refine T_draw 8 (List.replicate 8 true) rfl (by kernel_rfl) (by kernel_rfl) (by intro c a d v w h;cases d <;> exact h) ?_
        repeat(first|refine TM_valg rfl (qp rfl) rfl rfl ?_|refine TM_valg rfl (rr_idxc Und.eq TyC.ty rfl rfl c2) rfl rfl ?_|refine TM_valg rfl (rr_idxc Und.eq TyC.ty rfl rfl c2') rfl rfl ?_|refine TM_valg rfl (rr_load1 TyC.ty rfl hv) rfl rfl ?_|refine TM_valg rfl (rr_load1 TyC.ty rfl hv') rfl rfl ?_|refine TM_valg rfl (qlen Und.eq rfl) rfl rfl ?_|refine TM_valg rfl (rr_lss rfl rfl (qT (by omega))) rfl rfl ?_|refine TM_valg rfl (rr_lss rfl rfl (qF (by omega))) rfl rfl ?_|refine TM_valg rfl (rr_neq rfl rfl (qT (by omega))) rfl rfl ?_|refine TM_valg rfl (rr_neq rfl rfl (qF (by omega))) rfl rfl ?_|refine TM_valg rfl (rr_add64 rfl rfl (by omega) (by omega) rfl) rfl rfl ?_|refine TM_end ?_)
        repeat(first|refine GC ?_|refine gV (rr_neq rfl rfl (decide_eq_false (by omega))) ?_|refine GB ?_)
        exact E_round (k+1) ⟨by omega,by rw[List.take_succ_eq_append_getElem c2,List.take_succ_eq_append_getElem c2',h2,c3]⟩ (by show l.length - (k+1)<l.length - k;omega) ⟨rfl,rfl,rfl,rfl,trivial⟩ rfl
      · rw[decide_eq_false (fun h=>c3 (by subst h;rfl))]
        try refine GA ?_
        refine T_draw 8 (List.replicate 8 true) rfl (by kernel_rfl) (by kernel_rfl) (by intro c a d v w h;cases d <;> exact h) ?_
        repeat(first|refine TM_valg rfl (qp rfl) rfl rfl ?_|refine TM_valg rfl (rr_idxc Und.eq TyC.ty rfl rfl c2) rfl rfl ?_|refine TM_valg rfl (rr_idxc Und.eq TyC.ty rfl rfl c2') rfl rfl ?_|refine TM_valg rfl (rr_load1 TyC.ty rfl hv) rfl rfl ?_|refine TM_valg rfl (rr_load1 TyC.ty rfl hv') rfl rfl ?_|refine TM_valg rfl (qlen Und.eq rfl) rfl rfl ?_|refine TM_valg rfl (rr_lss rfl rfl (qT (by omega))) rfl rfl ?_|refine TM_valg rfl (rr_lss rfl rfl (qF (by omega))) rfl rfl ?_|refine TM_valg rfl (rr_neq rfl rfl (qT (by omega))) rfl rfl ?_|refine TM_valg rfl (rr_neq rfl rfl (qF (by omega))) rfl rfl ?_|refine TM_valg rfl (rr_add64 rfl rfl (by omega) (by omega) rfl) rfl rfl ?_|refine TM_end ?_)
        repeat(first|refine GC ?_|refine gV (rr_neq rfl rfl (decide_eq_true (by omega))) ?_|refine GB ?_)
        exact E_ret1 rfl rfl fun w hm=>hm.ret
    · have e:l=l':=by
        rw[List.take_of_length_le (by omega),List.take_of_length_le (by omega)] at h2;exact h2
      rw[decide_eq_true e]
      try refine GA ?_
      exact E_ret1 rfl rfl fun w hm=>hm.ret
  · rw[decide_eq_false (fun h=>c1 (by rw[h]))]
    try refine GA ?_
    exact E_ret1 rfl rfl fun w hm=>hm.ret
end Go.Proofs.Ytldiodhdefnlaaa.eng

/- BoE -/
namespace Go.Proofs.Ytldiodhdefnlaaa.eng
open Go.RowKit kit mix
def boC (b:Bool):List Value:=[.bool b]
theorem BoE_len (a:Bool):(boC a).length=1:=rfl
end Go.Proofs.Ytldiodhdefnlaaa.eng

/- PlE -/
namespace Go.Proofs.Ytldiodhdefnlaaa.eng
open Go.RowKit kit mix classL placesL
theorem folS_sl {F:Nat→Prop} {w:World} {cs:List Value} {l:List Int} (h:(sliceS intS).is F w cs l):∃ v,cs=[v]∧Sl w v l.length (l.flatMap kit.intC):=by
  obtain⟨v,h1,h2⟩:=h
  exact⟨v,h1,h2.flat (by decide)⟩
theorem slii_gr {w w':World} {v:Value} {l:List (List Int)} (h:SlF (sliceS intS) (Low w) w v l) (hg:Gr w w'):SlF (sliceS intS) (Low w') w' v l:=
  (h.stay fun k hk=>hg.block k hk).mono fun k hk=>Nat.lt_of_lt_of_le hk hg.size
set_option maxHeartbeats 2000000 in
theorem equalFol_calls (v v':Value) (l:List (List Int)) (w:World) (hs:SlF (sliceS intS) (Low w) w v l) (hs':SlF (sliceS intS) (Low w) w v' l) :
    Calls Try.prog 8 #[v,v',.func (.func 9) #[] #[]] w (Meets (ret (.bool true)) w):=by
  have heq:=fun (u u':Value) (k:List Int) w' h h'=>equalSmIn_calls u u' k k w' h h'
  simp only[decide_true] at heq
  obtain⟨base,cap,rfl,hcap,hmax,hrd⟩:=hs
  obtain⟨base',cap',rfl,hcap',hmax',hrd'⟩:=hs'
  unfold maxLen at hmax hmax'
  refine enter (args:=[.slice base l.length cap,.slice base' l.length cap',.func (.func 9) #[] #[]]) (n:=32) Try.func8 rfl rfl rfl ?_
  repeat(first|refine GC ?_|refine gV (rr_neq (b:=false) rfl rfl (decide_eq_false (by omega))) ?_|refine GB ?_)
  refine T_loop (ι:=Nat) (fun k=>k≤l.length) (fun k=>[(1,.slice base' l.length cap'),(2,.func (.func 9) #[] #[]),(15,.slice base l.length cap),(16,.int .i64 l.length),(17,.int .i64 (k:Int))]) (fun _=>[]) (fun k=>l.length - k) 0 (Nat.zero_le _) (by repeat' (first | exact True.intro | refine And.intro rfl ?_)) rfl ?_
  intro k h1
  by_cases c2:k<l.length
  · obtain⟨b,off,rfl,_,hr⟩:=hrd (by omega)
    obtain⟨b',off',rfl,_,hr'⟩:=hrd' (by omega)
    obtain⟨cs,hc,hd⟩:=hr k c2
    obtain⟨cs',hc',hd'⟩:=hr' k c2
    obtain⟨u,rfl,hu⟩:=folS_sl hc
    obtain⟨u',rfl,hu'⟩:=folS_sl hc'
    have hat:=fun (L:List Own)=>at_rd (L:=L) hd (j:=0) (v:=u) rfl
    have hat':=fun (L:List Own)=>at_rd (L:=L) hd' (j:=0) (v:=u') rfl
    generalize l[k]=x at *
    repeat(first|refine GA ?_|refine gV (rr_idxc Und.eq TyC.ty rfl rfl c2) ?_|refine gV (rr_load1 TyC.ty rfl (hat _)) ?_|refine gV (rr_load1 TyC.ty rfl (hat' _)) ?_)
    refine TL_call (he2 EntersC.en rfl rfl rfl) (fun w hm=>heq u u' x w (hu.gr hm.below) (hu'.gr hm.below)) rfl rfl rfl ?_
    intro _ _
    try refine GA ?_
    exact E_round (k+1) (by omega) (by show l.length - (k+1)<l.length - k;omega) (by repeat' (first | exact True.intro | refine And.intro rfl ?_)) rfl
  · try refine GA ?_
    exact E_ret1 rfl rfl fun w hm=>hm.ret
def PosR (w:World) (v:Value) (m:MS):Prop:=
  ∃ vc vr vf vfol vl ve,v = .agg #[vc,vr,vf,vfol,vl,ve]∧Sl w vc m.ps.classes.length (m.ps.classes.flatMap clsL)∧Sl w vr m.ps.rules.length (m.ps.rules.flatMap kit.intC)∧Sl w vf m.first.length (m.first.flatMap kit.intC)∧
    SlF (sliceS intS) (Low w) w vfol m.ps.follow∧Sl w vl m.ps.last.length (m.ps.last.flatMap boC)∧Sl w ve m.empty.length (m.empty.flatMap boC)
theorem PosR.gr {w w':World} {v:Value} {m:MS} (h:PosR w v m) (hg:Gr w w'):PosR w' v m:=by
  obtain⟨vc,vr,vf,vfol,vl,ve,h0,h1,h2,h3,h4,h5,h6⟩:=h
  exact⟨vc,vr,vf,vfol,vl,ve,h0,h1.gr hg,h2.gr hg,h3.gr hg,slii_gr h4 hg,h5.gr hg,h6.gr hg⟩
end Go.Proofs.Ytldiodhdefnlaaa.eng

/- PlP -/
namespace Go.Proofs.Ytldiodhdefnlaaa.eng
open Go.RowKit kit mix classL rexL placesL
theorem boC_flat (l:List Bool):l.flatMap boC=l.map Value.bool:=bool_flat l
theorem posR_of {w:World} {x:PIx} {m:MS} (hl:x.vs.length=m.ps.follow.length) (h0:(rowO 83 4 x.vc m.ps.classes.length (m.ps.classes.flatMap clsL)).holds w) (h1:(intR x.vr m.ps.rules).holds w) (h2:(intR x.vf m.first).holds w) (h3:(folR x.vfol x.vs).holds w) (h4:(folE x.F x.vs m.ps.follow).holds w)
    (h5:(rowO 4 1 x.vl m.ps.last.length (m.ps.last.map Value.bool)).holds w) (h6:(rowO 4 1 x.ve m.empty.length (m.empty.map Value.bool)).holds w):PosR w (.agg (posC x)) m:=by
  refine⟨_,_,_,_,_,_,rfl,Sl.of_own h0,?_,?_,pos_slf h3 h4 hl,?_,?_⟩
  · rw[int_flat];exact Sl.of_own h1
  · rw[int_flat];exact Sl.of_own h2
  · rw[boC_flat];exact Sl.of_own h5
  · rw[boC_flat];exact Sl.of_own h6
theorem Mem.posR {w:World} {B:Base} {L:List Own} {x:PIx} {m:MS} (i:Nat) (hm:Mem B L w) (hl:x.vs.length=m.ps.follow.length) (h:posL x m=[i,i+1,i+2,i+3,i+4,i+5,i+6].filterMap fun j=>L[j]?) (hlen:i+6<L.length):PosR w (.agg (posC x)) m:=by
  have g:∀ j,j<7→∃ o,L[i+j]?=some o∧(posL x m)[j]?=some o:=by
    intro j hj
    have e:∀ k,k<7→∃ o,L[i+k]?=some o:=fun k hk=>⟨_,List.getElem?_eq_getElem (by omega)⟩
    rw[h]
    obtain⟨o0,e0⟩:∃ o,L[i]?=some o:=e 0 (by omega)
    obtain⟨o1,e1⟩:=e 1 (by omega)
    obtain⟨o2,e2⟩:=e 2 (by omega)
    obtain⟨o3,e3⟩:=e 3 (by omega)
    obtain⟨o4,e4⟩:=e 4 (by omega)
    obtain⟨o5,e5⟩:=e 5 (by omega)
    obtain⟨o6,e6⟩:=e 6 (by omega)
    simp only[List.filterMap_cons,e0,e1,e2,e3,e4,e5,e6,List.filterMap_nil]
    match j,hj with
    | 0,_=>exact⟨_,e0,rfl⟩
    | 1,_=>exact⟨_,e1,rfl⟩
    | 2,_=>exact⟨_,e2,rfl⟩
    | 3,_=>exact⟨_,e3,rfl⟩
    | 4,_=>exact⟨_,e4,rfl⟩
    | 5,_=>exact⟨_,e5,rfl⟩
    | 6,_=>exact⟨_,e6,rfl⟩
  have k:∀ j o,j<7→(posL x m)[j]?=some o→o.holds w:=fun j o hj ho=>by
    obtain⟨o',h1,h2⟩:=g j hj
    rw[h2] at ho
    cases ho
    exact hm.get h1
  exact posR_of hl (k 0 _ (by omega) rfl) (k 1 _ (by omega) rfl) (k 2 _ (by omega) rfl) (k 3 _ (by omega) rfl) (k 4 _ (by omega) rfl) (k 5 _ (by omega) rfl) (k 6 _ (by omega) rfl)
end Go.Proofs.Ytldiodhdefnlaaa.eng

/- PlK -/
namespace Go.Proofs.Ytldiodhdefnlaaa.eng
open Go.RowKit kit mix classL rexL placesL
set_option maxHeartbeats 2000000 in
theorem rises_calls (v:Value) (l:List Int) (n:Nat) (w:World) (hv:Sl w v l.length (l.flatMap kit.intC)) (h:Ris n l) :
    Calls Try.prog 55 #[v,.int .i64 (n:Int)] w (Meets (ret (.bool true)) w):=by
  obtain⟨base,cap,rfl,hcap,hmax,hrd⟩:=hv
  unfold maxLen at hmax
  refine enter (args:=[.slice base l.length cap,.int .i64 (n:Int)]) (n:=35) Try.func55 rfl rfl rfl ?_
  try refine GA ?_
  refine T_loop (ι:=Nat) (fun k=>k≤l.length) (fun k=>[(0,.slice base l.length cap),(1,.int .i64 (n:Int)),(7,.slice base l.length cap),(8,.int .i64 l.length),(9,.int .i64 (k:Int))]) (fun _=>[]) (fun k=>l.length - k) 0 (Nat.zero_le _) (by repeat' (first | exact True.intro | refine And.intro rfl ?_)) rfl ?_
  intro k h1
  by_cases c2:k<l.length
  · obtain⟨b,off,rfl,hr⟩:=hrd (by omega)
    have hat:=at_el (L:=([]:List Own)) SmIn_len hr c2 0 _ rfl
    have hx:=h.2 _ (List.getElem_mem c2)
    by_cases c3:0<k
    · have hp:=List.pairwise_iff_getElem.1 h.1 (k - 1) k (by omega) c2 (by omega)
      have hat2:=at_el (L:=([]:List Own)) SmIn_len hr (k:=k - 1) (by omega) 0 _ rfl
      generalize l[k]=x at *
      generalize l[k - 1]'(by omega)=y at *
      repeat(first|refine GC ?_|refine gV (rr_idxc Und.eq TyC.ty rfl rfl c2) ?_|refine gV (rr_load1 (v:= .int .i64 x) TyC.ty rfl hat) ?_|refine gV (rr_lss (b:=false) rfl rfl (decide_eq_false (by omega))) ?_|refine gV (rr_idxc (j:=k - 1) Und.eq TyC.ty rfl rfl (by omega)) ?_|refine gV (rr_load1 (v:= .int .i64 y) TyC.ty rfl hat2) ?_|refine gV (rr_geq (b:=false) rfl rfl (decide_eq_false (by omega))) ?_|refine gV (rr_gtr (b:=true) rfl rfl (decide_eq_true (by omega))) ?_|refine gV (rr_sub64 (r:=((k - 1:Nat):Int)) rfl rfl (by omega) (by omega) (by omega)) ?_|refine gV (rr_leq (b:=false) rfl rfl (decide_eq_false (by omega))) ?_|refine GB ?_)
      exact E_round (k+1) (by omega) (by show l.length - (k+1)<l.length - k;omega) (by repeat' (first | exact True.intro | refine And.intro rfl ?_)) rfl
    · generalize l[k]=x at *
      repeat(first|refine GC ?_|refine gV (rr_idxc Und.eq TyC.ty rfl rfl c2) ?_|refine gV (rr_load1 (v:= .int .i64 x) TyC.ty rfl hat) ?_|refine gV (rr_lss (b:=false) rfl rfl (decide_eq_false (by omega))) ?_|refine gV (rr_geq (b:=false) rfl rfl (decide_eq_false (by omega))) ?_|refine gV (rr_gtr (b:=false) rfl rfl (decide_eq_false (by omega))) ?_|refine GB ?_)
      exact E_round (k+1) (by omega) (by show l.length - (k+1)<l.length - k;omega) (by repeat' (first | exact True.intro | refine And.intro rfl ?_)) rfl
  · try refine GA ?_
    exact E_ret1 rfl rfl fun w hm=>hm.ret
theorem fol_at {w:World} {b off:Nat} {l:List (List Int)} {F:Nat→Prop} (hr:∀ i (h:i<l.length),∃ cs,(sliceS intS).is F w cs l[i]∧Rd w b (off+i*(sliceS intS).c) cs) {k:Nat} (hk:k<l.length):∃ u,Sl w u l[k].length (l[k].flatMap kit.intC)∧Rd w b (off+k*1) [u]:=by
  obtain⟨cs,h1,h2⟩:=hr k hk
  obtain⟨u,rfl,h3⟩:=folS_sl h1
  exact⟨u,h3,h2⟩
set_option maxHeartbeats 4000000 in
theorem posCheck_calls (v:Value) (m:MS) (w:World) (hp:PosR w v m) (h:MOkP m) :
    Calls Try.prog 38 #[v] w (Meets (ret (.int .i64 0)) w):=by
  obtain⟨vc,vr,vf,vfol,vl,ve,rfl,h1,h2,h3,h4,h5,h6⟩:=hp
  have hmR:=h.rules
  have hmf:=h.few
  have hms:=h.some
  have hmm:=h.most
  have l1:=h.ok.ps.rules
  have l2:=h.ok.ps.follow
  have l3:=h.ok.ps.last
  have q1:=fun w' (hg:Gr w w')=>rises_calls vf m.first m.ps.classes.length w' (h3.gr hg) h.ok.first
  have hri:=h.ok.ps.ris
  clear h h3
  obtain⟨⟨cl,rul,fol,la⟩,fi,em⟩:=m
  dsimp only at *
  rw[l1] at h2
  obtain⟨ac,cc,rfl,_⟩:=h1
  obtain⟨ar,cr,rfl,hcr,hmr,hrr⟩:=h2
  obtain⟨afo,cfo,rfl,hcf,hmfo,hrf⟩:=h4
  obtain⟨al,cl2,rfl,_⟩:=h5
  obtain⟨ae,ce,rfl,_⟩:=h6
  rw[l2] at hcf
  unfold maxLen at *
  have q1':=q1
  clear q1
  generalize hn:cl.length=n at *
  refine enter (args:=[.agg #[.slice ac n cc,.slice ar n cr,vf,.slice afo fol.length cfo,.slice al la.length cl2,.slice ae em.length ce]]) (n:=80) Try.func38 rfl rfl rfl ?_
  refine T_seq (T_region (TL_box rfl rfl rfl fun g1 => ?_))
  conv=>arg 8;simp only[zA,zB,zC,zD,zE,zF,zG,zH,zI,rowS,ret,id_eq]
  repeat(first|refine GC ?_|refine gV (rr_load1 (v:= .slice ac n cc) TyC.ty rfl (at_blk (i:=0) rfl rfl)) ?_|refine gV (rr_load1 (v:= .slice ar n cr) TyC.ty rfl (at_blk (i:=0) rfl rfl)) ?_|refine gV (rr_load1 (v:= .slice afo fol.length cfo) TyC.ty rfl (at_blk (i:=0) rfl rfl)) ?_|refine gV (rr_load1 (v:= .slice al la.length cl2) TyC.ty rfl (at_blk (i:=0) rfl rfl)) ?_|refine gV (rr_load1 (v:= .slice ae em.length ce) TyC.ty rfl (at_blk (i:=0) rfl rfl)) ?_|refine gV (rr_load1 (v:=vf) TyC.ty rfl (at_blk (i:=0) rfl rfl)) ?_|refine gV (rr_neq (b:=false) rfl rfl (decide_eq_false (by omega))) ?_|refine gV (rr_gtr (b:=false) rfl rfl (decide_eq_false (by omega))) ?_|refine gV (rr_eql (b:=false) rfl rfl (decide_eq_false (by omega))) ?_|refine GB ?_)
  refine TL_gcall (he2 EntersC.en rfl rfl rfl) (fun w hm=>q1' _ hm.below) rfl rfl rfl rfl rfl ?_
  intro _ _
  conv=>arg 8;simp only[zA,zB,zC,zD,zE,zF,zG,zH,zI,rowS,ret,id_eq]
  clear q1'
  try refine GA ?_
  refine T_loop (ι:=Nat) (fun k=>k≤n) (fun k=>[(1,.pointer (some ⟨g1,0,none⟩)),(3,.int .i64 (n:Int)),(46,.int .i64 (n:Int)),(47,.int .i64 (k:Int))]) (fun _=>[blkO g1 #[.slice ac n cc,.slice ar n cr,vf,.slice afo fol.length cfo,.slice al la.length cl2,.slice ae em.length ce] 90]) (fun k=>n - k) 0 (Nat.zero_le _) (by repeat' (first | exact True.intro | refine And.intro rfl ?_)) rfl ?_
  intro k hk
  by_cases c1:k<n
  · obtain⟨br,offr,rfl,hrd⟩:=hrr (by omega)
    obtain⟨bf,offf,rfl,_,hrfd⟩:=hrf (by omega)
    obtain⟨u,hu,hd⟩:=fol_at hrfd (show k<fol.length by omega)
    have hatr:=fun (L:List Own)=>at_el (L:=L) SmIn_len hrd (show k<rul.length by omega) 0 _ rfl
    have hatf:=fun (L:List Own)=>at_rd (L:=L) hd (j:=0) (v:=u) rfl
    have hx:=hmR _ (List.getElem_mem (show k<rul.length by omega))
    have q:=fun w' (hg:Gr w w')=>rises_calls u fol[k] n w' (hu.gr hg) (hri _ (List.getElem_mem _))
    clear hrr hrf hrd hrfd hd hu
    generalize rul[k]=x at *
    try refine GA ?_
    refine T_ord ([blkO g1 #[.slice ac n cc,.slice (some ⟨br,offr,none⟩) n cr,vf,.slice (some ⟨bf,offf,none⟩) fol.length cfo,.slice al la.length cl2,.slice ae em.length ce] 90]) (.calm 0 (.calm 1 (.calm 2 (.calm 3 (.calm 4 (.calm 5 (.calm 6 (.calm 7 (.calm 8 (.calm 9 (.calm 10 (.calm 11 (.calm 12 (.calm 13 (.calm 14 (.calm 15 (.calm 16 (.calm 17 (.calm 18 (.calm 19 (.calm 20 (.calm 21 (.calm 22 (.calm 23 (.one 24 (.calm 25 (.calm 26 (.done)))))))))))))))))))))))))))) (sub_pick [0] (by decide) rfl) (by kernel_rfl) (by kernel_rfl) (by intro c a d v w h;cases d <;> exact h) ?_
    repeat(first|(refine GN ?_;first|refine QW QP ?_|refine QW (rr_load1 (v:= .slice (some ⟨br,offr,none⟩) n cr) TyC.ty rfl (at_blk (i:=0) rfl rfl)) ?_|refine QW (rr_idxc Und.eq TyC.ty rfl rfl c1) ?_|refine QW (rr_load1 (v:= .int .i64 x) TyC.ty rfl (hatr _)) ?_|refine QW (rr_lss (b:=false) rfl rfl (decide_eq_false (by omega))) ?_|refine QW (rr_load1 (v:= .slice ae em.length ce) TyC.ty rfl (at_blk (i:=0) rfl rfl)) ?_|refine QW (rr_load1 (v:= .slice (some ⟨bf,offf,none⟩) fol.length cfo) TyC.ty rfl (at_blk (i:=0) rfl rfl)) ?_|refine QW (rr_idxc (j:=k) Und.eq TyC.ty rfl rfl (by omega)) ?_|refine QW (rr_load1 (v:=u) TyC.ty rfl (hatf _)) ?_|refine QW (rr_geq (b:=false) rfl rfl (decide_eq_false (by omega))) ?_|refine GX ?_)|refine GW ?_)
    refine TW_one rfl (TL_metg rfl rfl rfl (TL_call (he2 EntersC.en rfl rfl rfl) (fun w hm=>q w hm.below) rfl rfl rfl fun _ _=>(TW_on (sub_pick [0] (by decide) rfl) ?_)))
    try refine GW ?_
    try refine GA ?_
    refine E_pick [0] (by decide) rfl ?_
    exact E_round (k+1) (by omega) (by show n - (k+1)<n - k;omega) (by repeat' (first | exact True.intro | refine And.intro rfl ?_)) rfl
  · repeat(first|refine GC ?_|refine gV (rr_gtr (b:=false) rfl rfl (decide_eq_false (by omega))) ?_|refine GB ?_)
    exact E_ret1 rfl rfl fun w hm=>hm.ret
end Go.Proofs.Ytldiodhdefnlaaa.eng

/- PlT -/
namespace Go.Proofs.Ytldiodhdefnlaaa.eng
open Go.RowKit kit mix classL rexL placesL
theorem at_elO {α:Type} {f:α→List Value} {c:Nat} {W0:World} {W:Base} {L:List Own} {b off:Nat} {l:List α} (hc:∀ a,(f a).length=c) (ho:Old W0 W) (h:Rd W0 b off (l.flatMap f)) {k:Nat} (hk:k<l.length) (j:Nat) (u:Value) (hj:(f l[k])[j]?=some u):At W L ⟨b,off+k*c+j,none⟩ u:=by
  have hjc:j<c:=by rw[←hc l[k]];exact (List.getElem?_eq_some_iff.1 hj).1
  rw[Nat.add_assoc]
  exact at_oldR ho h _ u (by rw[get_el hc l k j hk hjc];exact hj)
end Go.Proofs.Ytldiodhdefnlaaa.eng

/- DfN -/
namespace Go.Proofs.Ytldiodhdefnlaaa.eng
open Go.RowKit kit mix classL rexL placesL dfaP
def dmC (vc vr vf vfol vl ve vs num rows tags:Value):Array Value:=#[vc,vr,vf,vfol,vl,ve,vs,num,rows,tags]
def setL (S:List C4):List Value:=(C4.zero::S).flatMap clsL
theorem at_here {w:World} {g:Nat} {cs:Array Value} {T:TypeId} (hg:w.heap[g]?=some (.cells cs T (0,0))) (L:List Own) {k:Nat} {v:Value} (hv:cs[k]?=some v):At (w:Base) L ⟨g,k,none⟩ v:=
  at_old (by rw[cell_of_row w g k cs T (0,0) hg];exact hv)
set_option maxHeartbeats 4000000 in
theorem dfaNext_calls (m:MS) (vc vr vf vfol vl ve vs num rows tags:Value) (S:List C4) (g n:Nat) (w:World) (hp:PosR w (.agg #[vc,vr,vf,vfol,vl,ve]) m) (h:MOkP m) (hg:w.heap[g]?=some (.cells (dmC vc vr vf vfol vl ve vs num rows tags) 135 (0,0)))
    (hs:Sl w vs (S.length+1) (setL S)) (hn:n≤S.length) :
    Calls Try.prog 56 #[.pointer (some ⟨g,0,none⟩),.int .i64 (n:Int)] w (Meets (ret (clsV (nextF m S n))) w):=by
  obtain⟨_,_,_,_,_,_,he,h1,h2,h3,h4,h5,h6⟩:=hp
  simp only[Value.agg.injEq,Array.mk.injEq,List.cons.injEq,and_true] at he
  obtain⟨rfl,rfl,rfl,rfl,rfl,rfl⟩:=he
  have hmf:=h.few
  have hfi:=h.ok.first.2
  have hri:=h.ok.ps.ris
  have hfl:=h.ok.ps.follow
  clear h h1 h2 h5 h6
  obtain⟨af,cf,rfl,_,hmaf,hrf⟩:=h3
  obtain⟨ao,co,rfl,_,hmo,hro⟩:=h4
  obtain⟨ab,cs,rfl,hcs,hms,hrs⟩:=hs
  unfold maxLen at *
  have hm:=fun L k v hv=>at_here (k:=k) (v:=v) hg L hv
  refine enter (args:=[.pointer (some ⟨g,0,none⟩),.int .i64 (n:Int)]) (n:=59) Try.func56 rfl rfl rfl ?_
  refine T_seq (T_region (TL_new rfl fun g4 => ?_))
  conv=>arg 8;simp only[zA,zB,zC,zD,zE,zF,zG,zH,zI,rowS,ret,id_eq]
  try refine GA ?_
  refine TL_new rfl fun g5 => ?_
  conv=>arg 8;simp only[zA,zB,zC,zD,zE,zF,zG,zH,zI,rowS,ret,id_eq]
  by_cases c0:n=0
  · subst c0
    repeat(first|refine GC ?_|refine gV (rr_eql (b:=true) rfl rfl (decide_eq_true (by simp))) ?_|refine gV (rr_load1 (v:= .slice af m.first.length cf) TyC.ty rfl (hm _ 2 _ rfl)) ?_|refine GB ?_)
    refine T_loop (ι:=Nat) (fun k=>k≤m.first.length) (fun k=>[(4,.pointer (some ⟨g4,0,none⟩)),(5,.pointer (some ⟨g5,0,none⟩)),(18,.slice af m.first.length cf),(19,.int .i64 m.first.length),(20,.int .i64 (k:Int))])
      (fun k=>[blkO g4 (clsL C4.zero).toArray 162,blkO g5 (clsL (putAll C4.zero (m.first.take k))).toArray 162]) (fun k=>m.first.length - k) 0 (Nat.zero_le _) (by repeat' (first | exact True.intro | refine And.intro rfl ?_)) rfl ?_
    intro k hk
    by_cases c1:k<m.first.length
    · have hx:=hfi _ (List.getElem_mem c1)
      have hst:=put_step C4.zero m.first c1
      obtain⟨bf,offf,rfl,hrfd⟩:=hrf (by omega)
      have hat:=fun (L:List Own)=>at_el (L:=L) SmIn_len hrfd c1 0 _ rfl
      generalize m.first[k]=x at *
      generalize putAll C4.zero (m.first.take k)=c at *
      obtain⟨xn,rfl⟩:=Int.eq_ofNat_of_zero_le hx.1
      rw[Int.toNat_natCast] at hst
      repeat(first|refine GA ?_|refine gV (rr_idxc Und.eq TyC.ty rfl rfl c1) ?_|refine gV (rr_load1 (v:= .int .i64 (xn:Int)) TyC.ty rfl (hat _)) ?_)
      refine TL_callB [1] [0] (by decide) rfl rfl (he2 EntersC.en rfl rfl rfl) (fun w hm hb=>setPut_calls c xn (by omega) g5 w _ hb) rfl rfl rfl ?_
      intro _ _
      conv=>arg 8;simp only[zA,zB,zC,zD,zE,zF,zG,zH,zI,rowS,ret,id_eq]
      try refine GA ?_
      exact E_round (k+1) (by omega) (by show m.first.length - (k+1)<m.first.length - k;omega) (by repeat' (first | exact True.intro | refine And.intro rfl ?_)) (by rw[hst])
    · obtain rfl:k=m.first.length:=by omega
      rw[List.take_of_length_le (Nat.le_refl _)]
      unfold nextF
      generalize putAll C4.zero m.first=c at *
      repeat(first|refine GA ?_|refine gV (rr_loadB (i:=1) TyC.ty rfl rfl rfl) ?_)
      refine TL_storeB (i:=0) (cs':=(clsL c).toArray) rfl rfl rfl rfl rfl rfl ?_
      conv=>arg 8;simp only[zA,zB,zC,zD,zE,zF,zG,zH,zI,rowS,ret,id_eq]
      try refine GA ?_
      exact E_retc1 (i:=0) rfl rfl rfl rfl fun w hm=>hm.ret
  · obtain⟨q,rfl⟩:∃ q,n=q+1:=⟨n - 1,by omega⟩
    obtain⟨bs,offs,rfl,hrsd⟩:=hrs (by omega)
    have hats:=fun (L:List Own)=>at_el (L:=L) (f:=clsL) (c:=4) (fun _=>rfl) (show Rd w bs offs ((C4.zero::S).flatMap clsL) from hrsd) (k:=q+1) (by simp;omega)
    have hgd:S.getD q C4.zero=S[q]'(by omega):=by rw[List.getD_eq_getElem?_getD,List.getElem?_eq_getElem (by omega)];rfl
    rw[show nextF m S (q+1)=nextTo m.ps (S.getD q C4.zero) m.ps.follow.length from rfl,hgd]
    have hats:∀ (L:List Own) (j:Nat) (u:Value),(clsL (S[q]'(by omega)))[j]?=some u→At (w:Base) L ⟨bs,offs+(q+1)*4+j,none⟩ u:=fun L j u hj=>hats L j u hj
    clear hgd hrsd hrs hrf hfi
    generalize S[q]'(by omega)=s at *
    repeat(first|refine GC ?_|refine gV (rr_eql (b:=false) rfl rfl (decide_eq_false (by omega))) ?_|refine gV (rr_load1 (v:= .slice ao m.ps.follow.length co) TyC.ty rfl (hm _ 3 _ rfl)) ?_|refine GB ?_)
    refine T_loop (ι:=Nat) (fun k=>k≤m.ps.follow.length) (fun k=>[(0,.pointer (some ⟨g,0,none⟩)),(1,.int .i64 ((q+1:Nat):Int)),(4,.pointer (some ⟨g4,0,none⟩)),(5,.pointer (some ⟨g5,0,none⟩)),(32,.slice ao m.ps.follow.length co),(33,.int .i64 m.ps.follow.length),(34,.int .i64 (k:Int))])
      (fun k=>[blkO g4 (clsL C4.zero).toArray 162,blkO g5 (clsL (nextTo m.ps s k)).toArray 162]) (fun k=>m.ps.follow.length - k) 0 (Nat.zero_le _) (by repeat' (first | exact True.intro | refine And.intro rfl ?_)) rfl ?_
    intro k hk
    by_cases c1:k<m.ps.follow.length
    · obtain⟨bo,offo,rfl,_,hrod⟩:=hro (by omega)
      obtain⟨u,hu,hd⟩:=fol_at hrod c1
      have hatf:=fun (L:List Own)=>at_rd (L:=L) hd (j:=0) (v:=u) rfl
      have hrx:=(hri _ (List.getElem_mem c1)).2
      have hgd:m.ps.follow.getD k []=m.ps.follow[k]:=by rw[List.getD_eq_getElem?_getD,List.getElem?_eq_getElem c1];rfl
      have hst:nextTo m.ps s (k+1)=if s.mem k=true then putAll (nextTo m.ps s k) m.ps.follow[k] else nextTo m.ps s k:=by rw[nextTo,hgd]
      clear hgd
      obtain⟨au,cu,rfl,_,hmu,hru⟩:=hu
      unfold maxLen at hmu
      generalize m.ps.follow[k]=l at *
      generalize nextTo m.ps s k=c at *
      repeat(first|refine GA ?_|refine gV (rr_idxc Und.eq TyC.ty rfl rfl c1) ?_|refine gV (rr_load1 (v:= .slice au l.length cu) TyC.ty rfl (hatf _)) ?_|refine gV (rr_load1 (v:= .slice (some ⟨bs,offs,none⟩) (S.length+1) cs) TyC.ty rfl (hm _ 6 _ rfl)) ?_|refine gV (rr_idxc (j:=q+1) Und.eq TyC.ty rfl rfl (by omega)) ?_|refine gV (rr_loadN (cs:=clsL s) TyC.ty rfl rfl (hats _)) ?_)
      have hhas:=fun w=>setHas_calls s k (by omega) w
      generalize hb:s.mem k=b at *
      refine TL_call (he2 EntersC.en rfl rfl rfl) (fun w hm=>hhas w) rfl rfl rfl ?_
      intro _ _
      conv=>arg 8;simp only[zA,zB,zC,zD,zE,zF,zG,zH,zI,rowS,ret,id_eq]
      by_cases c2:b=true
      · subst c2
        rw[if_pos rfl] at hst
        try refine GA ?_
        refine T_loop (ι:=Nat) (fun j=>j≤l.length) (fun j=>[(0,.pointer (some ⟨g,0,none⟩)),(1,.int .i64 ((q+1:Nat):Int)),(4,.pointer (some ⟨g4,0,none⟩)),(5,.pointer (some ⟨g5,0,none⟩)),(32,.slice (some ⟨bo,offo,none⟩) m.ps.follow.length co),(33,.int .i64 m.ps.follow.length),(34,.int .i64 (k:Int)),(48,.slice au l.length cu),(49,.int .i64 l.length),(50,.int .i64 (j:Int))])
          (fun j=>[blkO g4 (clsL C4.zero).toArray 162,blkO g5 (clsL (putAll c (l.take j))).toArray 162]) (fun j=>l.length - j) 0 (Nat.zero_le _) (by repeat' (first | exact True.intro | refine And.intro rfl ?_)) rfl ?_
        intro j hj
        by_cases c3:j<l.length
        · have hx:=hrx _ (List.getElem_mem c3)
          have hst2:=put_step c l c3
          obtain⟨bf,offf,rfl,hrfd⟩:=hru (by omega)
          have hat:=fun (L:List Own)=>at_el (L:=L) SmIn_len hrfd c3 0 _ rfl
          generalize l[j]=x at *
          generalize putAll c (l.take j)=c' at *
          obtain⟨xn,rfl⟩:=Int.eq_ofNat_of_zero_le hx.1
          rw[Int.toNat_natCast] at hst2
          repeat(first|refine GA ?_|refine gV (rr_idxc Und.eq TyC.ty rfl rfl c3) ?_|refine gV (rr_load1 (v:= .int .i64 (xn:Int)) TyC.ty rfl (hat _)) ?_)
          refine TL_callB [1] [0] (by decide) rfl rfl (he2 EntersC.en rfl rfl rfl) (fun w hm hb=>setPut_calls c' xn (by omega) g5 w _ hb) rfl rfl rfl ?_
          intro _ _
          conv=>arg 8;simp only[zA,zB,zC,zD,zE,zF,zG,zH,zI,rowS,ret,id_eq]
          try refine GA ?_
          exact E_round (j+1) (by omega) (by show l.length - (j+1)<l.length - j;omega) (by repeat' (first | exact True.intro | refine And.intro rfl ?_)) (by rw[hst2])
        · obtain rfl:j=l.length:=by omega
          rw[List.take_of_length_le (Nat.le_refl _)]
          try refine GA ?_
          exact E_round (k+1) (by omega) (by show m.ps.follow.length - (k+1)<m.ps.follow.length - k;omega) (by repeat' (first | exact True.intro | refine And.intro rfl ?_)) (by rw[hst])
      · rw[if_neg c2] at hst
        obtain rfl:=Bool.eq_false_iff.2 c2
        try refine GA ?_
        exact E_round (k+1) (by omega) (by show m.ps.follow.length - (k+1)<m.ps.follow.length - k;omega) (by repeat' (first | exact True.intro | refine And.intro rfl ?_)) (by rw[hst])
    · obtain rfl:k=m.ps.follow.length:=by omega
      generalize nextTo m.ps s m.ps.follow.length=c at *
      repeat(first|refine GA ?_|refine gV (rr_loadB (i:=1) TyC.ty rfl rfl rfl) ?_)
      refine TL_storeB (i:=0) (cs':=(clsL c).toArray) rfl rfl rfl rfl rfl rfl ?_
      conv=>arg 8;simp only[zA,zB,zC,zD,zE,zF,zG,zH,zI,rowS,ret,id_eq]
      try refine GA ?_
      exact E_retc1 (i:=0) rfl rfl rfl rfl fun w hm=>hm.ret
end Go.Proofs.Ytldiodhdefnlaaa.eng

/- DfT -/
namespace Go.Proofs.Ytldiodhdefnlaaa.eng
open Go.RowKit kit mix classL rexL placesL dfaP smallL
theorem setLaid:laidOutB Try.prog=true:=by kernel_rfl
theorem setRow:(162 : TypeId)<Try.prog.types.size:=of_decide_eq_true (by kernel_rfl)
theorem setWide:(match Try.prog.underlying 162 with | some (.array _ _) | some (.struct _)=>true | _=>false)=true:=by kernel_rfl
theorem set_key (x:C4):∃ l,keyOf Try.prog 162 (clsV x)=some l:=by
  obtain⟨a,b,c,d⟩:=x
  have e1:Try.prog.keyType 162 = true:=by kernel_rfl
  have e2:Try.prog.cellsOf 162 = 4:=by kernel_rfl
  have e3:Try.prog.cellsOf 64 = 1:=by kernel_rfl
  have e4:∃ d,Try.prog.types.size+1=d+2:=⟨Try.prog.types.size - 1,by have:0<Try.prog.types.size:=Nat.lt_of_le_of_lt (Nat.zero_le 162) setRow;omega⟩
  obtain⟨dd,e4⟩:=e4
  have key:∀ v:BitVec 64,Try.prog.keyLits (dd+1) 64 [.int .u64 (n64 v)]=some [.int .u64 (n64 v)]:=fun v=>by
    have hw:(Lit.int .u64 (n64 v)).wf=true:=by
      have h0:=n64_lo v
      have h1:=n64_hi v
      simp[Lit.wf,IntKind.min,IntKind.max,IntKind.signed,IntKind.bits,h0,h1]
    simp[Program.keyLits,Try.underlying64,hw]
  have hl:Try.prog.keyLits (dd+2) 162 [.int .u64 (n64 a),.int .u64 (n64 b),.int .u64 (n64 c),.int .u64 (n64 d)]=some [.int .u64 (n64 a),.int .u64 (n64 b),.int .u64 (n64 c),.int .u64 (n64 d)]:=by
    unfold Program.keyLits
    simp[Try.underlying162,e2,e3,List.range_succ_eq_map,key]
  have hf:(clsV ⟨a,b,c,d⟩).formed Try.prog 162 = true:=by simp[clsV,Value.formed,Try.underlying162,e2]
  unfold keyOf
  rw[Try.underlying162]
  refine⟨.string (keyBytes ([.int .u64 (n64 a),.int .u64 (n64 b),.int .u64 (n64 c),.int .u64 (n64 d)])),?_⟩
  show (if (Try.prog.keyType 162 && (clsV ⟨a,b,c,d⟩).formed Try.prog 162)=true then (Try.prog.keyLits (Try.prog.types.size+1) 162 [.int .u64 (n64 a),.int .u64 (n64 b),.int .u64 (n64 c),.int .u64 (n64 d)]).map (fun ls=>Lit.string (keyBytes ls)) else none)=_
  rw[e1,hf,e4,hl]
  rfl
set_option maxRecDepth 100000 in
def setK:KeyT Try.prog 162 C4 where
  kv:=clsV
  ok _:=True
  law:=deep_law_laid setLaid (m:=2) (by omega) setRow (by kernel_rfl) setWide
  key x _:=set_key x
  inj x y h:=by
    simp only[clsV,Value.agg.injEq,Array.mk.injEq,List.cons.injEq,Value.int.injEq,true_and,and_true] at h
    exact C4.ext' (n64_inj h.1) (n64_inj h.2.1) (n64_inj h.2.2.1) (n64_inj h.2.2.2)
theorem zeroIntD (w:World):(zeroValue 3).run Try.prog w = .ok (.int .i64 0) w:=by kernel_rfl
def mapAt1 (D:List C4) (x:C4):Option Value:=if x∈D then some (.int .i64 ((idx D x+1:Nat):Int)) else none
theorem mapAt1_add {D:List C4} {x:C4} (hn:x∉D):(fun y=>if y=x then some (.int .i64 ((D.length+1:Nat):Int)) else mapAt1 D y)=mapAt1 (D++[x]):=by
  funext y
  unfold mapAt1
  by_cases c:y=x
  · subst c
    rw[if_pos rfl,if_pos (by simp)]
    have:=idx_more (D:=D) (k:=y)
    unfold more at this
    rw[if_neg hn,if_neg hn] at this
    rw[this]
  · rw[if_neg c]
    by_cases c2:y∈D
    · rw[if_pos c2,if_pos (List.mem_append_left _ c2),idx_pre c2]
    · rw[if_neg c2,if_neg (by simp[c,c2])]
theorem mapAt1_nil:(fun (_:C4)=>(none:Option Value))=mapAt1 []:=by funext y;unfold mapAt1;rw[if_neg (by simp)]
abbrev setsO (vs:Value) (S:List C4):Own:=rowO 162 4 vs (S.length+1) (setL S)
abbrev numO (gm:Nat) (S:List C4):Own:=mapO setK gm (mapAt1 S) S.length
def dmL (vc vr vf vfol vl ve rows:Value) (g gm:Nat) (vs vt:Value) (d:DM):List Own:=
  [blkO g (dmC vc vr vf vfol vl ve vs (.map (some gm)) rows vt) 135,setsO vs d.S,numO gm d.S,intR vt d.tags]
def stSp (p:PS) (vc vr vf vfol vl ve rows:Value) (g gm:Nat) (d:DM) (s:C4):Spec (Value×Value):=
  ⟨fun _=>True,fun _=> .int .i64 ((stateF p d s).1:Int),fun x=>dmL vc vr vf vfol vl ve rows g gm x.1 x.2 (stateF p d s).2⟩
theorem int_snoc (v:Value) (l:List Int) (x:Int):intR v (l++[x])=rowO 3 1 v (l.length+1) (l.map (Value.int .i64)++[.int .i64 x]):=by
  unfold intR;rw[List.length_append,List.map_append];rfl
theorem setL_snoc (S:List C4) (s:C4):setL (S++[s])=setL S++clsL s:=by
  unfold setL
  rw[←List.cons_append,List.flatMap_append];simp
theorem set_one (s:C4):∀ u∈clsL s,u.oneCell'=true:=by
  intro u h
  simp only[clsL,List.mem_cons,List.not_mem_nil,or_false] at h
  rcases h with rfl | rfl | rfl | rfl <;> rfl
theorem tag_step (p:PS) (s:C4) (i:Nat):tagTo p s (i+1)=if s.mem i=true∧p.last.getD i false=true∧(tagTo p s i<0∨p.rules.getD i 0<tagTo p s i) then p.rules.getD i 0 else tagTo p s i:=rfl
theorem numO_add {S:List C4} {s:C4} {gm:Nat} (hn:s∉S):mapO setK gm (fun y=>if y=s then some (.int .i64 ((S.length+1:Nat):Int)) else mapAt1 S y) (if (mapAt1 S s).isSome then S.length else S.length+1)=numO gm (S++[s]):=by
  rw[mapAt1_add hn,show mapAt1 S s=none from if_neg hn]
  unfold numO
  rw[List.length_append];rfl
attribute [local irreducible] Op.shift Go.bits in
set_option maxHeartbeats 8000000 in
theorem dfaState_calls (m:MS) (vc vr vf vfol vl ve rows:Value) (d:DM) (s:C4) (g gm:Nat) (vs vt:Value) (w0:World) (hp:PosR w0 (.agg #[vc,vr,vf,vfol,vl,ve]) m) (h:MOkP m) (hd:d.S.length≤100000) (hdt:d.tags.length≤100001) (w:World) (B:Base) (ho:Old w0 B)
    (hm:Mem B (dmL vc vr vf vfol vl ve rows g gm vs vt d) w) :
    Calls Try.prog 60 #[.pointer (some ⟨g,0,none⟩),clsV s] w (MeetsB (stSp m.ps vc vr vf vfol vl ve rows g gm d s) B):=by
  obtain⟨_,_,_,_,_,_,he,h1,h2,h3,h4,h5,h6⟩:=hp
  simp only[Value.agg.injEq,Array.mk.injEq,List.cons.injEq,and_true] at he
  obtain⟨rfl,rfl,rfl,rfl,rfl,rfl⟩:=he
  have hmf:=h.few
  have hlr:=h.ok.ps.rules
  have hll:=h.ok.ps.last
  have hmr:=h.rules
  clear h h3 h4 h6
  obtain⟨ac,cc,rfl,-⟩:=h1
  obtain⟨ar,cr,rfl,-,hmar,hrr⟩:=h2
  obtain⟨al,cl,rfl,-,hmal,hrl⟩:=h5
  unfold dmL at hm
  unfold stSp
  obtain⟨S,tags⟩:=d
  obtain⟨p,fi,em⟩:=m
  dsimp only at *
  refine enterB hm (args:=[.pointer (some ⟨g,0,none⟩),clsV s]) (n:=105) Try.func60 rfl rfl rfl ?_
  clear hm
  refine T_seq (T_region (TL_box rfl rfl rfl fun g3 => ?_))
  conv=>arg 8;simp only[zA,zB,zC,zD,zE,zF,zG,zH,zI,rowS,ret,id_eq]
  by_cases c1:s∈S
  · have hst:stateF p ⟨S,tags⟩ s=(idx S s+1,⟨S,tags⟩):=if_pos c1
    have hlk:mapAt1 S s=some (.int .i64 ((idx S s+1:Nat):Int)):=if_pos c1
    rw[hst]
    try refine GA ?_
    refine T_ord ([blkO g (dmC (.slice ac p.classes.length cc) (.slice ar p.rules.length cr) vf vfol (.slice al p.last.length cl) ve vs (.map (some gm)) rows vt) 135,numO gm S,blkO g3 (clsL s).toArray 162]) (.calm 0 (.calm 1 (.calm 2 (.calm 3 (.calm 4 (.calm 5 (.calm 6 (.calm 7 (.calm 8 (.calm 9 (.calm 10 (.done)))))))))))) (sub_pick [0,2,4] (by decide) rfl) (by kernel_rfl) (by kernel_rfl) (by intro c a d v w h;cases d <;> exact h) ?_
    repeat(first|refine GW ?_|(refine GN ?_;first|refine QW (rr_load1 (v:= .map (some gm)) TyC.ty rfl (at_blk (i:=0) rfl rfl)) ?_|refine QW (rr_loadB (i:=2) TyC.ty rfl rfl rfl) ?_|refine QW (rr_lookOkS setK (x:=s) Und.eq zeroIntD (i:=1) rfl rfl rfl trivial hlk) ?_))
    try refine GA ?_
    refine E_pick [0,1,2,3] (by decide) rfl ?_
    exact E_ret1 rfl rfl fun w hm=>hm.meetsB (S:=⟨fun (_:Value×Value)=>True,fun _=> .int .i64 ((idx S s+1:Nat):Int),fun x=>dmL (.slice ac p.classes.length cc) (.slice ar p.rules.length cr) vf vfol (.slice al p.last.length cl) ve rows g gm x.1 x.2 ⟨S,tags⟩⟩) (vs,vt) trivial [0,1,2,3] (by decide) rfl
  · have hst:stateF p ⟨S,tags⟩ s=(S.length+1,⟨S++[s],tags++[tagF p s]⟩):=if_neg c1
    have hlk:mapAt1 S s=none:=if_neg c1
    rw[hst]
    refine TL_know (i:=1) rfl row_slm fun hrow => ?_
    obtain⟨ab,cs,rfl,hmS,-⟩:=hrow
    try refine GA ?_
    refine T_ord ([blkO g (dmC (.slice ac p.classes.length cc) (.slice ar p.rules.length cr) vf vfol (.slice al p.last.length cl) ve (.slice ab (S.length+1) cs) (.map (some gm)) rows vt) 135,numO gm S,blkO g3 (clsL s).toArray 162]) (.calm 0 (.calm 1 (.calm 2 (.calm 3 (.calm 4 (.calm 5 (.calm 6 (.calm 7 (.calm 8 (.calm 9 (.calm 10 (.done)))))))))))) (sub_pick [0,2,4] (by decide) rfl) (by kernel_rfl) (by kernel_rfl) (by intro c a d v w h;cases d <;> exact h) ?_
    repeat(first|refine GW ?_|(refine GN ?_;first|refine QW (rr_load1 (v:= .map (some gm)) TyC.ty rfl (at_blk (i:=0) rfl rfl)) ?_|refine QW (rr_loadB (i:=2) TyC.ty rfl rfl rfl) ?_|refine QW (rr_lookOkN setK (x:=s) Und.eq zeroIntD (i:=1) rfl rfl rfl trivial hlk) ?_))
    try refine GA ?_
    (repeat refine T_seq ?_)
    refine T_midq (ι:=Unit) (fun _=>True) (fun _=>[(0,.pointer (some ⟨g,0,none⟩)),(3,.pointer (some ⟨g3,0,none⟩))]) (fun _=>[blkO g (dmC (.slice ac p.classes.length cc) (.slice ar p.rules.length cr) vf vfol (.slice al p.last.length cl) ve (.slice ab (S.length+1) cs) (.map (some gm)) rows vt) 135,setsO (.slice ab (S.length+1) cs) S,numO gm (S++[s]),intR vt tags,blkO g3 (clsL s).toArray 162]) ?_ ?_
    · refine T_ord ([blkO g (dmC (.slice ac p.classes.length cc) (.slice ar p.rules.length cr) vf vfol (.slice al p.last.length cl) ve (.slice ab (S.length+1) cs) (.map (some gm)) rows vt) 135,blkO g3 (clsL s).toArray 162]) (.calm 0 (.calm 1 (.calm 2 (.calm 3 (.calm 4 (.calm 5 (.calm 6 (.calm 7 (.calm 8 (.calm 9 (.one 10 (.done)))))))))))) (sub_pick [0,4] (by decide) rfl) (by kernel_rfl) (by kernel_rfl) (by intro c a d v w h;cases d <;> exact h) ?_
      repeat(first|refine GW ?_|(refine GN ?_;first|refine QW (rr_load1 (v:= .map (some gm)) TyC.ty rfl (at_blk (i:=0) rfl rfl)) ?_|refine QW (rr_loadB (i:=1) TyC.ty rfl rfl rfl) ?_|refine QW (rr_load1 (v:= .slice ab (S.length+1) cs) TyC.ty rfl (at_blk (i:=0) rfl rfl)) ?_))
      refine TW_one rfl (TL_mapSet setK (i:=2) (x:=s) Und.eq rfl rfl rfl rfl trivial (by omega) (TW_on (sub_pick [0,4] (by decide) rfl) ?_))
      try refine GW ?_
      exact E_mid () trivial (by repeat' (first | exact True.intro | refine And.intro rfl ?_)) (by rw[←numO_add c1];rfl)
    intro _ _
    (repeat refine T_seq ?_)
    refine T_midq (ι:=Value) (fun _=>True) (fun _=>[(0,.pointer (some ⟨g,0,none⟩)),(3,.pointer (some ⟨g3,0,none⟩))]) (fun vs'=>[blkO g (dmC (.slice ac p.classes.length cc) (.slice ar p.rules.length cr) vf vfol (.slice al p.last.length cl) ve vs' (.map (some gm)) rows vt) 135,setsO vs' (S++[s]),numO gm (S++[s]),intR vt tags,blkO g3 (clsL s).toArray 162]) ?_ ?_
    · refine T_ord ([blkO g3 (clsL s).toArray 162]) (.calm 0 (.calm 1 (.calm 2 (.calm 3 (.calm 5 (.two 4 (.one 6 (.one 7 (.calm 8 (.calm 9 (.one 10 (.done)))))) 6 (.one 4 (.one 7 (.calm 8 (.calm 9 (.one 10 (.done)))))))))))) (sub_pick [4] (by decide) rfl) (by kernel_rfl) (by kernel_rfl) (by intro c a d v w h;cases d <;> exact h) ?_
      repeat(first|refine GW ?_|(refine GN ?_;first|refine QW (rr_loadB (i:=0) TyC.ty rfl rfl rfl) ?_))
      refine TW_two rfl rfl ?_ ?_
      · refine TL_val (rr_load1 (v:= .slice ab (S.length+1) cs) TyC.ty rfl (at_blk (i:=0) rfl rfl)) rfl rfl rfl (TW_on (sub_pick [4] (by decide) rfl) ?_)
        refine TW_one rfl (TL_litN (cs:=(clsL s).toArray) [clsV s] rfl rfl rfl (by intro v hv;simp at hv;subst hv;rfl) rfl rfl rfl fun g36=>(TW_on (sub_pick [4] (by decide) rfl) ?_))
        refine TW_one rfl (TL_appSl (i:=1) (e:= 162) (size:=4) (bytes:=32) (m:=S.length+1) (xs:=setL S) (k:=1) (ys:=clsL s) rfl (sl_blk (i:=5) rfl (fun j u h=>by simpa using h) (Nat.le_refl 1) (by decide)) rfl rfl rfl (fun u hu=>set_one s u hu) (by omega) (by omega) rfl fun vs'=>(TW_on (sub_pick [4] (by decide) rfl) ?_))
        try refine GW ?_
        refine TW_one rfl (TL_slv (i:=1) rfl fun hv1 hv2=>TL_store1 (i:=0) rfl rfl rfl hv1 hv2 rfl (TW_on (sub_pick [4] (by decide) rfl) ?_))
        try refine GW ?_
        refine E_pick [0,1,2,3,4] (by decide) rfl ?_
        exact E_mid vs' trivial (by repeat' (first | exact True.intro | refine And.intro rfl ?_)) (by unfold setsO;rw[setL_snoc,List.length_append];rfl)
      · refine TL_litN (cs:=(clsL s).toArray) [clsV s] rfl rfl rfl (by intro v hv;simp at hv;subst hv;rfl) rfl rfl rfl fun g36=>(TW_on (sub_pick [4] (by decide) rfl) ?_)
        refine TW_one rfl (TL_val (rr_load1 (v:= .slice ab (S.length+1) cs) TyC.ty rfl (at_blk (i:=0) rfl rfl)) rfl rfl rfl (TW_on (sub_pick [4] (by decide) rfl) ?_))
        refine TW_one rfl (TL_appSl (i:=1) (e:= 162) (size:=4) (bytes:=32) (m:=S.length+1) (xs:=setL S) (k:=1) (ys:=clsL s) rfl (sl_blk (i:=5) rfl (fun j u h=>by simpa using h) (Nat.le_refl 1) (by decide)) rfl rfl rfl (fun u hu=>set_one s u hu) (by omega) (by omega) rfl fun vs'=>(TW_on (sub_pick [4] (by decide) rfl) ?_))
        try refine GW ?_
        refine TW_one rfl (TL_slv (i:=1) rfl fun hv1 hv2=>TL_store1 (i:=0) rfl rfl rfl hv1 hv2 rfl (TW_on (sub_pick [4] (by decide) rfl) ?_))
        try refine GW ?_
        refine E_pick [0,1,2,3,4] (by decide) rfl ?_
        exact E_mid vs' trivial (by repeat' (first | exact True.intro | refine And.intro rfl ?_)) (by unfold setsO;rw[setL_snoc,List.length_append];rfl)
    clear hmS
    intro vs' _
    refine T_know (i:=1) rfl row_slm fun hrow => ?_
    obtain⟨ab',cs',rfl,hmS,-⟩:=hrow
    repeat(first|refine GA ?_|refine gV (rr_load1 (v:= .slice ac p.classes.length cc) TyC.ty rfl (at_blk (i:=0) rfl rfl)) ?_)
    refine T_loop (ι:=Nat×Int) (fun (k,t)=>k≤p.classes.length∧t=tagTo p s k) (fun (k,t)=>[(0,.pointer (some ⟨g,0,none⟩)),(3,.pointer (some ⟨g3,0,none⟩)),(7,.int .i64 t),(45,.int .i64 p.classes.length),(46,.int .i64 (k:Int))])
      (fun _=>[blkO g (dmC (.slice ac p.classes.length cc) (.slice ar p.rules.length cr) vf vfol (.slice al p.last.length cl) ve (.slice ab' ((S++[s]).length+1) cs') (.map (some gm)) rows vt) 135,setsO (.slice ab' ((S++[s]).length+1) cs') (S++[s]),numO gm (S++[s]),intR vt tags,blkO g3 (clsL s).toArray 162]) (fun (k,_)=>p.classes.length - k) (0,-1) ⟨Nat.zero_le _,rfl⟩ (by repeat' (first | exact True.intro | refine And.intro rfl ?_)) rfl ?_
    rintro⟨k,t⟩ ⟨hk,ht⟩
    dsimp only at hk ht ⊢
    by_cases q1:k<p.classes.length
    · have hst:=tag_step p s k
      have hkr:k<p.rules.length:=by omega
      have hkl:k<p.last.length:=by omega
      rw[List.getD_eq_getElem?_getD (l:=p.rules),List.getElem?_eq_getElem hkr,Option.getD_some,List.getD_eq_getElem?_getD (l:=p.last),List.getElem?_eq_getElem hkl,Option.getD_some] at hst
      obtain⟨br,offr,rfl,hrrd⟩:=hrr (by omega)
      obtain⟨bl,offl,rfl,hrld⟩:=hrl (by omega)
      have hatr:=fun (L:List Own)=>at_elO (L:=L) SmIn_len ho hrrd hkr 0 _ rfl
      have hatl:=fun (L:List Own)=>at_elO (L:=L) BoE_len ho hrld hkl 0 _ rfl
      have hr0:=(hmr _ (List.getElem_mem hkr)).1
      have hhas:=fun w=>setHas_calls s k (by omega) w
      clear hrrd hrld hrr hrl hmr
      generalize p.rules[k]=r at *
      generalize p.last[k]=lb at *
      generalize s.mem k=b at *
      rw[←ht] at hst
      clear ht
      have hatr':∀ (L:List Own),At B L ⟨br,offr+k*1+0,none⟩ (.int .i64 r):=hatr
      have hatl':∀ (L:List Own),At B L ⟨bl,offl+k*1+0,none⟩ (.bool lb):=hatl
      repeat(first|refine GA ?_|refine gV (rr_loadB (i:=4) TyC.ty rfl rfl rfl) ?_)
      refine TL_call (he2 EntersC.en rfl rfl rfl) (fun w hm=>hhas w) rfl rfl rfl ?_
      intro _ _
      conv=>arg 8;simp only[zA,zB,zC,zD,zE,zF,zG,zH,zI,rowS,ret,id_eq]
      have skip:∀ (_:¬(b=true∧lb=true∧(t<0∨r<t))),tagTo p s (k+1)=t:=fun h=>by rw[hst,if_neg h]
      have take:b=true∧lb=true∧(t<0∨r<t)→tagTo p s (k+1)=r:=fun h=>by rw[hst,if_pos h]
      clear hst
      by_cases q2:b=true
      · subst q2
        by_cases q3:lb=true
        · subst q3
          by_cases q4:t<0
          · have e:=(take ⟨rfl,rfl,.inl q4⟩).symm
            repeat(first|refine GC ?_|refine gV (rr_load1 (v:= .slice (some ⟨bl,offl,none⟩) p.last.length cl) TyC.ty rfl (at_blk (i:=0) rfl rfl)) ?_|refine gV (rr_idxc Und.eq TyC.ty rfl rfl hkl) ?_|refine gV (rr_load1 (v:= .bool true) TyC.ty rfl (hatl' _)) ?_|refine gV (rr_lss (b:=true) rfl rfl (decide_eq_true q4)) ?_|refine gV (rr_load1 (v:= .slice (some ⟨br,offr,none⟩) p.rules.length cr) TyC.ty rfl (at_blk (i:=0) rfl rfl)) ?_|refine gV (rr_idxc Und.eq TyC.ty rfl rfl hkr) ?_|refine gV (rr_load1 (v:= .int .i64 r) TyC.ty rfl (hatr' _)) ?_|refine GB ?_)
            exact E_round (k+1,r) ⟨by omega,e⟩ (by show p.classes.length - (k+1)<p.classes.length - k;omega) (by repeat' (first | exact True.intro | refine And.intro rfl ?_)) rfl
          · by_cases q5:r<t
            · have e:=(take ⟨rfl,rfl,.inr q5⟩).symm
              repeat(first|refine GC ?_|refine gV (rr_load1 (v:= .slice (some ⟨bl,offl,none⟩) p.last.length cl) TyC.ty rfl (at_blk (i:=0) rfl rfl)) ?_|refine gV (rr_idxc Und.eq TyC.ty rfl rfl hkl) ?_|refine gV (rr_load1 (v:= .bool true) TyC.ty rfl (hatl' _)) ?_|refine gV (rr_lss (b:=false) rfl rfl (decide_eq_false q4)) ?_|refine gV (rr_load1 (v:= .slice (some ⟨br,offr,none⟩) p.rules.length cr) TyC.ty rfl (at_blk (i:=0) rfl rfl)) ?_|refine gV (rr_idxc Und.eq TyC.ty rfl rfl hkr) ?_|refine gV (rr_load1 (v:= .int .i64 r) TyC.ty rfl (hatr' _)) ?_|refine gV (rr_lss (b:=true) rfl rfl (decide_eq_true q5)) ?_|refine GB ?_)
              exact E_round (k+1,r) ⟨by omega,e⟩ (by show p.classes.length - (k+1)<p.classes.length - k;omega) (by repeat' (first | exact True.intro | refine And.intro rfl ?_)) rfl
            · have e:=(skip (fun h=>h.2.2.elim q4 q5)).symm
              repeat(first|refine GC ?_|refine gV (rr_load1 (v:= .slice (some ⟨bl,offl,none⟩) p.last.length cl) TyC.ty rfl (at_blk (i:=0) rfl rfl)) ?_|refine gV (rr_idxc Und.eq TyC.ty rfl rfl hkl) ?_|refine gV (rr_load1 (v:= .bool true) TyC.ty rfl (hatl' _)) ?_|refine gV (rr_lss (b:=false) rfl rfl (decide_eq_false q4)) ?_|refine gV (rr_load1 (v:= .slice (some ⟨br,offr,none⟩) p.rules.length cr) TyC.ty rfl (at_blk (i:=0) rfl rfl)) ?_|refine gV (rr_idxc Und.eq TyC.ty rfl rfl hkr) ?_|refine gV (rr_load1 (v:= .int .i64 r) TyC.ty rfl (hatr' _)) ?_|refine gV (rr_lss (b:=false) rfl rfl (decide_eq_false q5)) ?_|refine GB ?_)
              exact E_round (k+1,t) ⟨by omega,e⟩ (by show p.classes.length - (k+1)<p.classes.length - k;omega) (by repeat' (first | exact True.intro | refine And.intro rfl ?_)) rfl
        · have e:=(skip (fun h=>q3 h.2.1)).symm
          obtain rfl:=Bool.eq_false_iff.2 q3
          repeat(first|refine GA ?_|refine gV (rr_load1 (v:= .slice (some ⟨bl,offl,none⟩) p.last.length cl) TyC.ty rfl (at_blk (i:=0) rfl rfl)) ?_|refine gV (rr_idxc Und.eq TyC.ty rfl rfl hkl) ?_|refine gV (rr_load1 (v:= .bool false) TyC.ty rfl (hatl' _)) ?_)
          exact E_round (k+1,t) ⟨by omega,e⟩ (by show p.classes.length - (k+1)<p.classes.length - k;omega) (by repeat' (first | exact True.intro | refine And.intro rfl ?_)) rfl
      · have e:=(skip (fun h=>q2 h.1)).symm
        obtain rfl:=Bool.eq_false_iff.2 q2
        try refine GA ?_
        exact E_round (k+1,t) ⟨by omega,e⟩ (by show p.classes.length - (k+1)<p.classes.length - k;omega) (by repeat' (first | exact True.intro | refine And.intro rfl ?_)) rfl
    · obtain rfl:k=p.classes.length:=by omega
      rw[show tagF p s=t from ht.symm] at *
      repeat(first|refine GA ?_|refine gV (rr_load1 (v:=vt) TyC.ty rfl (at_blk (i:=0) rfl rfl)) ?_)
      refine TL_push1 (i:=3) rfl rfl rfl rfl rfl rfl (fun z h=>by cases h;rfl) (by omega) (by omega) rfl fun z' vt' => ?_
      conv=>arg 8;simp only[zA,zB,zC,zD,zE,zF,zG,zH,zI,rowS,ret,id_eq]
      try refine GA ?_
      refine TL_slv (i:=3) rfl fun hv1 hv2=>TL_store1 (i:=0) rfl rfl rfl hv1 hv2 rfl ?_
      conv=>arg 8;simp only[zA,zB,zC,zD,zE,zF,zG,zH,zI,rowS,ret,id_eq]
      repeat(first|refine GC ?_|refine gV (rr_load1 (v:= .slice ab' ((S++[s]).length+1) cs') TyC.ty rfl (at_blk (i:=0) rfl rfl)) ?_|refine gV (rr_sub64 (r:=((S.length+1:Nat):Int)) rfl rfl (by simp;omega) (by simp;omega) (by simp)) ?_|refine GB ?_)
      refine E_pick [0,1,2,3] (by decide) rfl ?_
      exact E_ret1 rfl rfl fun w hm=>hm.meetsB (S:=⟨fun (_:Value×Value)=>True,fun _=> .int .i64 ((S.length+1:Nat):Int),fun x=>dmL (.slice ac p.classes.length cc) (.slice ar p.rules.length cr) vf vfol (.slice al p.last.length cl) ve rows g gm x.1 x.2 ⟨S++[s],tags++[t]⟩⟩) (.slice ab' ((S++[s]).length+1) cs',vt') trivial [0,1,2,3] (by decide) (by unfold dmL;rw[←int_snoc];rfl)
    done
end Go.Proofs.Ytldiodhdefnlaaa.eng

/- PlacesG -/
namespace Go.Proofs.Ytldiodhdefnlaaa.placesL
open classL rexL
def npl:Re→Nat
  | .byte _=>1
  | .cat a b=>npl a+npl b
  | .alt a b=>npl a+npl b
  | .star a=>npl a
  | _=>0
inductive StarW (P:List Nat→Prop):List Nat→Prop
  | nil:StarW P []
  | cons {u v:List Nat}:P u→StarW P v→StarW P (u++v)
def Wd:Re→Nat→List Nat→Prop
  | .none,_,_=>False
  | .empty,_,l=>l=[]
  | .byte _,n,l=>l=[n]
  | .cat a b,n,l=>∃ u v,l=u++v∧Wd a n u∧Wd b (n+npl a) v
  | .alt a b,n,l=>Wd a n l∨Wd b (n+npl a) l
  | .star a,n,l=>StarW (Wd a n) l
def Chn (F:Nat→Nat→Prop) (T:Nat→Prop):Nat→List Nat→Prop
  | x,[]=>T x
  | x,y::r=>F x y∧Chn F T y r
theorem Chn.mono {F F':Nat→Nat→Prop} {T T':Nat→Prop} (hF:∀ x y,F x y→F' x y) (hT:∀ x,T x→T' x):∀ {l:List Nat} {x:Nat},Chn F T x l→Chn F' T' x l
  | [],_,h=>hT _ h
  | _::_,_,⟨h,h'⟩=>⟨hF _ _ h,Chn.mono hF hT h'⟩
theorem Chn.app {F F':Nat→Nat→Prop} {T T':Nat→Prop} (hF:∀ x y,F x y→F' x y) {y:Nat} {r:List Nat} (hT:∀ x,T x→F' x y) (hr:Chn F' T' y r):∀ {l:List Nat} {x:Nat},Chn F T x l→Chn F' T' x (l++y::r)
  | [],_,h=>⟨hT _ h,hr⟩
  | _::_,_,⟨h,h'⟩=>⟨hF _ _ h,Chn.app hF hT hr h'⟩
end Go.Proofs.Ytldiodhdefnlaaa.placesL

/- SmIn -/
namespace Go.Proofs.Ytldiodhdefnlaaa.eng
open Go.RowKit kit mix
set_option maxHeartbeats 2000000 in
theorem cloneSmIn_calls (v:Value) (l:List Int) (w:World) (hs:Sl w v l.length (l.flatMap kit.intC)) (hl:l.length*8≤140737488355328) :
    Calls Try.prog 43 #[v] w (Meets (rowS 3 1 l.length (l.flatMap kit.intC) id) w):=by
  obtain⟨base,cap,rfl,hcap,hmax,hrd⟩:=hs
  unfold maxLen at hmax
  refine enter (args:=[.slice base l.length cap]) (n:=8) Try.func43 rfl rfl rfl ?_
  have hsl:∀ w',Gr w w'→Sl w' (.slice base l.length cap) l.length (l.flatMap kit.intC):=fun w' hg=>Sl.gr ⟨base,cap,rfl,hcap,hmax,hrd⟩ hg
  clear hrd
  cases base with
  | none=>
    repeat(first|refine GC ?_|refine gV (rr_slnil Und.eq rfl rfl rfl) ?_|refine GB ?_)
    have h0:l=[]:=by
      cases l with
      | nil=>rfl
      | cons x l=>obtain⟨_,_,h,_,_,h2⟩:=hsl w (Gr.refl w);simp only[Value.slice.injEq] at h;obtain⟨rfl,_⟩:=h;obtain⟨b,off,h,_⟩:=h2 (by simp);cases h
    subst h0
    refine E_nilrow 3 1 ?_
    exact E_ret1 rfl rfl fun w hm=>hm.meets (S:=rowS 3 1 0 [] id) _ trivial [0] (by decide) rfl
  | some p=>
    repeat(first|refine GC ?_|refine gV (rr_slnil Und.eq rfl rfl rfl) ?_|refine GB ?_)
    refine TL_lit0 rfl fun g => ?_
    try refine GA ?_
    refine TL_appSl (i:=0) rfl (fun w' hm=>hsl w' hm.below) rfl rfl (len_el SmIn_len l) (one_int l) (by omega) (by omega) rfl fun v' => ?_
    rw[List.nil_append]
    try refine GA ?_
    refine E_ret1 rfl rfl fun w hm => ?_
    exact hm.meets (S:=rowS 3 1 l.length (l.flatMap kit.intC) id) v' trivial [0] (by decide) (by simp[rowS])
end Go.Proofs.Ytldiodhdefnlaaa.eng

/- MapE -/
namespace Go.Proofs.Ytldiodhdefnlaaa.eng
open Go.RowKit kit mix
open Go.WideElems (Fit findIdx_arr findIdx_born modify_last)
open Go.ChangeMaps Go.MapKept Go.WideShapes
section
variable {P:Program} {k:TypeId} {κ:Type} (K:KeyT P k κ)
theorem modify_same {α:Type} (f:α→α):∀ (l:List α) (j:Nat) (a:α),l[j]?=some a→f a=a→l.modify j f=l
  | [],_,_,h,_=>by simp at h
  | b::r,0,a,h,hf=>by simp at h;subst h;simp[hf]
  | b::r,j+1,a,h,hf=>by simp at h;simp[List.modify_succ_cons,modify_same f r j a h hf]
theorem modify_eq {α:Type} (f f':α→α):∀ (l:List α) (j:Nat) (a:α),l[j]?=some a→f a=f' a→l.modify j f=l.modify j f'
  | [],_,_,h,_=>by simp at h
  | b::r,0,a,h,hf=>by simp at h;subst h;simp[hf]
  | b::r,j+1,a,h,hf=>by simp at h;simp[List.modify_succ_cons,modify_eq f f' r j a h hf]
def entO (g:Nat) (x:κ) (st:Nat) (z:Value) (f:κ→Value) (b:Nat):Own:=
  ⟨some g,fun _=>False,fun w=>(mapT K g z f b).holds w∧∃ es clock e0,w.heap[g]?=some (.map es clock)∧e0∈es.toList∧e0.key=K.kv x∧e0.born=st,
    fun w h q hq=>(mapT K g z f b).lt w h.1 q hq,
    fun w w' ⟨h1,es,clock,e0,h2,h3⟩ hs hk=>⟨(mapT K g z f b).stay w w' h1 hs hk,es,clock,e0,(hk g (.inl rfl)).trans h2,h3⟩⟩
theorem set_self_block {w:World} {g:Nat} {es:Array MapEntry} {c:Nat} (h:w.heap[g]?=some (.map es c)):setBlock w g (.map es c)=w:=by
  have e:w.heap.setIfInBounds g (.map es c)=w.heap:=by
    apply Array.ext_getElem?
    intro i
    by_cases hi:i=g
    · subst hi;exact (heap_setBlock_same h _).trans h.symm
    · exact heap_setBlock_other h _ hi
  unfold setBlock;rw[e]
variable [DecidableEq κ]
theorem entry_run {w:World} {t e:TypeId} {g b:Nat} {f:κ→Value} {x:κ} {z:Value} (ht:P.underlying t=some (.map k e)) (hz:∀ u:World,(zeroValue e).run P u = .ok z u) (h:(mapT K g z f b).holds w) (hx:K.ok x) (hc:b≤1152921504606846976) :
    ∃ st w1,(Instr.mapEntry t (.map (some g)) (K.kv x)).run P w = .ok (.tuple #[f x,goInt (st:Nat)]) w1∧w.grownBy w1 (some g)∧(entO K g x st z f (b+1)).holds w1:=by
  have hlook:=run_lookT K (f:=f) ht hz h hx
  obtain⟨l,hkey⟩:=K.key x hx
  obtain⟨m,n,h1,⟨D,⟨es,clock,hb,F,hs,hD⟩,hi⟩,h3⟩:=id h
  rcases K.law.find w hkey es.toList F.keys with ⟨k1,k2⟩ | ⟨j,e0,k1,k2,k3⟩
  · have hfx:f x=z:=by
      have:(Instr.lookup t (.map (some g)) (K.kv x) false).run P w = .ok z w:=by
        simp[Instr.lookup,run_underlying ht,MapKept.run_getObj_map hb,K.law.check w _ hkey,k1,hz,Result.andThen]
      rw[hlook] at this
      simpa using this
    obtain⟨w',r1,r2,r3⟩:=mapT_put K (f':=f) (v:=z) ht h hx hc (fun y _=>by by_cases e:y=x <;> simp[e,hfx])
    have r1':(Instr.mapUpdate t (.map (some g)) (K.kv x) z).run P w = .ok () (setBlock w g (.map (es.push ⟨K.kv x,z,clock⟩) (clock+1))):=by
      simp[Instr.mapUpdate,run_underlying ht,MapKept.run_getObj_map hb,K.law.check w false hkey,k1,MapKept.run_setObj_map _ hb,Result.andThen,setBlock]
    have ew:w'=setBlock w g (.map (es.push ⟨K.kv x,z,clock⟩) (clock+1)):=by
      rw[r1] at r1';simpa using r1'
    refine⟨clock,w',?_,r3,r2,es.push ⟨K.kv x,z,clock⟩,clock+1,⟨K.kv x,z,clock⟩,?_,by simp,rfl,rfl⟩
    · rw[ew,hfx]
      simp[Instr.mapEntry,run_underlying ht,MapKept.run_getObj_map hb,K.law.check w false hkey,k1,hz,MapKept.run_setObj_map _ hb,Result.andThen,setBlock]
    · rw[ew];exact heap_setBlock_same hb _
  · have hj:es[j]?=some e0:=by simpa using k2
    have hfx:f x=e0.val:=by
      have:(Instr.lookup t (.map (some g)) (K.kv x) false).run P w = .ok e0.val w:=by
        simp[Instr.lookup,run_underlying ht,MapKept.run_getObj_map hb,K.law.check w _ hkey,k1,hz,Result.andThen]
      rw[hlook] at this
      simpa using this
    have hsame:es.modify j (fun e=>{ e with key:=K.kv x })=es:=by
      apply Array.ext'
      rw[Array.toList_modify]
      exact modify_same _ _ _ _ k2 (by rw[←k3])
    refine⟨e0.born,w,?_,⟨rfl,rfl,rfl,Nat.le_refl _,fun _ _ _=>rfl⟩,mapT_weak (by omega) (fun _ _=>rfl) w h,es,clock,e0,hb,List.mem_of_getElem? k2,k3,rfl⟩
    rw[hfx]
    have:=set_self_block hb
    simp[Instr.mapEntry,run_underlying ht,MapKept.run_getObj_map hb,K.law.check w false hkey,k1,hj,k3,K.law.stays w hkey,hsame,MapKept.run_setObj_map _ hb,Result.andThen]
    exact this
theorem entry_set {w:World} {t e:TypeId} {g b st:Nat} {f f':κ→Value} {x:κ} {z v:Value} (ht:P.underlying t=some (.map k e)) (h:(entO K g x st z f b).holds w) (hx:K.ok x) (hc:b≤1152921504606846976) (hf:∀ y,K.ok y→f' y=if y=x then v else f y) :
    ∃ w',(Instr.entryStore t (.map (some g)) (goInt (st:Nat)) v).run P w = .ok () w'∧(mapT K g z f' (b+1)).holds w'∧w.grownBy w' (some g):=by
  obtain⟨h,es',clock',e1,hb',he1,hk1,hs1⟩:=h
  obtain⟨w',r1,r2,r3⟩:=mapT_put K (f':=f') (v:=v) ht h hx hc hf
  refine⟨w',?_,r2,r3⟩
  rw[←r1]
  obtain⟨l,hkey⟩:=K.key x hx
  obtain⟨m,n,h1,⟨D,⟨es,clock,hb,F,hs,hD⟩,hi⟩,h3⟩:=h
  rw[hb] at hb'
  simp only[Option.some.injEq,Obj.map.injEq] at hb'
  obtain⟨rfl,rfl⟩:=hb'
  obtain⟨s1,s2,s3⟩:=F.stamped
  rcases K.law.find w hkey es.toList F.keys with ⟨k1,k2⟩ | ⟨j,e0,k1,k2,k3⟩
  · exact absurd hk1 (k2 e1 he1)
  · have hj:es[j]?=some e0:=by simpa using k2
    obtain⟨i,hi'⟩:=List.getElem?_of_mem he1
    have hij:i=j:=by
      have hi2:=(List.getElem?_eq_some_iff.1 hi')
      have hj2:=(List.getElem?_eq_some_iff.1 k2)
      obtain⟨li,ei⟩:=hi2
      obtain⟨lj,ej⟩:=hj2
      refine (List.getElem_inj (h₀:=by simpa using li) (h₁:=by simpa using lj) s3).1 ?_
      simp only[List.getElem_map,ei,ej,hk1,k3]
    subst hij
    have e01:e1=e0:=by rw[hi'] at k2;simpa using k2
    subst e01
    subst hs1
    have hidx:es.findIdx? (fun e=>((e.born:Nat):Int) == ((e1.born:Nat):Int))=some i:=by
      rw[findIdx_arr]
      exact findIdx_born s2 k2
    have hmod:es.modify i (fun e=>{ e with val:=v })=es.modify i (fun e'=>{ e' with key:=K.kv x,val:=v }):=by
      apply Array.ext'
      rw[Array.toList_modify,Array.toList_modify]
      exact modify_eq _ _ _ _ _ k2 (by rw[←k3])
    simp[Instr.entryStore,Instr.mapUpdate,run_underlying ht,MapKept.run_getObj_map hb,asInt,asIntOf,goInt,hidx,hmod,K.law.check w false hkey,k1,hj,k3,K.law.stays w hkey,MapKept.run_setObj_map _ hb,Result.andThen]
section
variable {W:Base} {fr:Fr} {L:List Own} {Q:Exit→Act→World→Prop} {ops:Array Oper} {rest:List Oper} {n d:Nat} {dst:Option Tmp} {ty:TypeId} {pos:String} {after:Array Edge} {guard:Option (Nat×Bool)} {i g b:Nat} {t e:TypeId} {f:κ→Value} {x:κ} {z:Value} {xm xk xv xs:Operand}
theorem TL_entry (ht:P.underlying t=some (.map k e)) (hz:∀ u:World,(zeroValue e).run P u = .ok z u) (hi:L[i]?=some (mapT K g z f b)) (hm:ev fr xm=some (.map (some g))) (hk:ev fr xk=some (K.kv x)) (hx:K.ok x) (hc:b≤1152921504606846976) (hn:Nat.blt d n=true)
    (h:∀ st:Nat,TL P n W ops Q rest ((d,.tuple #[f x,.int .i64 (st:Int)])::fr) (L.set i (entO K g x st z f (b+1)))) :
    TL P n W ops Q (⟨some d,.mapEntry t xm xk,ty,pos,after,none⟩::rest) fr L:=TL_any rfl fun a w hr hw KK hK=>by
  obtain⟨st,w1,h1,h2,h3⟩:=entry_run K ht hz (hw.get hi) hx hc
  have e1:(execOp a.eval ⟨some d,.mapEntry t xm xk,ty,pos,after,none⟩).run P w = .ok (.value (.tuple #[f x,.int .i64 (st:Int)])) w1:=by
    simp[execOp,hr.ev hm,hr.ev hk,h1,goInt,Result.andThen]
  unfold Oper.wp;rw[e1]
  exact hK _ _ ((h st).go _ _ (hr.put hn _) (hw.turn hi h2 h3 fun q hq=> .inl hq))
theorem TL_entSet {st:Nat} {v:Value} (f':κ→Value) (ht:P.underlying t=some (.map k e)) (hi:L[i]?=some (entO K g x st z f b)) (hm:ev fr xm=some (.map (some g))) (hs:ev fr xs=some (.int .i64 (st:Int))) (hv:ev fr xv=some v) (hx:K.ok x) (hc:b≤1152921504606846976) (hf:∀ y,K.ok y→f' y=if y=x then v else f y)
    (h:TL P n W ops Q rest fr (L.set i (mapT K g z f' (b+1)))) :
    TL P n W ops Q (⟨none,.entryStore t xm xs xv,ty,pos,after,none⟩::rest) fr L:=TL_any rfl fun a w hr hw KK hK=>by
  obtain⟨w1,h1,h2,h3⟩:=entry_set K ht (hw.get hi) hx hc hf
  have e1:(execOp a.eval ⟨none,.entryStore t xm xs xv,ty,pos,after,none⟩).run P w = .ok .skip w1:=by
    have h1':(Instr.entryStore t (.map (some g)) (.int .i64 (st:Int)) v).run P w = .ok () w1:=h1
    simp[execOp,hr.ev hm,hr.ev hs,hr.ev hv,h1',Result.andThen]
  unfold Oper.wp;rw[e1]
  exact hK _ _ (h.go _ _ (hr.put_none undef) (hw.turn hi h3 h2 fun q hq=> .inl hq))
omit [DecidableEq κ] in
theorem rr_lookE {st:Nat} {v:Value} (ht:P.underlying t=some (.map k e)) (hz:∀ w,(zeroValue e).run P w = .ok z w) (hi:L[i]?=some (entO K g x st z f b)) (hm:ev fr xm=some (.map (some g))) (hk:ev fr xk=some (K.kv x)) (hx:K.ok x) (hv:f x=v):RR P n W ⟨dst,.lookup t xm xk false,ty,pos,after,guard⟩ fr L v:=
  rr_lookM K ht hz (fun _ hw=>(hw.get hi).1) hm hk hx hv
end
end
end Go.Proofs.Ytldiodhdefnlaaa.eng

/- BoolC -/
namespace Go.Proofs.Ytldiodhdefnlaaa.eng
open Go.RowKit kit mix
set_option maxHeartbeats 2000000 in
theorem indexBool_calls (v:Value) (l:List Bool) (x:Bool) (w:World) (hs:Sl w v l.length (l.map .bool)) :
    Calls Try.prog 18 #[v,.bool x] w (Meets (ret (.int .i64 (idxF (· == x) l))) w):=by
  obtain⟨base,cap,rfl,hcap,hmax,hrd⟩:=hs
  unfold maxLen at hmax
  refine enter (args:=[.slice base l.length cap,.bool x]) (n:=19) Try.func18 rfl rfl rfl ?_
  try refine GA ?_
  refine T_loop (ι:=Nat) (fun k=>k≤l.length∧∀ j (hj:j<l.length),j<k→(l[j] == x)=false) (fun k=>[(0,.slice base l.length cap),(1,.bool x),(7,.int .i64 l.length),(8,.int .i64 (k:Int))]) (fun _=>[]) (fun k=>l.length - k) 0 ⟨by omega,fun j hj h=>by omega⟩ (by repeat' (first | exact True.intro | refine And.intro rfl ?_)) rfl ?_
  rintro k ⟨h1,h2⟩
  by_cases c2:k<l.length
  · obtain⟨b,off,rfl,hr⟩:=hrd (by omega)
    have hat:=at_rdm (L:=([]:List Own)) hr c2
    by_cases c3:(l[k] == x)=true
    · rw[idxF_some c2 c3 h2]
      have e:x=l[k]:=by simpa using (beq_iff_eq.1 c3).symm
      clear h2 hrd
      subst e
      repeat(first|refine GC ?_|refine gV (rr_idx1 Und.eq TyC.ty rfl rfl c2) ?_|refine gV (rr_load1 TyC.ty rfl hat) ?_|refine gV (rr_booleq (c:=true) Und.eq rfl rfl (by simp)) ?_|refine GB ?_)
      exact E_ret1 rfl rfl fun w hm=>hm.ret
    · have c3':(l[k] == x)=false:=by simpa using c3
      have e:(x == l[k])=false:=by rw[beq_eq_false_iff_ne] at c3' ⊢;exact fun h=>c3' h.symm
      clear hrd c3
      repeat(first|refine GC ?_|refine gV (rr_idx1 Und.eq TyC.ty rfl rfl c2) ?_|refine gV (rr_load1 TyC.ty rfl hat) ?_|refine gV (rr_booleq (c:=false) Und.eq rfl rfl e) ?_|refine GB ?_)
      exact E_round (k+1) ⟨by omega,fun j hj h=>if e:j<k then h2 j hj e else (by obtain rfl:j=k:=(by omega);exact c3')⟩ (by show l.length - (k+1)<l.length - k;omega) (by repeat' (first | exact True.intro | refine And.intro rfl ?_)) rfl
  · rw[idxF_none fun j hj=>h2 j hj (by omega)]
    clear h2 hrd
    try refine GA ?_
    exact E_ret1 rfl rfl fun w hm=>hm.ret
theorem containsBool_calls (v:Value) (l:List Bool) (x:Bool) (w:World) (hs:Sl w v l.length (l.map .bool)) :
    Calls Try.prog 7 #[v,.bool x] w (Meets (ret (.bool (l.any (· == x)))) w):=by
  refine enter (args:=[v,.bool x]) (n:=9) Try.func7 rfl rfl rfl ?_
  have hh:=fun w' (hg:Gr w w')=>indexBool_calls v l x w' (hs.gr hg)
  have hr:=idxF_range (· == x) l
  rw[←idxF_any (· == x) l]
  generalize idxF (· == x) l=r at *
  try refine GA ?_
  refine TL_call (he2 EntersC.en rfl rfl rfl) (fun w hm=>hh _ hm.below) rfl rfl rfl ?_
  intro _ _
  repeat(first|refine GC ?_|refine gV (rr_geq rfl rfl rfl) ?_|refine GB ?_)
  exact E_ret1 rfl rfl fun w hm=>hm.ret
end Go.Proofs.Ytldiodhdefnlaaa.eng

/- TreeS -/
namespace Go.Proofs.Ytldiodhdefnlaaa.eng
open Go.RowKit kit mix gramL treeL
inductive TreeIs (F:Nat→Prop) (w:World):List Value→Tree→Prop
  | mk {p k:Int} {kids:List Tree} {base:Option Addr} {cap:Nat} (css:List (List Value)):kit.okI64 p→kit.okI64 k→kids.length≤cap→cap≤maxLen→css.length=kids.length→
    (∀ i (h:i<kids.length) (h':i<css.length),TreeIs F w css[i] kids[i])→(0<kids.length→∃ b off,base=some ⟨b,off,none⟩∧F b∧∀ i (_:i<kids.length) (h':i<css.length),Rd w b (off+i*3) css[i])→
    TreeIs F w [.int .i64 p,.int .i64 k,.slice base kids.length cap] (.mk p k kids)
theorem TreeIs.len3 {F:Nat→Prop} {w:World} {cs:List Value} {t:Tree} (h:TreeIs F w cs t):cs.length=3:=by
  cases h;rfl
theorem TreeIs.stayed {F:Nat→Prop} {w w':World} {cs:List Value} {t:Tree} (h:TreeIs F w cs t) (hk:∀ k,F k→w'.heap[k]?=w.heap[k]?):TreeIs F w' cs t:=by
  induction h with
  | mk css h1 h2 h3 h4 h5 h6 h7 ih=>
    refine .mk css h1 h2 h3 h4 h5 ih fun hl => ?_
    obtain⟨b,off,e,hF,hr⟩:=h7 hl
    exact⟨b,off,e,hF,fun i hi hi'=>rd_stay (hr i hi hi') (hk b hF)⟩
theorem TreeIs.mono {F F':Nat→Prop} {w:World} {cs:List Value} {t:Tree} (h:TreeIs F w cs t) (hk:∀ k,F k→F' k):TreeIs F' w cs t:=by
  induction h with
  | mk css h1 h2 h3 h4 h5 h6 h7 ih=>
    refine .mk css h1 h2 h3 h4 h5 ih fun hl => ?_
    obtain⟨b,off,e,hF,hr⟩:=h7 hl
    exact⟨b,off,e,hk b hF,hr⟩
def treeS:Shp Tree:=⟨3,TreeIs,fun h=>h.len3,fun h hk=>h.stayed hk,fun h hk=>h.mono hk⟩
def treeV (p k:Int) (v:Value):Value:= .agg #[.int .i64 p,.int .i64 k,v]
def TreeR (F:Nat→Prop) (w:World) (v:Value) (t:Tree):Prop:=∃ vk,v=treeV t.prod t.tok vk∧kit.okI64 t.prod∧kit.okI64 t.tok∧SlF treeS F w vk t.kids
theorem TreeR.gr {w w':World} {v:Value} {t:Tree} (h:TreeR (fun k=>k<w.heap.size) w v t) (hg:Gr w w'):TreeR (fun k=>k<w'.heap.size) w' v t:=
  let ⟨vk,h1,h2,h3,h4⟩:=h;⟨vk,h1,h2,h3,h4.gr hg⟩
section
end
end Go.Proofs.Ytldiodhdefnlaaa.eng

/- FactsA -/
namespace Go.Proofs.Ytldiodhdefnlaaa.eng
open Go.RowKit kit mix gramL factsL
def bitV (n:Nat):Value:= .int .u64 (n:Int)
theorem bool_at {l:List Bool} {i:Nat} (hi:i<l.length):(l.map Value.bool)[i]?=some (.bool (l.getD i false)):=by
  simp[hi]
theorem bit_at {l:List Nat} {i:Nat} (hi:i<l.length):(l.map bitV)[i]?=some (bitV (l.getD i 0)):=by
  simp[hi]
set_option maxHeartbeats 1000000 in
theorem mark_calls (g cap:Nat) (l:List Bool) (i:Nat) (b:Bool) (w:World) (B:Base) (hi:i<l.length) (hm:Mem B [rowO 4 1 (.slice (some ⟨g,0,none⟩) l.length cap) l.length (l.map .bool)] w) :
    Calls Try.prog 32 #[.slice (some ⟨g,0,none⟩) l.length cap,.int .i64 (i:Int),.bool b] w (MeetsB ⟨fun (_:Unit)=>True,fun _=> .bool (markF l i b).2,fun _=>[rowO 4 1 (.slice (some ⟨g,0,none⟩) l.length cap) l.length ((markF l i b).1.map .bool)]⟩ B):=by
  have hb:=bool_at hi
  refine enterB hm (args:=[.slice (some ⟨g,0,none⟩) l.length cap,.int .i64 (i:Int),.bool b]) (n:=18) Try.func32 rfl rfl rfl ?_
  unfold markF
  cases b
  · rw[if_neg (by simp)]
    try refine GA ?_
    exact E_ret1 rfl rfl fun w hm=>hm.meetsB (S:=⟨fun (_:Unit)=>True,fun _=> .bool false,fun _=>[rowO 4 1 (.slice (some ⟨g,0,none⟩) l.length cap) l.length (l.map .bool)]⟩) () trivial [0] (by decide) rfl
  · generalize hx:l.getD i false=x at *
    cases x
    · rw[if_pos ⟨rfl,rfl⟩]
      repeat(first|refine GA ?_|refine gV (rr_idx1 Und.eq TyC.ty rfl rfl hi) ?_|refine gV (rr_load1 TyC.ty rfl (at_row (i:=0) rfl (by rw[Nat.zero_add];exact hb))) ?_)
      refine TL_storeRow (i:=0) TyC.ty rfl rfl rfl rfl rfl rfl (by simpa using hi) ?_
      try refine GA ?_
      exact E_ret1 rfl rfl fun w hm=>hm.meetsB (S:=⟨fun (_:Unit)=>True,fun _=> .bool true,fun _=>[rowO 4 1 (.slice (some ⟨g,0,none⟩) l.length cap) l.length ((l.set i true).map .bool)]⟩) () trivial [0] (by decide) (by simp[List.map_set])
    · rw[if_neg (by simp)]
      repeat(first|refine GA ?_|refine gV (rr_idx1 Und.eq TyC.ty rfl rfl hi) ?_|refine gV (rr_load1 TyC.ty rfl (at_row (i:=0) rfl (by rw[Nat.zero_add];exact hb))) ?_)
      exact E_ret1 rfl rfl fun w hm=>hm.meetsB (S:=⟨fun (_:Unit)=>True,fun _=> .bool false,fun _=>[rowO 4 1 (.slice (some ⟨g,0,none⟩) l.length cap) l.length (l.map .bool)]⟩) () trivial [0] (by decide) rfl
set_option maxHeartbeats 2000000 in
theorem allB_calls (v vb:Value) (l:List Bool) (body:List Sym) (terms:Bool) (w:World) (hs:Sl w v l.length (l.map .bool)) (hs2:Sl w vb body.length (body.flatMap symC)) (hok:∀ x∈body,x.1=2→0≤x.2∧x.2<l.length) :
    Calls Try.prog 33 #[v,vb,.bool terms] w (Meets (ret (.bool (allF l body terms))) w):=by
  obtain⟨bv,cv,rfl,h1,h2,h3⟩:=hs
  obtain⟨bb,cb,rfl,h4,h5,h6⟩:=hs2
  unfold maxLen at h2 h5
  refine enter (args:=[.slice bv l.length cv,.slice bb body.length cb,.bool terms]) (n:=36) Try.func33 rfl rfl rfl ?_
  try refine GA ?_
  refine T_loop (ι:=Nat) (fun k=>k≤body.length∧allF l body terms=allF l (body.drop k) terms) (fun k=>[(0,.slice bv l.length cv),(2,.bool terms),(9,.slice bb body.length cb),(10,.int .i64 body.length),(11,.int .i64 (k:Int))]) (fun _=>[]) (fun k=>body.length - k) 0 ⟨Nat.zero_le _,rfl⟩ (by repeat' (first | exact True.intro | refine And.intro rfl ?_)) rfl ?_
  rintro k ⟨i1,i2⟩
  rw[i2]
  clear i2
  by_cases c6:k<body.length
  · obtain⟨b,off,rfl,hr⟩:=h6 (by omega)
    have hat:=at_el (L:=([]:List Own)) SymS_len hr c6
    have hokx:=hok body[k] (List.getElem_mem c6)
    have hd:allF l (body.drop k) terms=((if body[k].1=1 then terms else if body[k].1=2 then l.getD body[k].2.toNat false else true) && allF l (body.drop (k+1)) terms):=by
      rw[List.drop_eq_getElem_cons c6];rfl
    rw[hd]
    clear hd h6 hok hr
    generalize body[k]=x at *
    obtain⟨q,m⟩:=x
    dsimp only at *
    by_cases c1:q=1
    · rw[if_pos c1]
      cases terms
      · repeat(first|refine GA ?_|refine gV (rr_idxc Und.eq TyC.ty rfl rfl c6) ?_|refine gV (rr_loadN TyC.ty rfl rfl hat) ?_)
        refine TL_new rfl fun g8 => ?_
        refine TL_storeB (i:=0) rfl rfl rfl rfl rfl rfl ?_
        repeat(first|refine GA ?_|refine gV (rr_load1 TyC.ty rfl (at_blk (i:=0) rfl rfl)) ?_)
        exact E_ret1 rfl rfl fun w hm=>hm.ret
      · repeat(first|refine GA ?_|refine gV (rr_idxc Und.eq TyC.ty rfl rfl c6) ?_|refine gV (rr_loadN TyC.ty rfl rfl hat) ?_)
        refine TL_new rfl fun g8 => ?_
        refine TL_storeB (i:=0) rfl rfl rfl rfl rfl rfl ?_
        repeat(first|refine GA ?_|refine gV (rr_load1 TyC.ty rfl (at_blk (i:=0) rfl rfl)) ?_)
        refine E_pick [] (by decide) rfl ?_
        exact E_round (k+1) ⟨by omega,by simp⟩ (by show body.length - (k+1)<body.length - k;omega) (by repeat' (first | exact True.intro | refine And.intro rfl ?_)) rfl
    · rw[if_neg c1]
      by_cases c2:q=2
      · rw[if_pos c2]
        obtain⟨o1,o2⟩:=hokx c2
        obtain⟨mm,rfl⟩:∃ mm:Nat,m=mm:=⟨m.toNat,by omega⟩
        have hmm:mm<l.length:=by omega
        obtain⟨b',off',rfl,hr'⟩:=h3 (by omega)
        rw[Int.toNat_natCast]
        have hcell:=bool_at hmm
        generalize l.getD mm false=y at *
        cases y
        · repeat(first|refine GA ?_|refine gV (rr_idxc Und.eq TyC.ty rfl rfl c6) ?_|refine gV (rr_loadN TyC.ty rfl rfl hat) ?_)
          refine TL_new rfl fun g8 => ?_
          refine TL_storeB (i:=0) rfl rfl rfl rfl rfl rfl ?_
          repeat(first|refine GA ?_|refine gV (rr_load1 TyC.ty rfl (at_blk (i:=0) rfl rfl)) ?_|refine gV (rr_idx1 Und.eq TyC.ty rfl rfl hmm) ?_|refine gV (rr_load1 TyC.ty rfl (at_rd hr' hcell)) ?_)
          exact E_ret1 rfl rfl fun w hm=>hm.ret
        · repeat(first|refine GA ?_|refine gV (rr_idxc Und.eq TyC.ty rfl rfl c6) ?_|refine gV (rr_loadN TyC.ty rfl rfl hat) ?_)
          refine TL_new rfl fun g8 => ?_
          refine TL_storeB (i:=0) rfl rfl rfl rfl rfl rfl ?_
          repeat(first|refine GA ?_|refine gV (rr_load1 TyC.ty rfl (at_blk (i:=0) rfl rfl)) ?_|refine gV (rr_idx1 Und.eq TyC.ty rfl rfl hmm) ?_|refine gV (rr_load1 TyC.ty rfl (at_rd hr' hcell)) ?_)
          refine E_pick [] (by decide) rfl ?_
          exact E_round (k+1) ⟨by omega,by simp⟩ (by show body.length - (k+1)<body.length - k;omega) (by repeat' (first | exact True.intro | refine And.intro rfl ?_)) rfl
      · rw[if_neg c2]
        repeat(first|refine GA ?_|refine gV (rr_idxc Und.eq TyC.ty rfl rfl c6) ?_|refine gV (rr_loadN TyC.ty rfl rfl hat) ?_)
        refine TL_new rfl fun g8 => ?_
        refine TL_storeB (i:=0) rfl rfl rfl rfl rfl rfl ?_
        repeat(first|refine GA ?_|refine gV (rr_load1 TyC.ty rfl (at_blk (i:=0) rfl rfl)) ?_)
        refine E_pick [] (by decide) rfl ?_
        exact E_round (k+1) ⟨by omega,by simp⟩ (by show body.length - (k+1)<body.length - k;omega) (by repeat' (first | exact True.intro | refine And.intro rfl ?_)) rfl
  · rw[List.drop_of_length_le (by omega)]
    try refine GA ?_
    exact E_ret1 rfl rfl fun w hm=>hm.ret
end Go.Proofs.Ytldiodhdefnlaaa.eng

/- FactsB -/
namespace Go.Proofs.Ytldiodhdefnlaaa.eng
open Go.RowKit kit mix gramL factsL
theorem bits_orN {x y:Nat} (hx:x<18446744073709551616) (hy:y<18446744073709551616):bits .or .u64 (x:Int) (y:Int)=((x ||| y:Nat):Int):=by
  have h:=bits_nat .u64 64 (by decide) (fun n h0 h1=>by rw[IntKind.wrap_u64];omega) x y (by simpa using hx) (by simpa using hy)
  exact h.2
theorem or_lt {x y:Nat} (hx:x<18446744073709551616) (hy:y<18446744073709551616):x ||| y<18446744073709551616:=Nat.or_lt_two_pow (n:=64) hx hy
theorem pow_lt64 {m:Nat} (h:m<64):2 ^ m<18446744073709551616:=by
  have:(2:Nat) ^ m<2 ^ 64:=Nat.pow_lt_pow_right (by decide) h
  simpa using this
theorem shl1 {P:Program} (m:Nat) (hm:m<64) (w:World):(Op.shift .shl .u64 1 .i64 (m:Int)).run P w = .ok (.int .u64 ((2 ^ m:Nat):Int)) w:=by
  have e:min m 64=m:=by omega
  have hp:=pow_lt64 hm
  have e2:(2:Int) ^ m=((2 ^ m:Nat):Int):=by rw[Int.natCast_pow];rfl
  have e3:IntKind.u64.wrap ((1:Int)*2 ^ m)=((2 ^ m:Nat):Int):=by
    rw[e2,IntKind.wrap_u64,Int.one_mul]
    generalize 2 ^ m=q at hp
    omega
  have h0:¬ ((m:Int)<0):=by omega
  simp only[Op.shift,if_neg h0,IntKind.bits,Int.toNat_natCast,e,e3,Sem.run_pure]
attribute [local irreducible] Op.shift Go.bits in
set_option maxHeartbeats 1000000 in
theorem add_calls (g cap:Nat) (l:List Nat) (i b:Nat) (w:World) (B:Base) (hi:i<l.length) (h64:∀ x∈l,x<18446744073709551616) (hb:b<18446744073709551616) (hm:Mem B [rowO 64 1 (.slice (some ⟨g,0,none⟩) l.length cap) l.length (l.map bitV)] w) :
    Calls Try.prog 34 #[.slice (some ⟨g,0,none⟩) l.length cap,.int .i64 (i:Int),bitV b] w (MeetsB ⟨fun (_:Unit)=>True,fun _=> .bool (addF l i b).2,fun _=>[rowO 64 1 (.slice (some ⟨g,0,none⟩) l.length cap) l.length ((addF l i b).1.map bitV)]⟩ B):=by
  have hc:=bit_at hi
  have hx64:l.getD i 0<18446744073709551616:=by
    have e:l.getD i 0=l[i]:=by rw[List.getD_eq_getElem?_getD,List.getElem?_eq_getElem hi];rfl
    rw[e];exact h64 _ (List.getElem_mem hi)
  refine enterB hm (args:=[.slice (some ⟨g,0,none⟩) l.length cap,.int .i64 (i:Int),bitV b]) (n:=25) Try.func34 rfl rfl rfl ?_
  unfold addF
  generalize l.getD i 0=x at *
  have hor:=bits_orN hx64 hb
  have hset:((l.map bitV).set i (.int .u64 ((x ||| b:Nat):Int)))[0+i]?=some (.int .u64 ((x ||| b:Nat):Int)):=by
    rw[Nat.zero_add,List.getElem?_set_self (by simpa using hi)]
  generalize x ||| b=y at *
  by_cases c:y=x
  · rw[show (!decide (y=x))=false by simp[c]]
    repeat(first|refine GA ?_|refine gV (rr_idx1 Und.eq TyC.ty rfl rfl hi) ?_|refine gV (rr_load1 TyC.ty rfl (at_row (i:=0) rfl (by rw[Nat.zero_add];exact hc))) ?_|refine gV (rr_or rfl rfl hor) ?_)
    refine TL_storeRow (i:=0) TyC.ty rfl rfl rfl rfl rfl rfl (by simpa using hi) ?_
    conv=>arg 8;simp only[List.set_cons_zero,Nat.zero_add]
    repeat(first|refine GA ?_|refine gV (rr_idx1 Und.eq TyC.ty rfl rfl hi) ?_|refine gV (rr_load1 TyC.ty rfl (at_row (i:=0) rfl hset)) ?_)
    exact E_ret1 rfl rfl fun w hm=>hm.meetsB (S:=⟨fun (_:Unit)=>True,fun _=> .bool false,fun _=>[rowO 64 1 (.slice (some ⟨g,0,none⟩) l.length cap) l.length ((l.set i y).map bitV)]⟩) () trivial [0] (by decide) (by simp[List.map_set];rfl)
  · rw[show (!decide (y=x))=true by simp[c]]
    repeat(first|refine GA ?_|refine gV (rr_idx1 Und.eq TyC.ty rfl rfl hi) ?_|refine gV (rr_load1 TyC.ty rfl (at_row (i:=0) rfl (by rw[Nat.zero_add];exact hc))) ?_|refine gV (rr_or rfl rfl hor) ?_)
    refine TL_storeRow (i:=0) TyC.ty rfl rfl rfl rfl rfl rfl (by simpa using hi) ?_
    conv=>arg 8;simp only[List.set_cons_zero,Nat.zero_add]
    repeat(first|refine GA ?_|refine gV (rr_idx1 Und.eq TyC.ty rfl rfl hi) ?_|refine gV (rr_load1 TyC.ty rfl (at_row (i:=0) rfl hset)) ?_)
    exact E_ret1 rfl rfl fun w hm=>hm.meetsB (S:=⟨fun (_:Unit)=>True,fun _=> .bool true,fun _=>[rowO 64 1 (.slice (some ⟨g,0,none⟩) l.length cap) l.length ((l.set i y).map bitV)]⟩) () trivial [0] (by decide) (by simp[List.map_set];rfl)
theorem beginGo_cons (E:List Bool) (F:List Nat) (behind:Nat) (x:Sym) (r:List Sym) (out:Nat):beginGo E F behind (x::r) out=if x.1=1 then out ||| 2 ^ x.2.toNat else if E.getD x.2.toNat false=true then beginGo E F behind r (out ||| F.getD x.2.toNat 0) else out ||| F.getD x.2.toNat 0:=rfl
theorem beginGo_nil (E:List Bool) (F:List Nat) (behind out:Nat):beginGo E F behind [] out=out ||| behind:=rfl
def facV (vE vF vL vR vM:Value):Value:= .agg #[vE,vF,vL,vR,vM]
attribute [local irreducible] Op.shift Go.bits in
set_option maxHeartbeats 2000000 in
theorem begin_calls (vE vF vL vR vM vb:Value) (E:List Bool) (F:List Nat) (body:List Sym) (behind:Nat) (w:World) (hE:Sl w vE E.length (E.map .bool)) (hF:Sl w vF F.length (F.map bitV)) (hs:Sl w vb body.length (body.flatMap symC)) (hEF:E.length=F.length)
    (hok:∀ x∈body,(x.1=1→0≤x.2∧x.2<64)∧(x.1≠1→0≤x.2∧x.2<F.length)) (h64:∀ x∈F,x<18446744073709551616) (hb:behind<18446744073709551616) :
    Calls Try.prog 28 #[facV vE vF vL vR vM,vb,bitV behind] w (Meets (ret (bitV (beginF E F body behind))) w):=by
  obtain⟨bE,cE,rfl,e1,e2,e3⟩:=hE
  obtain⟨bF,cF,rfl,f1,f2,f3⟩:=hF
  obtain⟨bb,cb,rfl,h4,h5,h6⟩:=hs
  unfold maxLen at e2 f2 h5
  refine enter (args:=[facV (.slice bE E.length cE) (.slice bF F.length cF) vL vR vM,.slice bb body.length cb,bitV behind]) (n:=44) Try.func28 rfl rfl rfl ?_
  refine T_seq (T_region (TL_box rfl rfl rfl fun g3 => ?_))
  try refine GA ?_
  unfold beginF
  refine T_loop (ι:=Nat×Nat) (fun (k,out)=>k≤body.length∧out<18446744073709551616∧beginGo E F behind body 0=beginGo E F behind (body.drop k) out) (fun (k,out)=>[(2,bitV behind),(3,.pointer (some ⟨g3,0,none⟩)),(7,bitV out),(10,.slice bb body.length cb),(11,.int .i64 body.length),(12,.int .i64 (k:Int))]) (fun _=>[blkO g3 (facV (.slice bE E.length cE) (.slice bF F.length cF) vL vR vM).cells 48]) (fun (k,_)=>body.length - k) (0,0) ⟨Nat.zero_le _,by decide,rfl⟩ (by repeat' (first | exact True.intro | refine And.intro rfl ?_)) rfl ?_
  rintro⟨k,out⟩ ⟨i1,i3,i2⟩
  dsimp only at i1 i3 i2 ⊢
  rw[i2]
  clear i2
  by_cases c6:k<body.length
  · obtain⟨b,off,rfl,hr⟩:=h6 (by omega)
    have hat:=at_el (L:=[blkO g3 (facV (.slice bE E.length cE) (.slice bF F.length cF) vL vR vM).cells 48]) SymS_len hr c6
    have hokx:=hok body[k] (List.getElem_mem c6)
    have hd:beginGo E F behind (body.drop k) out=beginGo E F behind (body[k]::body.drop (k+1)) out:=by
      rw[List.drop_eq_getElem_cons c6]
    rw[hd]
    clear hd h6 hok hr
    generalize body[k]=x at *
    obtain⟨q,m⟩:=x
    dsimp only at *
    rw[beginGo_cons]
    dsimp only
    by_cases c1:q=1
    · rw[if_pos c1]
      obtain⟨o1,o2⟩:=hokx.1 c1
      obtain⟨mm,rfl⟩:∃ mm:Nat,m=mm:=⟨m.toNat,by omega⟩
      rw[Int.toNat_natCast]
      have hsh:=fun w=>shl1 (P:=Try.prog) mm (by omega) w
      have hor:=bits_orN i3 (pow_lt64 (m:=mm) (by omega))
      repeat(first|refine GA ?_|refine gV (rr_idxc Und.eq TyC.ty rfl rfl c6) ?_|refine gV (rr_loadN TyC.ty rfl rfl hat) ?_)
      refine TL_new rfl fun g8 => ?_
      refine TL_storeB (i:=1) rfl rfl rfl rfl rfl rfl ?_
      repeat(first|refine GA ?_|refine gV (rr_load1 TyC.ty rfl (at_blk (i:=1) rfl rfl)) ?_|refine gV (rr_shl rfl rfl hsh) ?_|refine gV (rr_or rfl rfl hor) ?_)
      exact E_ret1 rfl rfl fun w hm=>hm.ret
    · rw[if_neg c1]
      obtain⟨o1,o2⟩:=hokx.2 c1
      obtain⟨mm,rfl⟩:∃ mm:Nat,m=mm:=⟨m.toNat,by omega⟩
      rw[Int.toNat_natCast]
      have hmm:mm<F.length:=by omega
      have hmE:mm<E.length:=by omega
      obtain⟨b1,off1,rfl,hr1⟩:=e3 (by omega)
      obtain⟨b2,off2,rfl,hr2⟩:=f3 (by omega)
      have hcE:=bool_at hmE
      have hcF:=bit_at hmm
      have hx64:F.getD mm 0<18446744073709551616:=by
        have e:F.getD mm 0=F[mm]:=by rw[List.getD_eq_getElem?_getD,List.getElem?_eq_getElem hmm];rfl
        rw[e];exact h64 _ (List.getElem_mem hmm)
      have hor:=bits_orN i3 hx64
      have hlt:=or_lt i3 hx64
      generalize E.getD mm false=y at *
      generalize F.getD mm 0=z at *
      generalize out ||| z=o2 at *
      cases y
      · rw[if_neg (by decide)]
        repeat(first|refine GA ?_|refine gV (rr_idxc Und.eq TyC.ty rfl rfl c6) ?_|refine gV (rr_loadN TyC.ty rfl rfl hat) ?_)
        refine TL_new rfl fun g8 => ?_
        refine TL_storeB (i:=1) rfl rfl rfl rfl rfl rfl ?_
        repeat(first|refine GA ?_|refine gV (rr_load1 TyC.ty rfl (at_blk (i:=1) rfl rfl)) ?_|refine gV (rr_load1 TyC.ty rfl (at_blk (i:=0) rfl rfl)) ?_|refine gV (rr_idx1 Und.eq TyC.ty rfl rfl hmm) ?_|refine gV (rr_idx1 Und.eq TyC.ty rfl rfl hmE) ?_|refine gV (rr_load1 TyC.ty rfl (at_rd hr1 hcE)) ?_|refine gV (rr_load1 TyC.ty rfl (at_rd hr2 hcF)) ?_|refine gV (rr_or rfl rfl hor) ?_)
        exact E_ret1 rfl rfl fun w hm=>hm.ret
      · rw[if_pos rfl]
        repeat(first|refine GA ?_|refine gV (rr_idxc Und.eq TyC.ty rfl rfl c6) ?_|refine gV (rr_loadN TyC.ty rfl rfl hat) ?_)
        refine TL_new rfl fun g8 => ?_
        refine TL_storeB (i:=1) rfl rfl rfl rfl rfl rfl ?_
        repeat(first|refine GA ?_|refine gV (rr_load1 TyC.ty rfl (at_blk (i:=1) rfl rfl)) ?_|refine gV (rr_load1 TyC.ty rfl (at_blk (i:=0) rfl rfl)) ?_|refine gV (rr_idx1 Und.eq TyC.ty rfl rfl hmm) ?_|refine gV (rr_idx1 Und.eq TyC.ty rfl rfl hmE) ?_|refine gV (rr_load1 TyC.ty rfl (at_rd hr1 hcE)) ?_|refine gV (rr_load1 TyC.ty rfl (at_rd hr2 hcF)) ?_|refine gV (rr_or rfl rfl hor) ?_)
        refine E_pick [0] (by decide) rfl ?_
        exact E_round (k+1,o2) ⟨by omega,hlt,rfl⟩ (by show body.length - (k+1)<body.length - k;omega) (by repeat' (first | exact True.intro | refine And.intro rfl ?_)) rfl
  · rw[List.drop_of_length_le (by omega)]
    have hor:=bits_orN i3 hb
    rw[beginGo_nil]
    repeat(first|refine GA ?_|refine gV (rr_or rfl rfl hor) ?_)
    exact E_ret1 rfl rfl fun w hm=>hm.ret
end Go.Proofs.Ytldiodhdefnlaaa.eng

/- FactsC -/
namespace Go.Proofs.Ytldiodhdefnlaaa.eng
open Go.RowKit kit mix gramL factsL
def rowBn (n g c:Nat) (l:List Bool):Own:=rowO 4 1 (.slice (some ⟨g,0,none⟩) n c) n (l.map .bool)
theorem mark2_calls (n g cap:Nat) (l:List Bool) (i:Nat) (b:Bool) (w:World) (B:Base) (hl:l.length=n) (hi:i<n) (hm:Mem B [rowBn n g cap l] w) :
    Calls Try.prog 32 #[.slice (some ⟨g,0,none⟩) n cap,.int .i64 (i:Int),.bool b] w (MeetsB ⟨fun (_:Unit)=>True,fun _=> .bool (markF l i b).2,fun _=>[rowBn n g cap (markF l i b).1]⟩ B):=by
  subst hl
  exact mark_calls g cap l i b w B hi hm
structure Rows3 where
  gE:Nat
  cE:Nat
  gR:Nat
  cR:Nat
  gM:Nat
  cM:Nat
def vRow (n g c:Nat):Value:= .slice (some ⟨g,0,none⟩) n c
theorem roundR_cons (h:Nat) (x:Sym) (r:List Sym) (R:List Bool) (more:Bool):roundR h (x::r) R more=roundR h r (stepR h x R more).1 (stepR h x R more).2:=rfl
theorem roundL_cons (p:gramL.Prod) (r:List gramL.Prod) (s:FS):roundL (p::r) s=roundL r (roundP p s):=rfl
set_option maxHeartbeats 8000000 in
theorem round_calls (w0:World) (v:Value) (g:Gram) (h:GraR (fun k=>k<w0.heap.size) w0 v g) (hck:checkG g=0) (n:Nat) (hn:g.nons=n) (x:Rows3) (vF vL:Value) (E R M:List Bool) (hE:E.length=n) (hR:R.length=n) (hM:M.length=n) (w:World) (B:Base) (ho:Old w0 B) (hm:Mem B [rowBn n x.gE x.cE E,rowBn n x.gR x.cR R,rowBn n x.gM x.cM M] w) :
    Calls Try.prog 16 #[v,facV (vRow n x.gE x.cE) vF vL (vRow n x.gR x.cR) (vRow n x.gM x.cM)] w (MeetsB ⟨fun (_:Unit)=>True,fun _=> .bool (roundL g.prods ⟨E,R,M,false⟩).more,fun _=>[rowBn n x.gE x.cE (roundL g.prods ⟨E,R,M,false⟩).E,rowBn n x.gR x.cR (roundL g.prods ⟨E,R,M,false⟩).R,rowBn n x.gM x.cM (roundL g.prods ⟨E,R,M,false⟩).M]⟩ B):=by
  obtain⟨gE,cE,gR,cR,gM,cM⟩:=x
  dsimp only at *
  obtain⟨_,_,_,_,hlen,hps⟩:=checkG_ok hck
  obtain⟨vp,rfl,h1,_⟩:=h
  obtain⟨bp,cp,rfl,hcp,hmp,hrp⟩:=h1
  unfold maxLen at hmp
  obtain⟨t,nn,prods⟩:=g
  dsimp only at *
  subst hn
  refine enterB hm (args:=[graV t (n:Int) (.slice bp prods.length cp),facV (vRow n gE cE) vF vL (vRow n gR cR) (vRow n gM cM)]) (n:=70) Try.func16 rfl rfl rfl ?_
  refine T_seq (T_region (TL_box rfl rfl rfl fun g2=>TL_box rfl rfl rfl fun g3 => ?_))
  conv=>arg 8;simp only[zA,zB,zC,zD,zE,zF,zG,zH,zI,rowS,ret,id_eq]
  repeat(first|refine GA ?_|refine gV (rr_load1 TyC.ty rfl (at_blk (i:=3) rfl rfl)) ?_)
  refine T_pick [0,1,2,4] (by decide) rfl ?_
  generalize hfin:roundL prods ⟨E,R,M,false⟩=fin
  refine T_loop (ι:=Nat×FS) (fun (k,s)=>k≤prods.length∧s.E.length=n∧s.R.length=n∧s.M.length=n∧roundL (prods.drop k) s=fin) (fun (k,s)=>[(3,.pointer (some ⟨g3,0,none⟩)),(5,.bool s.more),(11,.slice bp prods.length cp),(12,.int .i64 prods.length),(13,.int .i64 (k:Int))])
    (fun (_,s)=>[rowBn n gE cE s.E,rowBn n gR cR s.R,rowBn n gM cM s.M,blkO g3 (facV (vRow n gE cE) vF vL (vRow n gR cR) (vRow n gM cM)).cells 48]) (fun (k,_)=>prods.length - k) (0,⟨E,R,M,false⟩) ⟨Nat.zero_le _,hE,hR,hM,hfin⟩ (by repeat' (first | exact True.intro | refine And.intro rfl ?_)) rfl ?_
  clear hm hE hR hM hfin
  rintro⟨k,E,R,M,more⟩ ⟨i1,i2,i3,i4,i5⟩
  dsimp only at i1 i2 i3 i4 i5 ⊢
  by_cases c6:k<prods.length
  · obtain⟨b,off,rfl,_,hr⟩:=hrp (by omega)
    obtain⟨bb,cb,q1,q2,q3⟩:=prod_at hr c6
    have hpk:=hps prods[k] (List.getElem_mem c6)
    rw[List.drop_eq_getElem_cons c6,roundL_cons] at i5
    have hat:∀ (L:List Own) (j:Nat) (v:Value),([.int .i64 prods[k].1,.slice bb prods[k].2.length cb]:List Value)[j]?=some v→At B L ⟨b,off+k*2+j,none⟩ v:=fun L j v hj=>at_old0 ho (q1 j v hj)
    have hfl:=q3.flat (by decide)
    clear hr hrp q1 hps q3
    generalize prods[k]=p at *
    obtain⟨hd,body⟩:=p
    obtain⟨p1,p2,p3,p4⟩:=hpk
    dsimp only at *
    obtain⟨hn,rfl⟩:∃ hn:Nat,hd=hn:=⟨hd.toNat,by omega⟩
    have hhn:hn<n:=by omega
    have hbody:∀ x∈body,x.1=2→0≤x.2∧x.2<(n:Int):=fun x hx hx2=>by
      have:=p4 x hx
      unfold right at this
      rw[if_neg (by omega),if_pos hx2] at this
      simpa using this
    have hsb:∀ w' L,Mem B L w'→Sl w' (.slice bb body.length cb) body.length (body.flatMap symC):=fun w' L hm=>hfl.gr (ho.mem hm)
    unfold roundP at i5
    dsimp only at i5
    rw[Int.toNat_natCast] at i5
    have hall1:=fun w' L (hm:Mem B L w') (hx:Sl w' (vRow n gE cE) E.length (E.map .bool))=>allB_calls (vRow n gE cE) (.slice bb body.length cb) E body false w' hx (hsb w' L hm) (fun x hx hx2=>by rw[i2];exact hbody x hx hx2)
    have hall2:=fun w' L (hm:Mem B L w') (hx:Sl w' (vRow n gM cM) M.length (M.map .bool))=>allB_calls (vRow n gM cM) (.slice bb body.length cb) M body true w' hx (hsb w' L hm) (fun x hx hx2=>by rw[i4];exact hbody x hx hx2)
    generalize allF E body false=a1 at *
    generalize allF M body true=a2 at *
    have hmk1:=fun w' B' hm=>mark2_calls n gE cE E hn a1 w' B' i2 hhn hm
    have hmk2:=fun w' B' hm=>mark2_calls n gM cM M hn a2 w' B' i4 hhn hm
    have hl1:=markF_len E hn a1
    have hl2:=markF_len M hn a2
    rw[i2] at hl1 hall1
    rw[i4] at hl2 hall2
    generalize markF E hn a1=m1 at *
    generalize markF M hn a2=m2 at *
    obtain⟨E1,b1⟩:=m1
    obtain⟨M1,b2⟩:=m2
    dsimp only at *
    repeat(first|refine GA ?_|refine gV (rr_idxc Und.eq TyC.ty rfl rfl c6) ?_|refine gV (rr_loadN TyC.ty rfl rfl (hat _)) ?_)
    clear hat
    refine TL_new rfl fun g7 => ?_
    refine TL_storeB (i:=4) rfl rfl rfl rfl rfl rfl ?_
    conv=>arg 8;simp only[zA,zB,zC,zD,zE,zF,zG,zH,zI,rowS,ret,id_eq]
    repeat(first|refine QV QP ?_|refine TL_nil ?_|refine E_then ?_|refine qs rfl rfl rfl rfl rfl rfl ?_|((try refine qg rfl rfl rfl ?_);first|refine QV QP ?_|refine QV QL ?_|refine QV QA ?_|refine QV QlT ?_|refine QV QlF ?_|refine QV QeT ?_|refine QV QeF ?_|refine QV QaA ?_))
    (repeat refine T_seq ?_)
    refine T_midq (ι:=Unit) (fun _=>True) (fun _=>[(3,.pointer (some ⟨g3,0,none⟩)),(5,.bool (b1 || more)),(7,.pointer (some ⟨g7,0,none⟩)),(11,.slice (some ⟨b,off,none⟩) prods.length cp),(12,.int .i64 prods.length),(13,.int .i64 (k:Int))])
      (fun _=>[rowBn n gE cE E1,rowBn n gR cR R,rowBn n gM cM M,blkO g3 (facV (vRow n gE cE) vF vL (vRow n gR cR) (vRow n gM cM)).cells 48,blkO g7 #[.int .i64 (hn:Int),.slice bb body.length cb] 63]) ?_ ?_
    · refine T_ord ([blkO g3 (facV (vRow n gE cE) vF vL (vRow n gR cR) (vRow n gM cM)).cells 48,blkO g7 #[.int .i64 (hn:Int),.slice bb body.length cb] 63]) (.calm 0 (.calm 1 (.calm 2 (.calm 3 (.calm 4 (.calm 5 (.calm 6 (.calm 7 (.one 8 (.one 9 (.calm 10 (.calm 11 (.calm 12 (.calm 13 (.done))))))))))))))) (sub_pick [3,4] (by decide) rfl) (by kernel_rfl) (by kernel_rfl) (by intro c a d v w h;cases d <;> exact h) ?_
      repeat(first|refine GW ?_|(refine GN ?_;first|refine QW (rr_load1 TyC.ty rfl (at_blk (i:=0) rfl rfl)) ?_|refine QW (rr_load1 TyC.ty rfl (at_blk (i:=1) rfl rfl)) ?_))
      refine TW_one rfl ?_
      refine TL_call (he3 EntersC.en rfl rfl rfl rfl) (fun w hm=>hall1 _ _ hm (sl_row (i:=0) rfl w hm)) rfl rfl rfl ?_
      intro _ _
      conv=>arg 8;simp only[zA,zB,zC,zD,zE,zF,zG,zH,zI,rowS,ret,id_eq]
      refine TW_on (sub_pick [3,4] (by decide) rfl) ?_
      refine TW_one rfl ?_
      refine TL_callB [0] [1,2,3,4] (by decide) rfl rfl (he3 EntersC.en rfl rfl rfl rfl) (fun w hm hb=>hmk1 w _ hb) rfl rfl rfl ?_
      intro _ _
      conv=>arg 8;simp only[zA,zB,zC,zD,zE,zF,zG,zH,zI,rowS,ret,id_eq]
      refine TW_on (sub_pick [2,3] (by decide) rfl) ?_
      cases b1
      · try refine GW ?_
        refine E_pick [4,0,1,2,3] (by decide) rfl ?_
        exact E_mid () trivial (by repeat' (first | exact True.intro | refine And.intro rfl ?_)) rfl
      · try refine GW ?_
        refine E_pick [4,0,1,2,3] (by decide) rfl ?_
        exact E_mid () trivial (by repeat' (first | exact True.intro | refine And.intro rfl ?_)) rfl
    intro _ _
    (repeat refine T_seq ?_)
    refine T_midq (ι:=Unit) (fun _=>True) (fun _=>[(3,.pointer (some ⟨g3,0,none⟩)),(5,.bool (b2 || (b1 || more))),(7,.pointer (some ⟨g7,0,none⟩)),(11,(.slice (some ⟨b,off,none⟩) prods.length cp)),(12,.int .i64 prods.length),(13,.int .i64 (k:Int))])
      (fun _=>[rowBn n gE cE E1,rowBn n gR cR R,rowBn n gM cM M1,blkO g3 (facV (vRow n gE cE) vF vL (vRow n gR cR) (vRow n gM cM)).cells 48,blkO g7 #[.int .i64 (hn:Int),.slice bb body.length cb] 63]) ?_ ?_
    · refine T_ord ([blkO g3 (facV (vRow n gE cE) vF vL (vRow n gR cR) (vRow n gM cM)).cells 48,blkO g7 #[.int .i64 (hn:Int),.slice bb body.length cb] 63]) (.calm 0 (.calm 1 (.calm 2 (.calm 3 (.calm 4 (.calm 5 (.calm 6 (.calm 7 (.one 8 (.one 9 (.calm 10 (.calm 11 (.calm 12 (.calm 13 (.done))))))))))))))) (sub_pick [3,4] (by decide) rfl) (by kernel_rfl) (by kernel_rfl) (by intro c a d v w h;cases d <;> exact h) ?_
      repeat(first|refine GW ?_|(refine GN ?_;first|refine QW (rr_load1 TyC.ty rfl (at_blk (i:=0) rfl rfl)) ?_|refine QW (rr_load1 TyC.ty rfl (at_blk (i:=1) rfl rfl)) ?_))
      refine TW_one rfl ?_
      refine TL_call (he3 EntersC.en rfl rfl rfl rfl) (fun w hm=>hall2 _ _ hm (sl_row (i:=2) rfl w hm)) rfl rfl rfl ?_
      intro _ _
      conv=>arg 8;simp only[zA,zB,zC,zD,zE,zF,zG,zH,zI,rowS,ret,id_eq]
      refine TW_on (sub_pick [3,4] (by decide) rfl) ?_
      refine TW_one rfl ?_
      refine TL_callB [2] [0,1,3,4] (by decide) rfl rfl (he3 EntersC.en rfl rfl rfl rfl) (fun w hm hb=>hmk2 w _ hb) rfl rfl rfl ?_
      intro _ _
      conv=>arg 8;simp only[zA,zB,zC,zD,zE,zF,zG,zH,zI,rowS,ret,id_eq]
      refine TW_on (sub_pick [2,3] (by decide) rfl) ?_
      generalize (b1 || more)=mo
      cases b2
      · try refine GW ?_
        refine E_pick [0,1,4,2,3] (by decide) rfl ?_
        exact E_mid () trivial (by repeat' (first | exact True.intro | refine And.intro rfl ?_)) rfl
      · try refine GW ?_
        refine E_pick [0,1,4,2,3] (by decide) rfl ?_
        exact E_mid () trivial (by repeat' (first | exact True.intro | refine And.intro rfl ?_)) rfl
    intro _ _
    generalize (b2 || (b1 || more))=mo at *
    clear hmk1 hmk2 hall1 hall2
    repeat(first|refine GA ?_|refine gV (rr_load1 TyC.ty rfl (at_blk (i:=4) rfl rfl)) ?_)
    generalize hfr:roundR hn body R mo=fr at *
    obtain⟨R2,mo2⟩:=fr
    dsimp only at i5
    refine T_loop (ι:=Nat×List Bool×Bool) (fun (j,R',m')=>j≤body.length∧R'.length=n∧roundR hn (body.drop j) R' m'=(R2,mo2)) (fun (j,_,m')=>[(3,.pointer (some ⟨g3,0,none⟩)),(5,.bool m'),(7,.pointer (some ⟨g7,0,none⟩)),(11,(.slice (some ⟨b,off,none⟩) prods.length cp)),(12,.int .i64 prods.length),(13,.int .i64 (k:Int)),(44,.slice bb body.length cb),(45,.int .i64 body.length),(46,.int .i64 (j:Int))])
      (fun (_,R',_)=>[rowBn n gE cE E1,rowBn n gR cR R',rowBn n gM cM M1,blkO g3 (facV (vRow n gE cE) vF vL (vRow n gR cR) (vRow n gM cM)).cells 48,blkO g7 #[.int .i64 (hn:Int),.slice bb body.length cb] 63]) (fun (j,_,_)=>body.length - j) (0,R,mo) ⟨Nat.zero_le _,i3,hfr⟩ (by repeat' (first | exact True.intro | refine And.intro rfl ?_)) rfl ?_
    clear hfr
    rintro⟨j,R',m'⟩ ⟨j1,j2,j3⟩
    dsimp only at j1 j2 j3 ⊢
    by_cases c7:j<body.length
    · obtain⟨b',off',rfl,hrb⟩:=(by
        obtain⟨bs,cs,hv,_,_,hrd⟩:=hfl
        simp only[Value.slice.injEq,true_and] at hv
        obtain⟨rfl,rfl⟩:=hv
        exact hrd (by omega):∃ b' off',bb=some ⟨b',off',none⟩∧Rd w0 b' off' (body.flatMap symC))
      have hatx:∀ (L:List Own) (q:Nat) (u:Value),(symC body[j])[q]?=some u→At B L ⟨b',off'+j*2+q,none⟩ u:=fun L=>at_elL SymS_len (fun q u hq=>at_old0 ho (hrb q u hq)) c7
      have hx2:=hbody body[j] (List.getElem_mem c7)
      rw[List.drop_eq_getElem_cons c7,roundR_cons] at j3
      clear hbody hrb hfl hsb p4
      generalize body[j]=x at *
      obtain⟨q,m⟩:=x
      dsimp only at hx2
      unfold stepR at j3
      dsimp only at j3
      by_cases c8:q=2
      · subst c8
        rw[if_pos rfl] at j3
        obtain⟨y1,y2⟩:=hx2 rfl
        obtain⟨mm,rfl⟩:∃ mm:Nat,m=mm:=⟨m.toNat,by omega⟩
        rw[Int.toNat_natCast] at j3
        have hcell:=bool_at (l:=R') (i:=hn) (by omega)
        generalize R'.getD hn false=bh at *
        have hmk:=fun w' B' hm=>mark2_calls n gR cR R' mm bh w' B' j2 (by omega) hm
        have hl3:=markF_len R' mm bh
        rw[j2] at hl3
        generalize markF R' mm bh=m3 at *
        obtain⟨R3,b3⟩:=m3
        dsimp only at *
        repeat(first|refine GA ?_|refine gV (rr_idxc Und.eq TyC.ty rfl rfl c7) ?_|refine gV (rr_loadN TyC.ty rfl rfl (hatx _)) ?_)
        clear hatx
        refine TL_new rfl fun g9 => ?_
        refine TL_storeB (i:=5) rfl rfl rfl rfl rfl rfl ?_
        conv=>arg 8;simp only[zA,zB,zC,zD,zE,zF,zG,zH,zI,rowS,ret,id_eq]
        repeat(first|refine GA ?_|refine gV (rr_load1 TyC.ty rfl (at_blk (i:=5) rfl rfl)) ?_)
        refine T_ord ([blkO g3 (facV (vRow n gE cE) vF vL (vRow n gR cR) (vRow n gM cM)).cells 48,blkO g7 #[.int .i64 (hn:Int),.slice (some ⟨b',off',none⟩) body.length cb] 63,blkO g9 #[.int .i64 2,.int .i64 (mm:Int)] 112]) (.calm 0 (.calm 1 (.calm 2 (.calm 3 (.calm 4 (.calm 5 (.calm 6 (.calm 7 (.calm 8 (.one 9 (.one 10 (.calm 11 (.calm 12 (.calm 13 (.calm 14 (.done)))))))))))))))) (sub_pick [3,4,5] (by decide) rfl) (by kernel_rfl) (by kernel_rfl) (by intro c a d v w h;cases d <;> exact h) ?_
        repeat(first|refine GW ?_|(refine GN ?_;first|refine QW (rr_load1 TyC.ty rfl (at_blk (i:=0) rfl rfl)) ?_|refine QW (rr_load1 TyC.ty rfl (at_blk (i:=1) rfl rfl)) ?_|refine QW (rr_load1 TyC.ty rfl (at_blk (i:=2) rfl rfl)) ?_|refine QW (rr_idx1 Und.eq TyC.ty rfl rfl (show hn<n by omega)) ?_))
        refine TW_one rfl (TL_val (rr_load1 TyC.ty rfl (at_row (i:=1) rfl (by rw[Nat.zero_add];exact hcell))) rfl rfl rfl (TW_on (sub_pick [3,4,5] (by decide) rfl) ?_))
        refine TW_one rfl ?_
        refine TL_callB [1] [0,2,3,4,5] (by decide) rfl rfl (he3 EntersC.en rfl rfl rfl rfl) (fun w hm hb=>hmk w _ hb) rfl rfl rfl ?_
        intro _ _
        conv=>arg 8;simp only[zA,zB,zC,zD,zE,zF,zG,zH,zI,rowS,ret,id_eq]
        refine TW_on (sub_pick [2,3,4] (by decide) rfl) ?_
        cases b3
        · try refine GW ?_
          try refine GA ?_
          refine E_pick [0,5,1,2,3] (by decide) rfl ?_
          exact E_round (j+1,R3,false || m') ⟨by omega,hl3,j3⟩ (by show body.length - (j+1)<body.length - j;omega) (by repeat' (first | exact True.intro | refine And.intro rfl ?_)) rfl
        · try refine GW ?_
          try refine GA ?_
          refine E_pick [0,5,1,2,3] (by decide) rfl ?_
          exact E_round (j+1,R3,true || m') ⟨by omega,hl3,j3⟩ (by show body.length - (j+1)<body.length - j;omega) (by repeat' (first | exact True.intro | refine And.intro rfl ?_)) rfl
      · rw[if_neg c8] at j3
        dsimp only at j3
        repeat(first|refine GA ?_|refine gV (rr_idxc Und.eq TyC.ty rfl rfl c7) ?_|refine gV (rr_loadN TyC.ty rfl rfl (hatx _)) ?_)
        clear hatx
        refine TL_new rfl fun g9 => ?_
        refine TL_storeB (i:=5) rfl rfl rfl rfl rfl rfl ?_
        conv=>arg 8;simp only[zA,zB,zC,zD,zE,zF,zG,zH,zI,rowS,ret,id_eq]
        repeat(first|refine GA ?_|refine gV (rr_load1 TyC.ty rfl (at_blk (i:=5) rfl rfl)) ?_)
        refine E_pick [0,1,2,3,4] (by decide) rfl ?_
        exact E_round (j+1,R',m') ⟨by omega,j2,j3⟩ (by show body.length - (j+1)<body.length - j;omega) (by repeat' (first | exact True.intro | refine And.intro rfl ?_)) rfl
    · rw[List.drop_of_length_le (by omega)] at j3
      have j3:(R',m')=(R2,mo2):=j3
      simp only[Prod.mk.injEq] at j3
      obtain⟨rfl,rfl⟩:=j3
      try refine GA ?_
      refine E_pick [0,1,2,3] (by decide) rfl ?_
      exact E_round (k+1,⟨E1,R',M1,m'⟩) ⟨by omega,hl1,j2,hl2,i5⟩ (by show prods.length - (k+1)<prods.length - k;omega) (by repeat' (first | exact True.intro | refine And.intro rfl ?_)) rfl
  · rw[List.drop_of_length_le (by omega)] at i5
    have i5:(⟨E,R,M,more⟩:FS)=fin:=i5
    subst i5
    try refine GA ?_
    exact E_ret1 rfl rfl fun w hm=>hm.meetsB (S:=⟨fun (_:Unit)=>True,fun _=> .bool more,fun _=>[rowBn n gE cE E,rowBn n gR cR R,rowBn n gM cM M]⟩) () trivial [0,1,2] (by decide) rfl
end Go.Proofs.Ytldiodhdefnlaaa.eng

/- FactsD -/
namespace Go.Proofs.Ytldiodhdefnlaaa.eng
open Go.RowKit kit mix gramL factsL
def rowNn (n g c:Nat) (l:List Nat):Own:=rowO 64 1 (.slice (some ⟨g,0,none⟩) n c) n (l.map bitV)
theorem add2_calls (n g cap:Nat) (l:List Nat) (i b:Nat) (w:World) (B:Base) (hl:okW n l) (hi:i<n) (hb:b<18446744073709551616) (hm:Mem B [rowNn n g cap l] w) :
    Calls Try.prog 34 #[.slice (some ⟨g,0,none⟩) n cap,.int .i64 (i:Int),bitV b] w (MeetsB ⟨fun (_:Unit)=>True,fun _=> .bool (addF l i b).2,fun _=>[rowNn n g cap (addF l i b).1]⟩ B):=by
  obtain⟨rfl,h64⟩:=hl
  exact add_calls g cap l i b w B hi h64 hb hm
structure Rows4 where
  gE:Nat
  cE:Nat
  gF:Nat
  cF:Nat
  gW:Nat
  cW:Nat
  gM:Nat
  cM:Nat
theorem passF_cons (E M:List Bool) (p:gramL.Prod) (r:List gramL.Prod) (F:List Nat) (more:Bool):passF E M (p::r) F more=passF E M r (stepF E M p F more).1 (stepF E M p F more).2:=rfl
theorem passW_cons (E:List Bool) (F:List Nat) (p:gramL.Prod) (r:List gramL.Prod) (W:List Nat) (more:Bool):passW E F (p::r) W more=passW E F r (passWb E F p.1.toNat p.2 W more).1 (passWb E F p.1.toNat p.2 W more).2:=rfl
theorem passWb_cons (E:List Bool) (F:List Nat) (h:Nat) (x:Sym) (r:List Sym) (W:List Nat) (more:Bool):passWb E F h (x::r) W more=passWb E F h r (stepW E F h x r W more).1 (stepW E F h x r W more).2:=rfl
def setsF (E M:List Bool) (l:List gramL.Prod) (F:List Nat):List Nat:=factsL.fix (fun F=>passF E M l F false) lack F
def setsW (E:List Bool) (F:List Nat) (l:List gramL.Prod) (W:List Nat):List Nat:=factsL.fix (fun W=>passW E F l W false) lack W
set_option maxHeartbeats 8000000 in
theorem sets_calls (w0:World) (v:Value) (g:Gram) (h:GraR (fun k=>k<w0.heap.size) w0 v g) (hck:checkG g=0) (n:Nat) (hn:g.nons=n) (x:Rows4) (vR:Value) (E:List Bool) (F W:List Nat) (M:List Bool) (hE:E.length=n) (hF:okW n F) (hW:okW n W) (hM:M.length=n) (w:World) (B:Base) (ho:Old w0 B) (hm:Mem B [rowBn n x.gE x.cE E,rowNn n x.gF x.cF F,rowNn n x.gW x.cW W,rowBn n x.gM x.cM M] w) :
    Calls Try.prog 17 #[v,facV (vRow n x.gE x.cE) (vRow n x.gF x.cF) (vRow n x.gW x.cW) vR (vRow n x.gM x.cM)] w (MeetsB ⟨fun (_:Unit)=>True,fun _=> .tuple #[],fun _=>[rowBn n x.gE x.cE E,rowNn n x.gF x.cF (setsF E M g.prods F),rowNn n x.gW x.cW (setsW E (setsF E M g.prods F) g.prods W),rowBn n x.gM x.cM M]⟩ B):=by
  obtain⟨gE,cE,gF,cF,gW,cW,gM,cM⟩:=x
  dsimp only at *
  have hfine:=fine_of hck hn
  obtain⟨_,_,_,_,hlen,_⟩:=checkG_ok hck
  obtain⟨vp,rfl,h1,_⟩:=h
  obtain⟨bp,cp,rfl,hcp,hmp,hrp⟩:=h1
  unfold maxLen at hmp
  obtain⟨t,nn,prods⟩:=g
  dsimp only at *
  subst hn
  have hfalls:=fallsF (E:=E) (M:=M) hfine
  refine enterB hm (args:=[graV t (n:Int) (.slice bp prods.length cp),facV (vRow n gE cE) (vRow n gF cF) (vRow n gW cW) vR (vRow n gM cM)]) (n:=80) Try.func17 rfl rfl rfl ?_
  refine T_seq (T_region (TL_box rfl rfl rfl fun g2=>TL_box rfl rfl rfl fun g3 => ?_))
  conv=>arg 8;simp only[zA,zB,zC,zD,zE,zF,zG,zH,zI,rowS,ret,id_eq]
  try refine GA ?_
  generalize hfin:setsF E M prods F=fin
  refine T_loop (ι:=List Nat×Bool) (fun (F,more)=>okW n F∧(more=true→setsF E M prods F=fin)∧(more=false→F=fin)) (fun (_,more)=>[(2,.pointer (some ⟨g2,0,none⟩)),(3,.pointer (some ⟨g3,0,none⟩)),(4,.bool more)])
    (fun (F,_)=>[rowBn n gE cE E,rowNn n gF cF F,rowNn n gW cW W,rowBn n gM cM M,blkO g2 (graV t (n:Int) (.slice bp prods.length cp)).cells 33,blkO g3 (facV (vRow n gE cE) (vRow n gF cF) (vRow n gW cW) vR (vRow n gM cM)).cells 48]) (fun (F,more)=>2*lack F+(if more=true then 1 else 0)) (F,true) ⟨hF,fun _=>hfin,fun h=>by cases h⟩ (by repeat' (first | exact True.intro | refine And.intro rfl ?_)) rfl ?_
  clear hm hF hfin
  rintro⟨F,more⟩ ⟨i1,i2,i3⟩
  dsimp only at i1 i2 i3 ⊢
  cases more
  · have i3 := i3 rfl
    subst i3
    clear i2 hfalls
    have hfalls:=fallsW (E:=E) i1 hfine
    try refine GA ?_
    generalize hfin:setsW E F prods W=fin
    refine T_loop (ι:=List Nat×Bool) (fun (W,more)=>okW n W∧(more=true→setsW E F prods W=fin)∧(more=false→W=fin)) (fun (_,more)=>[(2,.pointer (some ⟨g2,0,none⟩)),(3,.pointer (some ⟨g3,0,none⟩)),(7,.bool more)])
      (fun (W,_)=>[rowBn n gE cE E,rowNn n gF cF F,rowNn n gW cW W,rowBn n gM cM M,blkO g2 (graV t (n:Int) (.slice bp prods.length cp)).cells 33,blkO g3 (facV (vRow n gE cE) (vRow n gF cF) (vRow n gW cW) vR (vRow n gM cM)).cells 48]) (fun (W,more)=>2*lack W+(if more=true then 1 else 0)) (W,true) ⟨hW,fun _=>hfin,fun h=>by cases h⟩ (by repeat' (first | exact True.intro | refine And.intro rfl ?_)) rfl ?_
    clear hfin hW
    clear W
    rintro⟨W,more⟩ ⟨j1,j2,j3⟩
    dsimp only at j1 j2 j3 ⊢
    cases more
    · have j3:=j3 rfl
      subst j3
      try refine GA ?_
      exact E_end0 rfl fun w hm=>hm.meetsB (S:=⟨fun (_:Unit)=>True,fun _=> .tuple #[],fun _=>[rowBn n gE cE E,rowNn n gF cF F,rowNn n gW cW W,rowBn n gM cM M]⟩) () trivial [0,1,2,3] (by decide) rfl
    · have j2 := j2 rfl
      clear j3
      have hdone:∀ W' m',passW E F prods W false=(W',m')→okW n W'∧(m'=true→setsW E F prods W'=fin)∧(m'=false→W'=fin)∧2*lack W'+(if m'=true then 1 else 0)<2*lack W+1:=fun W' m' hp=>by
        have hk:=passW_ok (E:=E) i1 prods W false hfine j1
        rw[hp] at hk
        dsimp only at hk
        refine⟨hk.1,fun c => ?_,fun c => ?_,?_⟩
        · rw[←j2]
          unfold setsW
          rw[fix_go hfalls j1 (by rw[hp];exact c),hp]
        · rw[←j2]
          unfold setsW
          rw[fix_stop (by rw[hp];exact c),hp]
        · have h2:=hk.2.2
          cases m'
          · have:=hk.2.1;simp;omega
          · rcases h2 rfl with h | h
            · cases h
            · simp;omega
      repeat(first|refine GA ?_|refine gV (rr_load1 TyC.ty rfl (at_blk (i:=4) rfl rfl)) ?_)
      generalize hfp:passW E F prods W false=fp at *
      obtain⟨Wx,mx⟩:=fp
      have hdone:=hdone Wx mx rfl
      refine T_loop (ι:=Nat×List Nat×Bool) (fun (k,W,m)=>k≤prods.length∧okW n W∧passW E F (prods.drop k) W m=(Wx,mx)) (fun (k,_,m)=>[(2,.pointer (some ⟨g2,0,none⟩)),(3,.pointer (some ⟨g3,0,none⟩)),(7,.bool m),(40,.slice bp prods.length cp),(41,.int .i64 prods.length),(42,.int .i64 (k:Int))])
        (fun (_,W,_)=>[rowBn n gE cE E,rowNn n gF cF F,rowNn n gW cW W,rowBn n gM cM M,blkO g2 (graV t (n:Int) (.slice bp prods.length cp)).cells 33,blkO g3 (facV (vRow n gE cE) (vRow n gF cF) (vRow n gW cW) vR (vRow n gM cM)).cells 48]) (fun (k,_,_)=>prods.length - k) (0,W,false) ⟨Nat.zero_le _,j1,hfp⟩ (by repeat' (first | exact True.intro | refine And.intro rfl ?_)) rfl ?_
      clear hfp j2
      rintro⟨k,W',m⟩ ⟨k1,k2,k3⟩
      dsimp only at k1 k2 k3 ⊢
      by_cases c6:k<prods.length
      · obtain⟨b,off,rfl,_,hr⟩:=hrp (by omega)
        obtain⟨bb,cb,q1,q2,q3⟩:=prod_at hr c6
        have hp1:=hfine.head prods[k] (List.getElem_mem c6)
        have hp2:=hfine.term prods[k] (List.getElem_mem c6)
        have hp3:=hfine.non prods[k] (List.getElem_mem c6)
        rw[List.drop_eq_getElem_cons c6,passW_cons] at k3
        have hat:∀ (L:List Own) (j:Nat) (v:Value),([.int .i64 prods[k].1,.slice bb prods[k].2.length cb]:List Value)[j]?=some v→At B L ⟨b,off+k*2+j,none⟩ v:=fun L j v hj=>at_old0 ho (q1 j v hj)
        have hfl:=q3.flat (by decide)
        clear hr hrp q1 q3
        generalize prods[k]=p at *
        obtain⟨hd,body⟩:=p
        dsimp only at *
        obtain⟨hn,rfl⟩:∃ hn:Nat,hd=hn:=⟨hd.toNat,by omega⟩
        rw[Int.toNat_natCast] at hp1 k3
        have hsb:∀ w' L,Mem B L w'→Sl w' (.slice bb body.length cb) body.length (body.flatMap symC):=fun w' L hm=>hfl.gr (ho.mem hm)
        obtain⟨bb2,cb2,he,h4,h5,h6⟩:=hfl
        simp only[Value.slice.injEq,true_and] at he
        obtain⟨rfl,rfl⟩:=he
        unfold maxLen at h5
        repeat(first|refine GA ?_|refine gV (rr_idxc Und.eq TyC.ty rfl rfl c6) ?_|refine gV (rr_loadN TyC.ty rfl rfl (hat _)) ?_)
        clear hat
        refine TL_new rfl fun g9 => ?_
        refine TL_storeB (i:=6) rfl rfl rfl rfl rfl rfl ?_
        conv=>arg 8;simp only[zA,zB,zC,zD,zE,zF,zG,zH,zI,rowS,ret,id_eq]
        repeat(first|refine GA ?_|refine gV (rr_load1 TyC.ty rfl (at_blk (i:=6) rfl rfl)) ?_)
        refine T_loop (ι:=Nat×List Nat×Bool) (fun (j,W,m)=>j≤body.length∧okW n W∧passW E F (prods.drop (k+1)) (passWb E F hn (body.drop j) W m).1 (passWb E F hn (body.drop j) W m).2=(Wx,mx)) (fun (j,_,m)=>[(2,.pointer (some ⟨g2,0,none⟩)),(3,.pointer (some ⟨g3,0,none⟩)),(7,.bool m),(9,.pointer (some ⟨g9,0,none⟩)),(40,.slice (some ⟨b,off,none⟩) prods.length cp),(41,.int .i64 prods.length),(42,.int .i64 (k:Int)),(47,.slice bb body.length cb),(48,.int .i64 body.length),(49,.int .i64 (j:Int))])
          (fun (_,W,_)=>[rowBn n gE cE E,rowNn n gF cF F,rowNn n gW cW W,rowBn n gM cM M,blkO g2 (graV t (n:Int) (.slice (some ⟨b,off,none⟩) prods.length cp)).cells 33,blkO g3 (facV (vRow n gE cE) (vRow n gF cF) (vRow n gW cW) vR (vRow n gM cM)).cells 48,blkO g9 #[.int .i64 (hn:Int),.slice bb body.length cb] 63]) (fun (j,_,_)=>body.length - j) (0,W',m) ⟨Nat.zero_le _,k2,k3⟩ (by repeat' (first | exact True.intro | refine And.intro rfl ?_)) rfl ?_
        clear k2 k3
        rintro⟨j,W2,m2⟩ ⟨k2,k3,k4⟩
        dsimp only at k2 k3 k4 ⊢
        by_cases c7:j<body.length
        · obtain⟨b2,off2,rfl,hr2⟩:=h6 (by omega)
          have hat2:=at_elL (W:=B) (L:=[rowBn n gE cE E,rowNn n gF cF F,rowNn n gW cW W2,rowBn n gM cM M,blkO g2 (graV t (n:Int) (.slice (some ⟨b,off,none⟩) prods.length cp)).cells 33,blkO g3 (facV (vRow n gE cE) (vRow n gF cF) (vRow n gW cW) vR (vRow n gM cM)).cells 48,blkO g9 #[.int .i64 (hn:Int),.slice (some ⟨b2,off2,none⟩) body.length cb] 63]) SymS_len (fun q x hq=>at_old0 ho (hr2 q x hq)) c7
          have hx3:=hp3 body[j] (List.getElem_mem c7)
          have hsub:∀ w' L,Mem B L w'→Sl w' (subV (some ⟨b2,off2,none⟩) cb 2 (j+1) body.length) (body.drop (j+1)).length ((body.drop (j+1)).flatMap symC):=fun w' L hm=>by
            have:=sl_sub SymS_len (hsb w' L hm) (i:=j+1) (j:=body.length) (by omega) (Nat.le_refl _)
            rwa [List.take_of_length_le (by simp)] at this
          have hbl:beginF E F (body.drop (j+1)) (W2.getD hn 0)<18446744073709551616:=beginF_lt i1 (getD_lt k3 _) fun x hx h=>(hp2 x (List.mem_of_mem_drop hx) h).2
          have hbg:=fun w' L (hm:Mem B L w') (hx:Sl w' (vRow n gE cE) E.length (E.map .bool)) (hy:Sl w' (vRow n gF cF) F.length (F.map bitV))=>begin_calls (vRow n gE cE) (vRow n gF cF) (vRow n gW cW) vR (vRow n gM cM) _ E F (body.drop (j+1)) (W2.getD hn 0) w' hx hy (hsub w' L hm) (by rw[hE,i1.1]) (fun x hx=>⟨fun h=>by have:=hp2 x (List.mem_of_mem_drop hx) h;omega,fun h=>by have:=hp3 x (List.mem_of_mem_drop hx) h;rw[i1.1];omega⟩) i1.2 (getD_lt k3 _)
          rw[hE,i1.1] at hbg
          have hcW:(W2.map bitV)[hn]?=some (bitV (W2.getD hn 0)):=bit_at (by rw[k3.1];exact hp1.2)
          rw[List.drop_eq_getElem_cons c7,passWb_cons] at k4
          generalize body[j]=x at *
          obtain⟨q,mn⟩:=x
          dsimp only at hx3
          unfold stepW at k4
          dsimp only at k4
          generalize W2.getD hn 0=bh at *
          generalize beginF E F (body.drop (j+1)) bh=bg at *
          repeat(first|refine GA ?_|refine gV (rr_idxc Und.eq TyC.ty rfl rfl c7) ?_|refine gV (rr_loadN TyC.ty rfl rfl hat2) ?_)
          clear hat2 hr2
          refine TL_new rfl fun g11 => ?_
          conv=>arg 8;simp only[zA,zB,zC,zD,zE,zF,zG,zH,zI,rowS,ret,id_eq]
          try refine GA ?_
          refine TL_storeB (i:=7) rfl rfl rfl rfl rfl rfl ?_
          conv=>arg 8;simp only[zA,zB,zC,zD,zE,zF,zG,zH,zI,rowS,ret,id_eq]
          by_cases c1:q=2
          · rw[if_pos c1] at k4
            obtain⟨_,o1,o2⟩:=hx3 (by omega)
            subst c1
            obtain⟨mm,rfl⟩:∃ mm:Nat,mn=mm:=⟨mn.toNat,by omega⟩
            rw[Int.toNat_natCast] at k4 o2
            have hok2:=addF_ok (i:=mm) k3 hbl
            have hadd:=fun w' B' hm=>add2_calls n gW cW W2 mm bg w' B' k3 o2 hbl hm
            generalize addF W2 mm bg=ad at *
            obtain⟨W3,ch⟩:=ad
            dsimp only at k4 hok2 hadd
            repeat(first|refine GA ?_|refine gV (rr_load1 TyC.ty rfl (at_blk (i:=7) rfl rfl)) ?_)
            refine T_ord ([blkO g3 (facV (vRow n gE cE) (vRow n gF cF) (vRow n gW cW) vR (vRow n gM cM)).cells 48,blkO g9 #[.int .i64 (hn:Int),.slice (some ⟨b2,off2,none⟩) body.length cb] 63,blkO g11 #[.int .i64 2,.int .i64 (mm:Int)] 112]) (.calm 0 (.calm 1 (.calm 2 (.calm 3 (.calm 4 (.calm 5 (.calm 6 (.calm 7 (.calm 8 (.calm 9 (.calm 10 (.calm 11 (.calm 12 (.calm 13 (.calm 14 (.one 15 (.one 16 (.one 17 (.calm 18 (.calm 19 (.calm 20 (.calm 21 (.done))))))))))))))))))))))) (sub_pick [5,6,7] (by decide) rfl) (by kernel_rfl) (by kernel_rfl) (by intro c a d v w h;cases d <;> exact h) ?_
            repeat(first|(refine GN ?_;first|refine QW QP ?_|refine QW (rr_load1 TyC.ty rfl (at_blk (i:=0) rfl rfl)) ?_|refine QW (rr_load1 TyC.ty rfl (at_blk (i:=1) rfl rfl)) ?_|refine QW (rr_load1 TyC.ty rfl (at_blk (i:=2) rfl rfl)) ?_|refine QW (rr_loadB (i:=0) TyC.ty rfl rfl rfl) ?_|refine QW (rr_slfrom (i:=j+1) Und.eq TyC.ty rfl rfl c7 h4) ?_|refine QW (rr_idx1 Und.eq TyC.ty rfl rfl hp1.2) ?_|refine GX ?_)|refine GW ?_)
            refine TW_one rfl ?_
            refine TL_val (rr_load1 TyC.ty rfl (at_row (i:=2) rfl (by rw[Nat.zero_add];exact hcW))) rfl rfl rfl ?_
            refine TW_on (sub_pick [5,6,7] (by decide) rfl) ?_
            refine TW_one rfl ?_
            refine TL_call (he3 EntersC.en rfl rfl rfl rfl) (fun w hm=>hbg _ _ hm (sl_row (i:=0) rfl w hm) (sl_row (i:=1) rfl w hm)) rfl rfl rfl ?_
            intro _ _
            conv=>arg 8;simp only[zA,zB,zC,zD,zE,zF,zG,zH,zI,rowS,ret,id_eq]
            refine TW_on (sub_pick [5,6,7] (by decide) rfl) ?_
            refine TW_one rfl ?_
            refine TL_callB [2] [0,1,3,4,5,6,7] (by decide) rfl rfl (he3 EntersC.en rfl rfl rfl rfl) (fun w hm hb=>hadd w _ hb) rfl rfl rfl ?_
            intro _ _
            conv=>arg 8;simp only[zA,zB,zC,zD,zE,zF,zG,zH,zI,rowS,ret,id_eq]
            refine TW_on (sub_pick [4,5,6] (by decide) rfl) ?_
            cases ch
            · try refine GW ?_
              try refine GA ?_
              refine E_pick [0,1,7,2,3,4,5] (by decide) rfl ?_
              exact E_round (j+1,W3,false || m2) ⟨by omega,hok2,k4⟩ (by show body.length - (j+1)<body.length - j;omega) (by repeat' (first | exact True.intro | refine And.intro rfl ?_)) rfl
            · try refine GW ?_
              try refine GA ?_
              refine E_pick [0,1,7,2,3,4,5] (by decide) rfl ?_
              exact E_round (j+1,W3,true || m2) ⟨by omega,hok2,k4⟩ (by show body.length - (j+1)<body.length - j;omega) (by repeat' (first | exact True.intro | refine And.intro rfl ?_)) rfl
          · rw[if_neg c1] at k4
            repeat(first|refine GA ?_|refine gV (rr_load1 TyC.ty rfl (at_blk (i:=7) rfl rfl)) ?_)
            refine E_pick [0,1,2,3,4,5,6] (by decide) rfl ?_
            exact E_round (j+1,W2,m2) ⟨c7,k3,k4⟩ (by show body.length - (j+1)<body.length - j;omega) (by repeat' (first | exact True.intro | refine And.intro rfl ?_)) rfl
        · rw[show body.drop j=[] from List.drop_of_length_le (by omega)] at k4
          try refine GA ?_
          refine E_pick [0,1,2,3,4,5] (by decide) rfl ?_
          exact E_round (k+1,W2,m2) ⟨by omega,k3,k4⟩ (by show prods.length - (k+1)<prods.length - k;omega) (by repeat' (first | exact True.intro | refine And.intro rfl ?_)) rfl
      · rw[List.drop_of_length_le (by omega)] at k3
        have k3:(W',m)=(Wx,mx):=k3
        simp only[Prod.mk.injEq] at k3
        obtain⟨rfl,rfl⟩:=k3
        obtain⟨d1,d2,d3,d4⟩:=hdone
        try refine GA ?_
        exact E_round (W',m) ⟨d1,d2,d3⟩ d4 (by repeat' (first | exact True.intro | refine And.intro rfl ?_)) rfl
  · have i2:=i2 rfl
    clear i3
    have hdone:∀ F' m',passF E M prods F false=(F',m')→okW n F'∧(m'=true→setsF E M prods F'=fin)∧(m'=false→F'=fin)∧2*lack F'+(if m'=true then 1 else 0)<2*lack F+1:=fun F' m' hp=>by
      have hk:=passF_ok (E:=E) (M:=M) prods F false hfine i1
      rw[hp] at hk
      dsimp only at hk
      refine⟨hk.1,fun c => ?_,fun c => ?_,?_⟩
      · rw[←i2]
        unfold setsF
        rw[fix_go hfalls i1 (by rw[hp];exact c),hp]
      · rw[←i2]
        unfold setsF
        rw[fix_stop (by rw[hp];exact c),hp]
      · have h2:=hk.2.2
        cases m'
        · have:=hk.2.1;simp;omega
        · rcases h2 rfl with h | h
          · cases h
          · simp;omega
    repeat(first|refine GA ?_|refine gV (rr_load1 TyC.ty rfl (at_blk (i:=4) rfl rfl)) ?_)
    generalize hfp:passF E M prods F false=fp at *
    obtain⟨Fx,mx⟩:=fp
    have hdone:=hdone Fx mx rfl
    refine T_loop (ι:=Nat×List Nat×Bool) (fun (k,F,m)=>k≤prods.length∧okW n F∧passF E M (prods.drop k) F m=(Fx,mx)) (fun (k,_,m)=>[(2,.pointer (some ⟨g2,0,none⟩)),(3,.pointer (some ⟨g3,0,none⟩)),(4,.bool m),(14,.slice bp prods.length cp),(15,.int .i64 prods.length),(16,.int .i64 (k:Int))])
      (fun (_,F,_)=>[rowBn n gE cE E,rowNn n gF cF F,rowNn n gW cW W,rowBn n gM cM M,blkO g2 (graV t (n:Int) (.slice bp prods.length cp)).cells 33,blkO g3 (facV (vRow n gE cE) (vRow n gF cF) (vRow n gW cW) vR (vRow n gM cM)).cells 48]) (fun (k,_,_)=>prods.length - k) (0,F,false) ⟨Nat.zero_le _,i1,hfp⟩ (by repeat' (first | exact True.intro | refine And.intro rfl ?_)) rfl ?_
    clear hfp i2
    rintro⟨k,F',m⟩ ⟨j1,j2,j3⟩
    dsimp only at j1 j2 j3 ⊢
    by_cases c6:k<prods.length
    · obtain⟨b,off,rfl,_,hr⟩:=hrp (by omega)
      obtain⟨bb,cb,q1,q2,q3⟩:=prod_at hr c6
      have hp1:=hfine.head prods[k] (List.getElem_mem c6)
      have hp2:=hfine.term prods[k] (List.getElem_mem c6)
      have hp3:=hfine.non prods[k] (List.getElem_mem c6)
      rw[List.drop_eq_getElem_cons c6,passF_cons] at j3
      have hat:∀ (L:List Own) (j:Nat) (v:Value),([.int .i64 prods[k].1,.slice bb prods[k].2.length cb]:List Value)[j]?=some v→At B L ⟨b,off+k*2+j,none⟩ v:=fun L j v hj=>at_old0 ho (q1 j v hj)
      have hfl:=q3.flat (by decide)
      clear hr hrp q1 q3
      generalize prods[k]=p at *
      obtain⟨hd,body⟩:=p
      dsimp only at *
      obtain⟨hn,rfl⟩:∃ hn:Nat,hd=hn:=⟨hd.toNat,by omega⟩
      rw[Int.toNat_natCast] at hp1
      have hsb:∀ w' L,Mem B L w'→Sl w' (.slice bb body.length cb) body.length (body.flatMap symC):=fun w' L hm=>hfl.gr (ho.mem hm)
      have hall:=fun w' L (hm:Mem B L w') (hx:Sl w' (vRow n gM cM) M.length (M.map .bool))=>allB_calls (vRow n gM cM) (.slice bb body.length cb) M body true w' hx (hsb w' L hm) (fun x hx hx2=>by have:=hp3 x hx (by omega);rw[hM];omega)
      rw[hM] at hall
      have hbg:=fun w' L (hm:Mem B L w') (hx:Sl w' (vRow n gE cE) E.length (E.map .bool)) (hy:Sl w' (vRow n gF cF) F'.length (F'.map bitV))=>begin_calls (vRow n gE cE) (vRow n gF cF) (vRow n gW cW) vR (vRow n gM cM) (.slice bb body.length cb) E F' body 0 w' hx hy (hsb w' L hm) (by rw[hE,j2.1]) (fun x hx=>⟨fun h=>by have:=hp2 x hx h;omega,fun h=>by have:=hp3 x hx h;rw[j2.1];omega⟩) j2.2 (by decide)
      rw[hE,j2.1] at hbg
      unfold stepF at j3
      dsimp only at j3
      rw[Int.toNat_natCast] at j3
      generalize allF M body true=a1 at *
      have hbl:beginF E F' body 0<18446744073709551616:=beginF_lt j2 (by decide) fun x hx h=>(hp2 x hx h).2
      generalize beginF E F' body 0=bg at *
      repeat(first|refine GA ?_|refine gV (rr_idxc Und.eq TyC.ty rfl rfl c6) ?_|refine gV (rr_loadN TyC.ty rfl rfl (hat _)) ?_)
      clear hat
      refine TL_new rfl fun g6 => ?_
      refine TL_storeB (i:=6) rfl rfl rfl rfl rfl rfl ?_
      conv=>arg 8;simp only[zA,zB,zC,zD,zE,zF,zG,zH,zI,rowS,ret,id_eq]
      repeat(first|refine GA ?_|refine gV (rr_load1 TyC.ty rfl (at_blk (i:=5) rfl rfl)) ?_|refine gV (rr_load1 TyC.ty rfl (at_blk (i:=6) rfl rfl)) ?_)
      refine TL_call (he3 EntersC.en rfl rfl rfl rfl) (fun w hm=>hall _ _ hm (sl_row (i:=3) rfl w hm)) rfl rfl rfl ?_
      intro _ _
      conv=>arg 8;simp only[zA,zB,zC,zD,zE,zF,zG,zH,zI,rowS,ret,id_eq]
      cases a1
      · rw[if_neg (by decide)] at j3
        try refine GA ?_
        refine E_pick [0,1,2,3,4,5] (by decide) rfl ?_
        exact E_round (k+1,F',m) ⟨by omega,j2,j3⟩ (by show prods.length - (k+1)<prods.length - k;omega) (by repeat' (first | exact True.intro | refine And.intro rfl ?_)) rfl
      · rw[if_pos rfl] at j3
        have hok2:=addF_ok (i:=hn) j2 hbl
        have hadd:=fun w' B' hm=>add2_calls n gF cF F' hn bg w' B' j2 hp1.2 hbl hm
        generalize addF F' hn bg=ad at *
        obtain⟨F2,ch⟩:=ad
        dsimp only at *
        try refine GA ?_
        refine T_ord ([blkO g3 (facV (vRow n gE cE) (vRow n gF cF) (vRow n gW cW) vR (vRow n gM cM)).cells 48,blkO g6 #[.int .i64 (hn:Int),.slice bb body.length cb] 63]) (.calm 0 (.calm 1 (.calm 2 (.calm 3 (.calm 4 (.calm 5 (.calm 6 (.one 7 (.one 8 (.calm 9 (.calm 10 (.calm 11 (.calm 12 (.done)))))))))))))) (sub_pick [5,6] (by decide) rfl) (by kernel_rfl) (by kernel_rfl) (by intro c a d v w h;cases d <;> exact h) ?_
        repeat(first|refine GW ?_|(refine GN ?_;first|refine QW (rr_load1 TyC.ty rfl (at_blk (i:=0) rfl rfl)) ?_|refine QW (rr_load1 TyC.ty rfl (at_blk (i:=1) rfl rfl)) ?_|refine QW (rr_loadB (i:=0) TyC.ty rfl rfl rfl) ?_))
        refine TW_one rfl ?_
        refine TL_call (he3 EntersC.en rfl rfl rfl rfl) (fun w hm=>hbg _ _ hm (sl_row (i:=0) rfl w hm) (sl_row (i:=1) rfl w hm)) rfl rfl rfl ?_
        intro _ _
        conv=>arg 8;simp only[zA,zB,zC,zD,zE,zF,zG,zH,zI,rowS,ret,id_eq]
        refine TW_on (sub_pick [5,6] (by decide) rfl) ?_
        refine TW_one rfl ?_
        refine TL_callB [1] [0,2,3,4,5,6] (by decide) rfl rfl (he3 EntersC.en rfl rfl rfl rfl) (fun w hm hb=>hadd w _ hb) rfl rfl rfl ?_
        intro _ _
        conv=>arg 8;simp only[zA,zB,zC,zD,zE,zF,zG,zH,zI,rowS,ret,id_eq]
        refine TW_on (sub_pick [4,5] (by decide) rfl) ?_
        cases ch
        · try refine GW ?_
          try refine GA ?_
          refine E_pick [0,6,1,2,3,4] (by decide) rfl ?_
          exact E_round (k+1,F2,false || m) ⟨by omega,hok2,j3⟩ (by show prods.length - (k+1)<prods.length - k;omega) (by repeat' (first | exact True.intro | refine And.intro rfl ?_)) rfl
        · try refine GW ?_
          try refine GA ?_
          refine E_pick [0,6,1,2,3,4] (by decide) rfl ?_
          exact E_round (k+1,F2,true || m) ⟨by omega,hok2,j3⟩ (by show prods.length - (k+1)<prods.length - k;omega) (by repeat' (first | exact True.intro | refine And.intro rfl ?_)) rfl
    · rw[List.drop_of_length_le (by omega)] at j3
      have j3:(F',m)=(Fx,mx):=j3
      simp only[Prod.mk.injEq] at j3
      obtain⟨rfl,rfl⟩:=j3
      obtain⟨d1,d2,d3,d4⟩:=hdone
      try refine GA ?_
      exact E_round (F',m) ⟨d1,d2,d3⟩ d4 (by repeat' (first | exact True.intro | refine And.intro rfl ?_)) rfl
end Go.Proofs.Ytldiodhdefnlaaa.eng


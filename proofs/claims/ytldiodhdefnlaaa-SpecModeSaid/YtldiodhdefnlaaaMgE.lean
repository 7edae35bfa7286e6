/- Part 5 of what SpecMode needs: SpecS, SmO, SmT, SmK, SmW, SmD, SmX, SmY, DfX, DfM, ClassP, DfQ, SmPL, SpecN, SpecP, SmA, SmPk, SpecQ, SpecC, CountC, CountD. -/
import Derived.Test.YtldiodhdefnlaaaMgD
import Derived.WalkKit
import Derived.WalkSpells
import Derived.WalkLawsBesides
import Derived.Deep.RegionLaw
import Derived.Deep.AppendLies
import Derived.Deep.QuietTactic
import Derived.BigQuiet
import Derived.Deep.DeepCutAuto
import Derived.Lib.Hide
import Derived.Test.YtldiodhdefnlaaaRows
import Derived.ProofKit
import Derived.OpenShut
import Derived.ShutString
import Derived.SizedLaws
import Derived.JoinedCond
import Derived.Deep.CondSized
import Derived.Deep.Quiet
import Derived.StillTail
import Derived.Deep.LoopGhost
import Derived.Laws.BitsLemmas
import Derived.Laws.BytesString
import Derived.Test.YtldiodhdefnlaaaProg
import Derived.Laws.Entries
import Derived.Laws.BitsAllLaws
import Derived.Lib.TrailingZeros
import Derived.Laws.StructEq
import Derived.Laws.MakeOwn
import Derived.Laws.AppendOwn
import Derived.Maps.OwnSet
import Derived.DeepKeys4
import Derived.WideKeyEntry
import Derived.ChangeKeysEq
import Derived.Laws.Bits64b
import Derived.StringKeys
import Derived.Lib.SlicesCompact
import Derived.Shelf.Sort.Plain
import Derived.Ground.Names2Prog
import Derived.Shelf.Slices.CompactI
import Derived.Shelf.Slices.In.SortNone
import Derived.Lib.RowBridge
import Derived.Sort.Grow
import Derived.Lib.Walk
import Derived.Deep.RegionWith
import Derived.Deep.RegionHeld
import Derived.Shelf.SlGeneric
import Derived.Shelf.SlSortCmp.NoneTotal
import Derived.Ground.SlsfProg
import Derived.Lib.Strings
import Derived.Lib.Slices
import Derived.Lib.Bytealg
import Derived.Lib.IndexMore
/- SpecS -/
namespace Go.Proofs.Ytldiodhdefnlaaa.eng
open Go.RowKit kit mix classL rexL specL
def wordS:Shp Wd:=pairS strS rexS
def ruleS:Shp Rl:=pairS strS (sliceS strS)
def bsC (s:Bs):List Value:=[str s]
theorem bsC_len (s:Bs):(bsC s).length=1:=rfl
def SpR (F:Nat→Prop) (w:World) (v:Value) (s:Sp):Prop:=∃ vw vr,v = .agg #[vw,vr]∧SlF wordS F w vw s.words∧SlF ruleS F w vr s.rules
theorem slf_gr {α:Type} {s:Shp α} {w w':World} {v:Value} {l:List α} (h:SlF s (Low w) w v l) (hg:Gr w w'):SlF s (Low w') w' v l:=
  (h.stay fun k hk=>hg.block k hk).mono fun k hk=>Nat.lt_of_lt_of_le hk hg.size
theorem SpR.gr {w w':World} {v:Value} {s:Sp} (h:SpR (Low w) w v s) (hg:Gr w w'):SpR (Low w') w' v s:=by
  obtain⟨vw,vr,h1,h2,h3⟩:=h
  exact⟨vw,vr,h1,slf_gr h2 hg,slf_gr h3 hg⟩
def wdC (n:Bs) (k:Int) (c:C4) (v:Value):List Value:=str n::rexC k c v
theorem wd_rex {n:Bs} {k:Int} {c:C4} {vk:Value} {j:Nat} {v:Value} (h:(rexC k c vk)[j]?=some v):(wdC n k c vk).toArray[0+1+j]?=some v:=by
  rw[List.getElem?_toArray,Nat.zero_add,Nat.add_comm];exact h
theorem word_at {F:Nat→Prop} {w:World} {b off:Nat} {l:List Wd} (h:∀ i (h:i<l.length),∃ cs,wordS.is F w cs l[i]∧Rd w b (off+i*wordS.c) cs) {k:Nat} (hk:k<l.length) :
    ∃ base cap,Rd w b (off+k*7) (wdC l[k].1 l[k].2.kind l[k].2.cls (.slice base l[k].2.kids.length cap))∧RexR F w (rexV l[k].2.kind l[k].2.cls (.slice base l[k].2.kids.length cap)) l[k].2∧l[k].1.length≤9223372036854775807:=by
  obtain⟨cs,⟨c1,c2,rfl,⟨rfl,h1⟩,h2⟩,h3⟩:=h k hk
  have h2:RexIs F w c2 l[k].2:=h2
  have h4:=h2.r
  obtain⟨vk,e,-,hs⟩:=h4
  obtain⟨base,cap,rfl,-⟩:=hs
  have e2:c2=rexC l[k].2.kind l[k].2.cls (.slice base l[k].2.kids.length cap):=by
    unfold rexV at e
    simp only[Value.agg.injEq] at e
    simpa using congrArg Array.toList e
  subst e2
  exact⟨base,cap,h3,h2.r,h1⟩
theorem rule_at {F:Nat→Prop} {w:World} {b off:Nat} {l:List Rl} (h:∀ i (h:i<l.length),∃ cs,ruleS.is F w cs l[i]∧Rd w b (off+i*ruleS.c) cs) {k:Nat} (hk:k<l.length) :
    ∃ base cap,Rd w b (off+k*2) [str l[k].1,.slice base l[k].2.length cap]∧SlF strS F w (.slice base l[k].2.length cap) l[k].2∧l[k].1.length≤9223372036854775807:=by
  obtain⟨cs,⟨c1,c2,rfl,⟨rfl,h1⟩,v,rfl,hs⟩,h3⟩:=h k hk
  have hs0:=hs
  obtain⟨base,cap,rfl,-⟩:=hs
  exact⟨base,cap,h3,hs0,h1⟩
theorem name_step {b:UInt8} {r:Bs}:(b::r).all nameL=(nameL b && r.all nameL):=rfl
theorem nameL_iff {b:UInt8}:nameL b=true↔¬ ((b.toNat:Int)<97)∧¬ ((b.toNat:Int) > 122):=by
  unfold nameL
  simp only[Bool.and_eq_true,decide_eq_true_eq]
  omega
set_option maxHeartbeats 2000000 in
theorem named_calls (s:Bs) (w:World):Calls Try.prog 20 #[str s] w (Meets (ret (.bool (namedB s))) w):=by
  refine enter (args:=[str s]) (n:=27) Try.func20 rfl rfl rfl ?_
  try refine GA ?_
  by_cases c0:s=[]
  · subst c0
    repeat(first|refine GC ?_|refine gV (rr_streq (b:=true) rfl rfl rfl) ?_|refine GB ?_)
    exact E_ret1e rfl rfl rfl
  by_cases c1:12<s.length
  · repeat(first|refine GC ?_|refine gV (rr_streq (b:=false) rfl rfl (decide_eq_false c0)) ?_|refine GB ?_)
    exact E_ret1e rfl rfl (by unfold namedB;rw[decide_eq_false (show ¬ s.length≤12 by omega)];simp)
  have hB:namedB s=s.all nameL:=by unfold namedB;rw[decide_eq_true c0,decide_eq_true (show s.length≤12 by omega)];rfl
  repeat(first|refine GC ?_|refine gV (rr_streq (b:=false) rfl rfl (decide_eq_false c0)) ?_|refine GB ?_)
  refine T_loop (ι:=Nat) (fun k=>k≤s.length∧(s.drop k).all nameL=s.all nameL) (fun k=>[(0,str s),(12,.int .i64 s.length),(13,.int .i64 (k:Int))]) (fun _=>[]) (fun k=>s.length - k) 0 ⟨Nat.zero_le _,rfl⟩ (by repeat' (first | exact True.intro | refine And.intro rfl ?_)) rfl ?_
  rintro k ⟨i1,i2⟩
  by_cases c2:k<s.length
  · rw[List.drop_eq_getElem_cons c2,name_step] at i2
    have hk:=List.getElem?_eq_getElem c2
    rw[hB]
    generalize s[k]=b at *
    cases hb:nameL b with
    | true=>
      obtain⟨b1,b2⟩:=nameL_iff.1 hb
      rw[hb,Bool.true_and] at i2
      repeat(first|refine GA ?_|refine gV (rr_stridx (b:=b) Und.eq rfl rfl (by omega) hk) ?_)
      exact E_round (k+1) ⟨by omega,i2⟩ (by show s.length - (k+1)<s.length - k;omega) (by repeat' (first | exact True.intro | refine And.intro rfl ?_)) rfl
    | false=>
      rw[hb,Bool.false_and] at i2
      rw[←i2]
      by_cases b1:(b.toNat:Int)<97
      · repeat(first|refine GA ?_|refine gV (rr_stridx (b:=b) Und.eq rfl rfl (by omega) hk) ?_)
        exact E_ret1e rfl rfl rfl
      · have b2:(b.toNat:Int) > 122:=by
          by_cases b2:(b.toNat:Int) > 122
          · exact b2
          · rw[nameL_iff.2 ⟨b1,b2⟩] at hb;cases hb
        repeat(first|refine GA ?_|refine gV (rr_stridx (b:=b) Und.eq rfl rfl (by omega) hk) ?_)
        exact E_ret1e rfl rfl rfl
  · have e:k=s.length:=by omega
    subst e
    rw[List.drop_length] at i2
    rw[hB,←i2]
    try refine GA ?_
    exact E_ret1e rfl rfl rfl
def KeysOf (m:Bs→Option Value) (of:List Bs):Prop:=∀ y,(m y).isSome=decide (y∈of)
theorem keys_some {m:Bs→Option Value} {of:List Bs} {y:Bs} {v:Value} (h:KeysOf m of) (e:m y=some v):y∈of:=by
  have:=h y
  rw[e] at this
  exact of_decide_eq_true this.symm
theorem keys_none {m:Bs→Option Value} {of:List Bs} {y:Bs} (h:KeysOf m of) (e:m y=none):y∉of:=by
  have:=h y
  rw[e] at this
  exact of_decide_eq_false this.symm
theorem keys_put {m:Bs→Option Value} {of:List Bs} {x:Bs} {v:Value} (h:KeysOf m of):KeysOf (fun y=>if y=x then some v else m y) (of++[x]):=fun y=>by
  by_cases e:y=x
  · subst e;simp
  · dsimp only
    rw[if_neg e,h y]
    simp[e]
theorem zero_int1 (w:World):(zeroValue 3).run Try.prog w = .ok (.int .i64 0) w:=by kernel_rfl
def wordsS (gm:Nat) (r:Int×List Bs):Spec ((Bs→Option Value)×Nat):=⟨fun x=>KeysOf x.1 r.2∧x.2≤60,fun _=> .int .i64 r.1,fun x=>[mapO strK gm x.1 x.2]⟩
set_option maxHeartbeats 4000000 in
theorem words_calls (vw vr:Value) (l:List Wd) (gm:Nat) (w0:World) (hw:SlF wordS (Low w0) w0 vw l) (hl:l.length≤60) (w:World) (B:Base) (ho:Old w0 B) (hm:Mem B [mapO strK gm (fun _=>none) 0] w) :
    Calls Try.prog 19 #[.agg #[vw,vr],.map (some gm)] w (MeetsB (wordsS gm (wordsF l [])) B):=by
  obtain⟨bw,cw,rfl,-,-,hrd⟩:=hw
  have hnm:=fun s w=>named_calls s w
  refine enterB hm (args:=[.agg #[.slice bw l.length cw,vr],.map (some gm)]) (n:=49) Try.func19 rfl rfl rfl ?_
  refine T_seq (T_region (TL_box rfl rfl rfl fun g2 => ?_))
  conv=>arg 8;simp only[zA,zB,zC,zD,zE,zF,zG,zH,zI,rowS,ret,id_eq]
  repeat(first|refine GA ?_|refine gV (rr_load1 (v:= .slice bw l.length cw) TyC.ty rfl (at_blk (i:=1) rfl rfl)) ?_)
  refine T_pick [0] (by decide) rfl ?_
  generalize hfin:wordsF l []=fin
  refine T_loop (ι:=Nat×List Bs×(Bs→Option Value)×Nat) (fun (k,of,m,n)=>k≤l.length∧n≤k∧KeysOf m of∧wordsF (l.drop k) of=fin) (fun (k,_,_,_)=>[(1,.map (some gm)),(11,.slice bw l.length cw),(12,.int .i64 l.length),(13,.int .i64 (k:Int))]) (fun (_,_,m,n)=>[mapO strK gm m n]) (fun (k,_)=>l.length - k) (0,[],fun _=>none,0) ⟨Nat.zero_le _,Nat.le_refl _,fun y=>rfl,hfin⟩ (by repeat' (first | exact True.intro | refine And.intro rfl ?_)) rfl ?_
  clear hm hfin
  rintro⟨k,of,m,n⟩ ⟨i1,i2,i3,i4⟩
  dsimp only at i1 i2 i3 i4 ⊢
  by_cases c1:k<l.length
  · obtain⟨b,off,rfl,_,hr⟩:=hrd (by omega)
    obtain⟨bk,ck,q1,q2,q3⟩:=word_at hr c1
    rw[List.drop_eq_getElem_cons c1,wordsF] at i4
    have hat:∀ (L:List Own) (j:Nat) (u:Value),(wdC l[k].1 l[k].2.kind l[k].2.cls (.slice bk l[k].2.kids.length ck))[j]?=some u→At B L ⟨b,off+k*7+j,none⟩ u:=fun L j u hj=>at_old0 ho (q1 j u hj)
    have hck:=fun w' (hg:Gr w0 w')=>rexCheck_calls _ _ w' (q2.gr hg)
    clear hr hrd q1 q2
    generalize l[k]=wd at *
    obtain⟨nm,r⟩:=wd
    dsimp only at *
    generalize chkX r=er at *
    generalize r.kind=rk at *
    generalize r.cls=rc at *
    generalize r.kids.length=rn at *
    repeat(first|refine GA ?_|refine gV (rr_idxc Und.eq TyC.ty rfl rfl c1) ?_|refine gV (rr_loadN (cs:=wdC nm rk rc (.slice bk rn ck)) TyC.ty rfl rfl (hat _)) ?_)
    clear hat
    refine TL_new rfl fun g6 => ?_
    conv=>arg 8;simp only[zA,zB,zC,zD,zE,zF,zG,zH,zI,rowS,ret,id_eq]
    try refine GA ?_
    refine TL_storeB (i:=1) (cs':=(wdC nm rk rc (.slice bk rn ck)).toArray) rfl rfl rfl rfl rfl rfl ?_
    conv=>arg 8;simp only[zA,zB,zC,zD,zE,zF,zG,zH,zI,rowS,ret,id_eq]
    repeat(first|refine GA ?_|refine gV (rr_load1 (v:=str nm) TyC.ty rfl (at_blk (i:=1) rfl rfl)) ?_)
    by_cases e0:nm=[]
    · subst e0
      rw[if_neg (fun h=>h.1 rfl)] at i4
      repeat(first|refine GC ?_|refine gV (rr_strne (b:=false) rfl rfl rfl) ?_|refine gV (rr_loadN (cs:=rexC rk rc (.slice bk rn ck)) TyC.ty rfl rfl (fun j v hj=>at_blk (i:=1) rfl (wd_rex hj))) ?_|refine GB ?_)
      refine TL_call (he1 EntersC.en rfl rfl) (fun w hm=>hck _ (ho.mem hm)) rfl rfl rfl ?_
      intro _ _
      conv=>arg 8;simp only[zA,zB,zC,zD,zE,zF,zG,zH,zI,rowS,ret,id_eq]
      by_cases e1:er=0
      · subst e1
        rw[if_neg (by simp)] at i4
        repeat(first|refine GA ?_|refine gV (rr_load1 (v:=str []) TyC.ty rfl (at_blk (i:=1) rfl rfl)) ?_)
        cases hmn:m [] with
        | some v=>
          have hin:=keys_some i3 hmn
          rw[if_pos hin] at i4
          repeat(first|refine GA ?_|refine gV (rr_load1 (v:=str []) TyC.ty rfl (at_blk (i:=1) rfl rfl)) ?_|refine gV (rr_lookOkS strK (x:=([]:Bs)) Und.eq zero_int1 (i:=0) rfl rfl rfl q3 hmn) ?_)
          subst i4
          exact E_ret1 rfl rfl fun w hm=>hm.meetsB (S:=wordsS gm _) (m,n) ⟨i3,by show n≤60;omega⟩ [0] (by decide) rfl
        | none=>
          have hin:=keys_none i3 hmn
          rw[if_neg hin,if_pos rfl] at i4
          repeat(first|refine GC ?_|refine gV (rr_load1 (v:=str []) TyC.ty rfl (at_blk (i:=1) rfl rfl)) ?_|refine gV (rr_lookOkN strK (x:=([]:Bs)) Und.eq zero_int1 (i:=0) rfl rfl rfl q3 hmn) ?_|refine gV (rr_strne (b:=false) rfl rfl rfl) ?_|refine GB ?_)
          refine E_pick [0] (by decide) rfl ?_
          exact E_round (k+1,of,m,n) ⟨by omega,by show n≤k+1;omega,i3,i4⟩ (by show l.length - (k+1)<l.length - k;omega) (by repeat' (first | exact True.intro | refine And.intro rfl ?_)) rfl
      · rw[if_pos e1] at i4
        repeat(first|refine GC ?_|refine gV (rr_neq (b:=true) rfl rfl (decide_eq_true e1)) ?_|refine GB ?_)
        subst i4
        exact E_ret1 rfl rfl fun w hm=>hm.meetsB (S:=wordsS gm _) (m,n) ⟨i3,by show n≤60;omega⟩ [0] (by decide) rfl
    · repeat(first|refine GC ?_|refine gV (rr_strne (b:=true) rfl rfl (decide_eq_true e0)) ?_|refine gV (rr_load1 (v:=str nm) TyC.ty rfl (at_blk (i:=1) rfl rfl)) ?_|refine GB ?_)
      refine TL_gcall (he1 EntersC.en rfl rfl) (fun w hm=>hnm nm w) rfl rfl rfl rfl rfl ?_
      intro _ _
      conv=>arg 8;simp only[zA,zB,zC,zD,zE,zF,zG,zH,zI,rowS,ret,id_eq]
      cases hb:namedB nm with
      | false=>
        rw[if_pos ⟨e0,hb⟩] at i4
        try refine GA ?_
        subst i4
        exact E_ret1 rfl rfl fun w hm=>hm.meetsB (S:=wordsS gm _) (m,n) ⟨i3,by show n≤60;omega⟩ [0] (by decide) rfl
      | true=>
        rw[if_neg (fun h=>by rw[hb] at h;cases h.2)] at i4
        repeat(first|refine GA ?_|refine gV (rr_loadN (cs:=rexC rk rc (.slice bk rn ck)) TyC.ty rfl rfl (fun j v hj=>at_blk (i:=1) rfl (wd_rex hj))) ?_)
        refine TL_call (he1 EntersC.en rfl rfl) (fun w hm=>hck _ (ho.mem hm)) rfl rfl rfl ?_
        intro _ _
        conv=>arg 8;simp only[zA,zB,zC,zD,zE,zF,zG,zH,zI,rowS,ret,id_eq]
        by_cases e1:er=0
        · subst e1
          rw[if_neg (by simp)] at i4
          repeat(first|refine GA ?_|refine gV (rr_load1 (v:=str nm) TyC.ty rfl (at_blk (i:=1) rfl rfl)) ?_)
          cases hmn:m nm with
          | some v=>
            have hin:=keys_some i3 hmn
            rw[if_pos hin] at i4
            repeat(first|refine GA ?_|refine gV (rr_load1 (v:=str nm) TyC.ty rfl (at_blk (i:=1) rfl rfl)) ?_|refine gV (rr_lookOkS strK (x:=nm) Und.eq zero_int1 (i:=0) rfl rfl rfl q3 hmn) ?_)
            subst i4
            exact E_ret1 rfl rfl fun w hm=>hm.meetsB (S:=wordsS gm _) (m,n) ⟨i3,by show n≤60;omega⟩ [0] (by decide) rfl
          | none=>
            have hin:=keys_none i3 hmn
            rw[if_neg hin,if_neg e0] at i4
            repeat(first|refine GC ?_|refine gV (rr_load1 (v:=str nm) TyC.ty rfl (at_blk (i:=1) rfl rfl)) ?_|refine gV (rr_lookOkN strK (x:=nm) Und.eq zero_int1 (i:=0) rfl rfl rfl q3 hmn) ?_|refine gV (rr_strne (b:=true) rfl rfl (decide_eq_true e0)) ?_|refine GB ?_)
            refine TL_mapSet (i:=0) (x:=nm) (v:= .int .i64 (k:Int)) strK Und.eq rfl rfl rfl rfl q3 (by omega) ?_
            conv=>arg 8;simp only[zA,zB,zC,zD,zE,zF,zG,zH,zI,rowS,ret,id_eq]
            try refine GA ?_
            refine E_pick [0] (by decide) rfl ?_
            exact E_round (k+1,of++[nm],_,_) ⟨by omega,by rw[hmn];show n+1≤k+1;omega,keys_put i3,i4⟩ (by show l.length - (k+1)<l.length - k;omega) (by repeat' (first | exact True.intro | refine And.intro rfl ?_)) rfl
        · rw[if_pos e1] at i4
          repeat(first|refine GC ?_|refine gV (rr_neq (b:=true) rfl rfl (decide_eq_true e1)) ?_|refine GB ?_)
          subst i4
          exact E_ret1 rfl rfl fun w hm=>hm.meetsB (S:=wordsS gm _) (m,n) ⟨i3,by show n≤60;omega⟩ [0] (by decide) rfl
  · obtain rfl:k=l.length:=by omega
    rw[List.drop_length] at i4
    try refine GA ?_
    subst i4
    exact E_ret1 rfl rfl fun w hm=>hm.meetsB (S:=wordsS gm _) (m,n) ⟨i3,by show n≤60;omega⟩ [0] (by decide) rfl
end Go.Proofs.Ytldiodhdefnlaaa.eng

/- SmO -/
namespace Go.Proofs.Ytldiodhdefnlaaa.eng
open Go.RowKit kit mix dfaL smallL
def rowC (r:Row):List Value:=r.toList.map (.int .i16)
theorem rowC_len (r:Row):(rowC r).length=256:=by simp[rowC]
theorem rowC_get (r:Row) {b:Nat} (hb:b<256):(rowC r)[b]?=some (.int .i16 r[b]):=by
  unfold rowC
  rw[List.getElem?_map,List.getElem?_eq_getElem (by simpa using hb),Vector.getElem_toList];rfl
theorem row_one (l:List Row):∀ u∈l.flatMap rowC,u.oneCell'=true:=by
  intro u hu
  obtain⟨x,_,h⟩:=List.mem_flatMap.1 hu
  obtain⟨n,_,rfl⟩:=List.mem_map.1 h
  rfl
theorem row_one1 (r:Row):(rowC r).all Value.oneCell'=true:=List.all_eq_true.2 fun u hu=>row_one [r] u (by simpa using hu)
def dfaV (vr vt:Value):Value:= .agg #[vr,vt]
def row0:Row:=Vector.replicate 256 0
structure DfaM (w:World) (vr vt:Value) (R:List Row) (tags:List Int):Prop where
  hR:Sl w vr R.length (R.flatMap rowC)
  hT:Sl w vt tags.length (tags.flatMap kit.intC)
  rng:∀ r∈R,∀ x∈r.toList,-32768≤x∧x≤32767
  okT:∀ x∈tags,kit.okI64 x
theorem DfaM.gr {w w':World} {vr vt:Value} {R:List Row} {tags:List Int} (h:DfaM w vr vt R tags) (hg:Gr w w'):DfaM w' vr vt R tags:=⟨h.hR.gr hg,h.hT.gr hg,h.rng,h.okT⟩
theorem DfaM.isDfa {w:World} {vr vt:Value} {R:List Row} {tags:List Int} (h:DfaM w vr vt R tags):IsDfa w (dfaV vr vt) (R.map Vector.toList) tags:=by
  refine⟨vr,vt,rfl,?_,?_,fun r hr=>by obtain⟨x,_,rfl⟩:=List.mem_map.1 hr;simp⟩
  · obtain⟨base,cap,h1,h2,h3,h4⟩:=h.hR
    refine⟨base,cap,by rw[List.length_map];exact h1,by rw[List.length_map];exact h2,h3,fun h0 => ?_⟩
    rw[List.length_map] at h0
    obtain⟨b,off,h5,h6⟩:=h4 h0
    refine⟨b,off,h5,fun i hi => ?_⟩
    have hi':i<R.length:=by simpa using hi
    refine⟨rowC R[i],⟨by simp,by simp[rowC],fun x hx=>h.rng R[i] (List.getElem_mem hi') x (by simpa using hx)⟩,fun j u hj => ?_⟩
    have hjl:j<256:=by have:=(List.getElem?_eq_some_iff.1 hj).1;rwa [rowC_len] at this
    have:=h6 (i*256+j) u (by rw[get_el rowC_len R i j hi' hjl];exact hj)
    rw[Nat.add_assoc];exact this
  · obtain⟨base,cap,h1,h2,h3,h4⟩:=h.hT
    refine⟨base,cap,h1,h2,h3,fun h0 => ?_⟩
    obtain⟨b,off,h5,h6⟩:=h4 h0
    refine⟨b,off,h5,fun i hi=>⟨[.int .i64 tags[i]],⟨rfl,h.okT _ (List.getElem_mem hi)⟩,fun j u hj => ?_⟩⟩
    have hj0:j=0:=by have:=(List.getElem?_eq_some_iff.1 hj).1;simpa using this
    subst hj0
    rw[Nat.mul_one,Nat.add_zero]
    refine h6 i u ?_
    rw[show tags.flatMap kit.intC=tags.map (.int .i64) from kit.flat1 tags,List.getElem?_map,List.getElem?_eq_getElem hi]
    exact hj
def aut (R:List Row) (tags:List Int):Aut:=⟨R.length,fun i b=>(R.getD i row0).toList.getD b 0,fun i=>tags.getD i 0⟩
def chk (R:List Row) (tags:List Int):Int:=checkF (R.map Vector.toList) tags
theorem rows_getD (R:List Row) {i:Nat} (hi:i<R.length):(R.map Vector.toList).getD i []=(R.getD i row0).toList:=by
  rw[List.getD_eq_getElem?_getD,List.getElem?_map,List.getD_eq_getElem?_getD,List.getElem?_eq_getElem hi];rfl
theorem chk_ok {R:List Row} {tags:List Int} (h:chk R tags=0):(aut R tags).Ok∧tags.length=R.length:=by
  obtain⟨h1,h2,h3,h4⟩:=check_ok h
  rw[List.length_map] at h1 h2 h3 h4
  refine⟨⟨h2,h1,fun i hi b hb => ?_,fun i hi => ?_⟩,h3⟩
  · have:=(h4 i hi).2.2
    rw[rows_getD R hi] at this
    refine this _ ?_
    show (R.getD i row0).toList.getD b 0∈_
    rw[List.getD_eq_getElem?_getD (l:=(R.getD i row0).toList),List.getElem?_eq_getElem (by simpa using hb)]
    exact List.getElem_mem _
  · have:=h4 i hi
    exact⟨this.1,this.2.1⟩
theorem ok_chk {R:List Row} {tags:List Int} (h:(aut R tags).Ok) (hl:tags.length=R.length):chk R tags=0:=by
  have h1:R.length≤200:=h.le
  have h2:0<R.length:=h.pos
  unfold chk checkF
  rw[List.length_map,if_neg (by omega),if_neg (by omega),if_neg]
  simp only[List.any_eq_true,List.mem_range,not_exists,not_and]
  intro i hi
  have ht:=h.tags i hi
  have hs:=h.step i hi
  rw[rows_getD R hi]
  simp only[rowBad,Bool.or_eq_true,decide_eq_true_eq,List.any_eq_true,not_or,not_exists,not_and]
  refine⟨⟨?_,?_⟩,fun t ht' => ?_⟩
  · show ¬ tags.getD i 0 < -1
    have : -1≤tags.getD i 0:=ht.1
    omega
  · have:tags.getD i 0<20:=ht.2
    omega
  · obtain⟨b,hb,rfl⟩:=List.mem_iff_getElem.1 ht'
    have hb':b<256:=by simpa using hb
    have:=hs b hb'
    have e:(aut R tags).d i b=(R.getD i row0).toList[b]:=by
      show (R.getD i row0).toList.getD b 0=_
      rw[List.getD_eq_getElem?_getD (l:=(R.getD i row0).toList),List.getElem?_eq_getElem hb];rfl
    rw[e] at this
    have e2:(aut R tags).n=R.length:=rfl
    omega
def tagF (R:List Row) (tags:List Int) (s:List UInt8):Int×Int:=if chk R tags=0 then (tg (aut R tags) (go (aut R tags) 0 s),0) else (0,chk R tags)
end Go.Proofs.Ytldiodhdefnlaaa.eng

/- SmT -/
namespace Go.Proofs.Ytldiodhdefnlaaa.eng
open Go.RowKit kit mix dfaL smallL
theorem aut_tag {R:List Row} {tags:List Int} {i:Nat} (h:i<tags.length):(aut R tags).tag i=tags[i]:=by
  show tags.getD i 0=_
  rw[List.getD_eq_getElem?_getD,List.getElem?_eq_getElem h];rfl
theorem aut_d {R:List Row} {tags:List Int} {i b:Nat} (h:i<R.length) (hb:b<256):(aut R tags).d i b=(R[i])[b]:=by
  show (R.getD i row0).toList.getD b 0=_
  rw[List.getD_eq_getElem?_getD (l:=R),List.getElem?_eq_getElem h,Option.getD_some,List.getD_eq_getElem?_getD,List.getElem?_eq_getElem (by simpa using hb),Option.getD_some,Vector.getElem_toList]
theorem row_set (r:Row) {b:Nat} (hb:b<256) (x:Int):(rowC r).toArray.setIfInBounds b (.int .i16 x)=(rowC (r.set b x)).toArray:=by
  unfold rowC
  rw[Vector.toList_set,List.map_set];simp
theorem TL_storeV {P:Program} {n:Nat} {W:Base} {fr:Fr} {L:List Own} {Q:Exit→Act→World→Prop} {ops:Array Oper} {rest:List Oper} {ty:TypeId} {pos:String} {after:Array Edge} {t:TypeId} {p x:Operand} {i g b:Nat} {r:Row} {T:TypeId} {agg:Bool} {z:Int} [hT:TyC P t agg 1] (hi:L[i]?=some (blkO g (rowC r).toArray T)) (hp:ev fr p=some (.pointer (some ⟨g,0+b,none⟩))) (hx:ev fr x=some (.int .i16 z)) (hb:b<256)
    (h:TL P n W ops Q rest fr (L.set i (blkO g (rowC (r.set b z)).toArray T))):TL P n W ops Q (⟨none,.store t p x,ty,pos,after,none⟩::rest) fr L:=by
  rw[Nat.zero_add] at hp
  refine TL_store1 hi hp hx rfl rfl ?_ ?_
  · rw[List.size_toArray,rowC_len];exact Nat.blt_eq ▸ hb
  · rw[row_set r hb];exact h
def fillR (x y:Int) (b:Nat):Row:=Vector.ofFn fun i:Fin 256=>if i<b then x else y
theorem fillR_set (x y:Int) (b:Nat) (hb:b<256):(fillR x y b).set b x=fillR x y (b+1):=by
  refine Vector.ext fun i hi => ?_
  unfold fillR
  rw[Vector.getElem_set,Vector.getElem_ofFn,Vector.getElem_ofFn]
  split
  · rename_i e;subst e;simp
  · have:i<b↔i<b+1:=by omega
    simp only[this]
theorem fillR_0 (x y:Int):fillR x y 0=Vector.replicate 256 y:=by
  refine Vector.ext fun i hi => ?_
  unfold fillR;simp
theorem fillR_all (x y:Int):fillR x y 256=Vector.replicate 256 x:=by
  refine Vector.ext fun i hi => ?_
  unfold fillR;simp[hi]
theorem zero_row:(List.replicate 256 (Value.int .i16 0)).toArray=(rowC (Vector.replicate 256 0)).toArray:=by
  unfold rowC
  rw[Vector.toList_replicate,List.map_replicate]
def rowV (r:Row):Value:= .agg (rowC r).toArray
set_option maxHeartbeats 2000000 in
theorem smAll_calls (x:Int) (w:World):Calls Try.prog 42 #[.int .i16 x] w (Meets (ret (rowV (Vector.replicate 256 x))) w):=by
  refine enter (args:=[.int .i16 x]) (n:=13) Try.func42 rfl rfl rfl ?_
  refine T_seq (T_region (TL_new rfl fun g => ?_))
  try refine GA ?_
  refine TL_new rfl fun g3 => ?_
  conv=>arg 8;simp only[zA,zB,zC,zD,zE,zF,zG,zH,zI,rowS,ret,id_eq]
  rw[zero_row]
  try refine GA ?_
  rw[←fillR_0 x 0]
  refine T_loop (ι:=Nat) (fun b=>b≤256) (fun b=>[(0,.int .i16 x),(2,.pointer (some ⟨g,0,none⟩)),(3,.pointer (some ⟨g3,0,none⟩)),(5,.int .i64 (b:Int))]) (fun b=>[blkO g (rowC (fillR x 0 0)).toArray 138,blkO g3 (rowC (fillR x 0 b)).toArray 138]) (fun b=>256 - b) 0 (Nat.zero_le _) (by repeat' (first | exact True.intro | refine And.intro rfl ?_)) rfl ?_
  intro b hb
  by_cases c:b<256
  · repeat(first|refine GA ?_|refine gV (rr_aidx1 Und.eq TyC.ty rfl rfl c) ?_)
    refine TL_storeV (i:=1) rfl rfl rfl c ?_
    rw[fillR_set x 0 b c]
    conv=>arg 8;simp only[zA,zB,zC,zD,zE,zF,zG,zH,zI,rowS,ret,id_eq]
    try refine GA ?_
    exact E_round (b+1) (by omega) (by show 256 - (b+1)<256 - b;omega) (by repeat' (first | exact True.intro | refine And.intro rfl ?_)) rfl
  · obtain rfl:b=256:=by omega
    rw[fillR_all]
    repeat(first|refine GA ?_|refine gV (rr_loadB (i:=1) TyC.ty rfl rfl (by rw[List.size_toArray,rowC_len])) ?_)
    refine TL_storeB (i:=0) rfl rfl rfl (by rw[List.size_toArray,rowC_len]) (by have:=row_one1 (Vector.replicate 256 x);simpa using this) (by rw[List.size_toArray,rowC_len]) ?_
    conv=>arg 8;simp only[zA,zB,zC,zD,zE,zF,zG,zH,zI,rowS,ret,id_eq]
    try refine GA ?_
    exact E_retc1 (i:=0) rfl rfl rfl (by rw[List.size_toArray,rowC_len]) fun w hm=>hm.ret
end Go.Proofs.Ytldiodhdefnlaaa.eng

/- SmK -/
namespace Go.Proofs.Ytldiodhdefnlaaa.eng
open Go.RowKit kit mix smallL
def kindC (k:Kind):List Value:= .int .i64 k.1::rowC k.2
def kindV (k:Kind):Value:= .agg (kindC k).toArray
theorem kindC_len (k:Kind):(kindC k).length=257:=by simp[kindC,rowC_len]
def rowOk (r:Row):Prop:=∀ (b:Nat) (h:b<256),(-32768:Int)≤r[b]∧r[b]≤32767
theorem rowC_inj {r r':Row} (h:rowC r=rowC r'):r=r':=by
  refine Vector.ext fun b hb => ?_
  have h1:=rowC_get r hb
  rw[h,rowC_get r' hb] at h1
  simp at h1;exact h1.symm
theorem kl_row {r:Row} (h:rowOk r) (d:Nat):KL Try.prog (d+2) 138 (rowC r):=by
  have e2:Try.prog.cellsOf 138 = 256:=by kernel_rfl
  have e3:Try.prog.cellsOf 136 = 1:=by kernel_rfl
  refine kl_arr (d:=d+1) Try.underlying138 (by rw[rowC_len,e2]) fun i hi => ?_
  have hc:((rowC r).drop (i*Try.prog.cellsOf 136)).take (Try.prog.cellsOf 136)=[.int .i16 r[i]]:=by
    rw[e3,Nat.mul_one]
    have hl:i<(rowC r).length:=by rw[rowC_len];exact hi
    rw[List.drop_eq_getElem_cons hl]
    have:=rowC_get r hi
    rw[List.getElem?_eq_getElem hl] at this
    rw[Option.some.inj this];rfl
  rw[hc]
  exact kl_int Try.underlying136 (h i hi).1 (h i hi).2
set_option maxRecDepth 100000 in
theorem kind_key (k:Kind) (h:kit.okI64 k.1∧rowOk k.2):∃ l,keyOf Try.prog 170 (kindV k)=some l:=by
  have e1:Try.prog.cellsOf 170 = 257:=by kernel_rfl
  have e2:Try.prog.cellsOf 138 = 256:=by kernel_rfl
  have e3:Try.prog.cellsOf 3 = 1:=by kernel_rfl
  refine key_ex (m:=3) (by kernel_rfl) (by kernel_rfl) (by rw[kindC_len,e1]) (trySize 3 (by kernel_rfl)) fun d => ?_
  refine kl_struct (d:=d+2) Try.underlying170 (by rw[kindC_len,e1]) (by kernel_rfl) fun f hf => ?_
  simp only[List.mem_cons,List.not_mem_nil,or_false] at hf
  rcases hf with rfl | rfl
  · rw[e3]
    exact kl_int (d:=d+1) Try.underlying3 h.1.1 h.1.2
  · show KL Try.prog (d+2) 138 (((kindC k).drop 1).take (Try.prog.cellsOf 138))
    rw[e2]
    have:((kindC k).drop 1).take 256=rowC k.2:=by
      show (rowC k.2).take 256=_
      rw[List.take_of_length_le (by rw[rowC_len];omega)]
    rw[this]
    exact kl_row h.2 d
theorem kindRow:(170 : TypeId)<Try.prog.types.size:=of_decide_eq_true (by kernel_rfl)
set_option maxRecDepth 100000 in
def kindK:KeyT Try.prog 170 Kind where
  kv:=kindV
  ok k:=kit.okI64 k.1∧rowOk k.2
  law:=deep_law_laid tryLaid (m:=3) (by omega) kindRow (by kernel_rfl) (by kernel_rfl)
  key x h:=kind_key x h
  inj x y h:=by
    simp only[kindV,Value.agg.injEq,Array.mk.injEq,kindC,List.cons.injEq,Value.int.injEq,true_and] at h
    exact Prod.ext h.1 (rowC_inj h.2)
abbrev Col:=Vector Int 200
def colC (c:Col):List Value:=c.toList.map (.int .i16)
def colV (c:Col):Value:= .agg (colC c).toArray
theorem colC_len (c:Col):(colC c).length=200:=by simp[colC]
theorem colC_get (c:Col) {b:Nat} (hb:b<200):(colC c)[b]?=some (.int .i16 c[b]):=by
  unfold colC
  rw[List.getElem?_map,List.getElem?_eq_getElem (by simpa using hb),Vector.getElem_toList];rfl
def colOk (c:Col):Prop:=∀ (b:Nat) (h:b<200),(-32768:Int)≤c[b]∧c[b]≤32767
set_option maxRecDepth 100000 in
theorem col_key (c:Col) (h:colOk c):∃ l,keyOf Try.prog 145 (colV c)=some l:=by
  have e2:Try.prog.cellsOf 145 = 200:=by kernel_rfl
  have e3:Try.prog.cellsOf 136 = 1:=by kernel_rfl
  refine key_ex (m:=2) (by kernel_rfl) (by kernel_rfl) (by rw[colC_len,e2]) (trySize 2 (by kernel_rfl)) fun d => ?_
  refine kl_arr (d:=d+1) Try.underlying145 (by rw[colC_len,e2]) fun i hi => ?_
  have hc:((colC c).drop (i*Try.prog.cellsOf 136)).take (Try.prog.cellsOf 136)=[.int .i16 c[i]]:=by
    rw[e3,Nat.mul_one]
    have hl:i<(colC c).length:=by rw[colC_len];exact hi
    rw[List.drop_eq_getElem_cons hl]
    have:=colC_get c hi
    rw[List.getElem?_eq_getElem hl] at this
    rw[Option.some.inj this];rfl
  rw[hc]
  exact kl_int Try.underlying136 (h i hi).1 (h i hi).2
theorem colRow:(145 : TypeId)<Try.prog.types.size:=of_decide_eq_true (by kernel_rfl)
set_option maxRecDepth 100000 in
def colK:KeyT Try.prog 145 Col where
  kv:=colV
  ok:=colOk
  law:=deep_law_laid tryLaid (m:=2) (by omega) colRow (by kernel_rfl) (by kernel_rfl)
  key x h:=col_key x h
  inj x y h:=by
    simp only[colV,Value.agg.injEq,Array.mk.injEq] at h
    refine Vector.ext fun b hb => ?_
    have h1:=colC_get x hb
    rw[h,colC_get y hb] at h1
    simp at h1;exact h1.symm
theorem zeroI (w:World):(zeroValue 3).run Try.prog w = .ok (.int .i64 0) w:=by kernel_rfl
end Go.Proofs.Ytldiodhdefnlaaa.eng

/- SmW -/
namespace Go.Proofs.Ytldiodhdefnlaaa.eng
open Go.RowKit kit mix dfaL smallL
set_option maxRecDepth 100000 in
theorem build_dead (w:World):(Instr.build 170 #[(1,rowV (Vector.replicate 256 0))]).run Try.prog w = .ok (kindV dead) w:=by kernel_rfl
set_option maxRecDepth 100000 in
theorem build_kind (x:Int) (w:World):(Instr.build 170 #[(0,.int .i64 x)]).run Try.prog w = .ok (kindV (x,Vector.replicate 256 0)) w:=by kernel_rfl
theorem wrap16 {x:Int} (h0 : -32768≤x) (h1:x≤32767):IntKind.i16.wrap x=x:=by
  simp only[IntKind.wrap,IntKind.bits,IntKind.signed]
  simp
  omega
abbrev intU (x:Int):Value:= .int .i64 x
theorem kind_set (x:Int) (r:Row) {b:Nat} (hb:b<256) (y:Int):(kindC (x,r)).toArray.setIfInBounds (1+b) (.int .i16 y)=(kindC (x,r.set b y)).toArray:=by
  have e:1+b=b+1:=by omega
  unfold kindC
  rw[e,List.setIfInBounds_toArray,List.set_cons_succ]
  have:=row_set r hb y
  rw[List.setIfInBounds_toArray] at this
  have h2:(rowC r).set b (.int .i16 y)=rowC (r.set b y):=by simpa using this
  rw[h2]
section
variable {P:Program} {n:Nat} {W:Base} {fr:Fr} {L:List Own} {Q:Exit→Act→World→Prop} {ops:Array Oper} {rest:List Oper} {ty:TypeId} {pos:String} {after:Array Edge}
theorem TL_storeK {t:TypeId} {p x:Operand} {i g b:Nat} {y:Int} {r:Row} {T:TypeId} {agg:Bool} {z:Int} [hT:TyC P t agg 1] (hi:L[i]?=some (blkO g (kindC (y,r)).toArray T)) (hp:ev fr p=some (.pointer (some ⟨g,1+b,none⟩))) (hx:ev fr x=some (.int .i16 z)) (hb:b<256)
    (h:TL P n W ops Q rest fr (L.set i (blkO g (kindC (y,r.set b z)).toArray T))):TL P n W ops Q (⟨none,.store t p x,ty,pos,after,none⟩::rest) fr L:=by
  refine TL_store1 hi hp hx rfl rfl ?_ ?_
  · rw[List.size_toArray,kindC_len];exact Nat.blt_eq ▸ (by omega:1+b<257)
  · rw[kind_set y r hb];exact h
end
def kRow (A:Aut) (now:Nat→Nat) (i b:Nat):Row:=Vector.ofFn fun j:Fin 256=>if j<b then (val now (A.d i j):Int) else 0
theorem kRow_0 (A:Aut) (now:Nat→Nat) (i:Nat):kRow A now i 0=Vector.replicate 256 0:=by
  refine Vector.ext fun j hj => ?_
  unfold kRow;simp
theorem kRow_all (A:Aut) (now:Nat→Nat) (i:Nat):((now i:Int),kRow A now i 256)=kind A now i:=by
  refine Prod.ext rfl (Vector.ext fun j hj => ?_)
  unfold kRow kind;simp[hj]
theorem kRow_set (A:Aut) (now:Nat→Nat) (i b:Nat) (hb:b<256):(kRow A now i b).set b (val now (A.d i b):Int)=kRow A now i (b+1):=by
  refine Vector.ext fun j hj => ?_
  unfold kRow
  rw[Vector.getElem_set,Vector.getElem_ofFn,Vector.getElem_ofFn]
  split
  · rename_i e;subst e;simp
  · have:j<b↔j<b+1:=by omega
    simp only[this]
theorem kRow_skip (A:Aut) (now:Nat→Nat) (i b:Nat) (hb:b<256) (h0:val now (A.d i b)=0):kRow A now i b=kRow A now i (b+1):=by
  rw[←kRow_set A now i b hb,h0]
  refine Vector.ext fun j hj => ?_
  rw[Vector.getElem_set]
  split
  · rename_i e;subst e;unfold kRow;simp
  · rfl
structure Rounds (A:Aut) (f n:Nat) (now:Nat→Nat):Prop where
  eq:blocksF A=blkGo A f n now
  rd:n=0∨Round A n now
  le:n≤A.n+1
  fuel:A.n+2≤f+n
  lim:∀ i,i<A.n→now i≤200
theorem rounds0 {A:Aut} (hA:A.Ok):Rounds A (A.n+2) 0 (now0 A):=⟨rfl,.inl rfl,Nat.zero_le _,by omega,fun i hi=>by unfold now0;have:=hA.tags i hi;omega⟩
theorem rounds_next {A:Aut} (hA:A.Ok) {f n:Nat} {now:Nat→Nat} (h:Rounds A f n now):∃ f',f=f'+1∧((tab A now).length=n→blocksF A=next A now)∧((tab A now).length≠n→Rounds A f' (tab A now).length (next A now)):=by
  have h1:=h.le
  have h2:=h.fuel
  obtain⟨f',rfl⟩:∃ f',f=f'+1:=⟨f - 1,by omega⟩
  have e:=h.eq
  unfold blkGo at e
  refine⟨f',rfl,fun hc=>by rw[e,if_pos hc],fun hc=>⟨by rw[e,if_neg hc],.inr ⟨now,rfl,rfl⟩,tab_le now,?_,fun i hi => ?_⟩⟩
  · have hp:=tab_pos (A:=A) now
    rcases h.rd with rfl | hr
    · omega
    · have:=(round_mono hr).1;omega
  · have:=val_next_lt (A:=A) (now:=now) (q:=(i:Int)) (by omega)
    rw[val_nat] at this
    have h3:=tab_le (A:=A) now
    have h4:=hA.le
    omega
theorem val_lim {A:Aut} {now:Nat→Nat} (h:∀ i,i<A.n→now i≤200) {q:Int} (hq:St A q):val now q≤200:=by
  unfold val
  split
  · omega
  · exact h _ (by unfold St at hq;omega)
theorem kind_ok {A:Aut} (hA:A.Ok) {now:Nat→Nat} (h:∀ i,i<A.n→now i≤200) {i:Nat} (hi:i<A.n):kit.okI64 (kind A now i).1∧rowOk (kind A now i).2:=by
  refine⟨?_,fun b hb => ?_⟩
  · have:=h i hi
    show kit.okI64 (now i:Int)
    exact⟨by omega,by omega⟩
  · have:=val_lim h (hA.step i hi b hb)
    unfold kind
    rw[Vector.getElem_ofFn]
    show -32768≤(val now (A.d i b):Int)∧(val now (A.d i b):Int)≤32767
    omega
def tabTo (A:Aut) (now:Nat→Nat) (i:Nat):List Kind:=firsts [dead] ((kinds A now).take i)
theorem tabTo_all (A:Aut) (now:Nat→Nat):tabTo A now A.n=tab A now:=by unfold tabTo tab;rw[List.take_of_length_le (by simp[kinds])]
theorem kinds_get (A:Aut) (now:Nat→Nat) {i:Nat} (hi:i<A.n):∃ h:i<(kinds A now).length,(kinds A now)[i]=kind A now i:=⟨by simpa[kinds] using hi,by simp[kinds]⟩
theorem tab_old (A:Aut) (now:Nat→Nat) {i:Nat} (hi:i<A.n) (h:kind A now i∈tabTo A now i):tabTo A now (i+1)=tabTo A now i∧next A now i=idx (tabTo A now i) (kind A now i):=by
  obtain⟨hl,e⟩:=kinds_get A now hi
  have h2:=idx_at (D:=[dead]) hl
  unfold tabTo at h
  rw[e,if_pos h] at h2
  refine⟨?_,h2⟩
  unfold tabTo
  rw[List.take_succ_eq_append_getElem hl,firsts_snoc,e,more,if_pos]
  exact h
theorem tab_new (A:Aut) (now:Nat→Nat) {i:Nat} (hi:i<A.n) (h:kind A now i∉tabTo A now i):tabTo A now (i+1)=tabTo A now i++[kind A now i]∧next A now i=(tabTo A now i).length:=by
  obtain⟨hl,e⟩:=kinds_get A now hi
  have h2:=idx_at (D:=[dead]) hl
  unfold tabTo at h
  rw[e,if_neg h] at h2
  refine⟨?_,h2⟩
  unfold tabTo
  rw[List.take_succ_eq_append_getElem hl,firsts_snoc,e,more,if_neg]
  exact h
theorem tabTo_le (A:Aut) (now:Nat→Nat) (i:Nat):(tabTo A now i).length≤A.n+1:=by
  have h:=tab_le (A:=A) now
  have e:kinds A now=(kinds A now).take i++(kinds A now).drop i:=(List.take_append_drop _ _).symm
  have hap:∀ (a b D:List Kind),firsts D (a++b)=firsts (firsts D a) b:=by
    intro a
    induction a with
    | nil=>intro b D;rfl
    | cons x a ih=>intro b D;exact ih b _
  obtain⟨E,h2⟩:=firsts_pre ((kinds A now).drop i) (tabTo A now i)
  have h3:tab A now=tabTo A now i++E:=by
    unfold tab
    rw[e,hap];exact h2
  rw[h3,List.length_append] at h
  omega
set_option maxRecDepth 100000 in
set_option maxHeartbeats 4000000 in
theorem blocks_calls (vr vt:Value) (R:List Row) (tags:List Int) (w:World) (h:DfaM w vr vt R tags) (hc:chk R tags=0) :
    Calls Try.prog 41 #[dfaV vr vt] w (Meets ⟨fun _=>True,fun (g:Nat)=> .slice (some ⟨g,0,none⟩) R.length R.length,fun g=>[rowA 3 intU g R.length fun i=>(blocksF (aut R tags) i:Int)]⟩ w):=by
  obtain⟨hA,hlt⟩:=chk_ok hc
  obtain⟨bt,ct,rfl,ht1,ht2,ht3⟩:=h.hT
  obtain⟨br,cr,rfl,hr1,hr2,hr3⟩:=h.hR
  have en:(aut R tags).n=R.length:=rfl
  have hpos:0<R.length:=hA.pos
  have hle:R.length≤200:=hA.le
  obtain⟨b,off,rfl,hr⟩:=hr3 hpos
  obtain⟨bb,ofT,rfl,hrt⟩:=ht3 (by omega)
  unfold maxLen at hr2 ht2
  have htag:∀ i,i<R.length→(aut R tags).tag i=tags.getD i 0:=fun i _=>rfl
  clear hr3 ht3 h
  refine enter (args:=[dfaV (.slice (some ⟨b,off,none⟩) R.length cr) (.slice (some ⟨bb,ofT,none⟩) tags.length ct)]) (n:=98) Try.func41 rfl rfl rfl ?_
  refine T_seq (T_region (TL_box rfl rfl rfl fun g1 => ?_))
  repeat(first|refine GA ?_|refine gV (rr_load1 TyC.ty rfl (at_blk (i:=0) rfl rfl)) ?_)
  refine TL_makeA intU 0 rfl rfl (by omega) (by omega) rfl fun g3 => ?_
  conv=>arg 8;simp only[zA,zB,zC,zD,zE,zF,zG,zH,zI,rowS,ret,id_eq]
  repeat(first|refine GA ?_|refine gV (rr_load1 TyC.ty rfl (at_blk (i:=0) rfl rfl)) ?_)
  refine T_loop (ι:=Nat) (fun i=>i≤tags.length) (fun i=>[(1,.pointer (some ⟨g1,0,none⟩)),(3,.slice (some ⟨g3,0,none⟩) R.length R.length),(22,.slice (some ⟨bb,ofT,none⟩) tags.length ct),(23,.int .i64 (tags.length:Int)),(24,.int .i64 (i:Int))])
    (fun i=>[blkO g1 (dfaV (.slice (some ⟨b,off,none⟩) R.length cr) (.slice (some ⟨bb,ofT,none⟩) tags.length ct)).cells 95,rowA 3 intU g3 R.length fun j=>if j<i then (now0 (aut R tags) j:Int) else 0]) (fun i=>tags.length - i) 0 (Nat.zero_le _) (by repeat' (first | exact True.intro | refine And.intro rfl ?_)) (by rw[rowA_congr (f':=fun j=>if j<0 then (now0 (aut R tags) j:Int) else 0) fun i _=>by simp]) ?_
  intro i hi
  by_cases c1:i<tags.length
  · have hat:=at_el (W:=w) (L:=[blkO g1 (dfaV (.slice (some ⟨b,off,none⟩) R.length cr) (.slice (some ⟨bb,ofT,none⟩) tags.length ct)).cells 95,rowA 3 intU g3 R.length fun j=>if j<i then (now0 (aut R tags) j:Int) else 0]) (c:=1) (f:=kit.intC) (fun _=>rfl) hrt c1 0 _ rfl
    have htg:=hA.tags i (by omega)
    have h0:(now0 (aut R tags) i:Int)=tags[i]+1:=by
      unfold now0
      rw[aut_tag c1] at htg ⊢
      omega
    rw[aut_tag c1] at htg
    generalize tags[i]=x at *
    repeat(first|refine GA ?_|refine gV (rr_idxc Und.eq TyC.ty rfl rfl c1) ?_|refine gV (rr_load1 TyC.ty rfl hat) ?_|refine gV (rr_idx1 Und.eq TyC.ty rfl rfl (show i<R.length by omega)) ?_)
    refine TL_storeA (i:=1) (off:=i) (v:=x+1) (fun j=>if j<i+1 then (now0 (aut R tags) j:Int) else 0) TyC.ty rfl rfl rfl rfl rfl (by omega) (fun j hj => ?_) ?_
    · by_cases e:j=i
      · subst e;rw[if_pos (by omega),if_pos rfl,h0]
      · rw[if_neg e]
        have:j<i+1↔j<i:=by omega
        simp only[this]
    conv=>arg 8;simp only[zA,zB,zC,zD,zE,zF,zG,zH,zI,rowS,ret,id_eq]
    try refine GA ?_
    exact E_round (i+1) (by omega) (by show tags.length - (i+1)<tags.length - i;omega) (by repeat' (first | exact True.intro | refine And.intro rfl ?_)) rfl
  · obtain rfl:i=tags.length:=by omega
    rw[rowA_congr (f':=fun j=>(now0 (aut R tags) j:Int)) fun j hj=>if_pos (show j<tags.length by omega)]
    clear c1 hi
    try refine GA ?_
    refine T_loop (ι:=Nat×Nat×(Nat→Nat)×Nat) (fun (f,c,now,_)=>Rounds (aut R tags) f c now) (fun (_,c,_,g3)=>[(1,.pointer (some ⟨g1,0,none⟩)),(3,.slice (some ⟨g3,0,none⟩) R.length R.length),(6,.int .i64 (c:Int))])
      (fun (_,_,now,g3)=>[blkO g1 (dfaV (.slice (some ⟨b,off,none⟩) R.length cr) (.slice (some ⟨bb,ofT,none⟩) tags.length ct)).cells 95,rowA 3 intU g3 R.length fun j=>(now j:Int)]) (fun (f,_,_,_)=>f) (R.length+2,0,now0 (aut R tags),g3) (rounds0 hA) (by repeat' (first | exact True.intro | refine And.intro rfl ?_)) rfl ?_
    clear g3
    rintro⟨f,c,now,g3⟩ hrd
    dsimp only at hrd ⊢
    obtain⟨f',rfl,hend,hgo⟩:=rounds_next hA hrd
    have hlim:=hrd.lim
    have hall:=smAll_calls 0
    clear hrd
    have hc201:=tab_le (A:=aut R tags) now
    rw[en] at hc201
    try refine GA ?_
    refine TL_mapNew (K:=kindK) rfl fun gm => ?_
    conv=>arg 8;simp only[zA,zB,zC,zD,zE,zF,zG,zH,zI,rowS,ret,id_eq]
    try refine GA ?_
    refine TL_call (he1 EntersC.en rfl rfl) (fun w hm=>hall _) rfl rfl rfl ?_
    intro _ _
    repeat(first|refine GA ?_|refine gV (rr_build rfl build_dead) ?_)
    refine TL_new rfl fun g8 => ?_
    conv=>arg 8;simp only[zA,zB,zC,zD,zE,zF,zG,zH,zI,rowS,ret,id_eq]
    refine TL_storeB (i:=3) (cs':=(kindC dead).toArray) rfl rfl rfl (by rw[List.size_toArray,kindC_len]) (by kernel_rfl) (by kernel_rfl) ?_
    conv=>arg 8;simp only[zA,zB,zC,zD,zE,zF,zG,zH,zI,rowS,ret,id_eq]
    repeat(first|refine GA ?_|refine gV (rr_loadB (i:=3) TyC.ty rfl rfl (by rw[List.size_toArray,kindC_len])) ?_)
    refine TL_mapNum (K:=kindK) (i:=2) (D:=[]) (x:=dead) Und.eq rfl rfl rfl rfl ⟨⟨by decide,by decide⟩,fun b hb=>by show -32768≤(Vector.replicate 256 (0:Int))[b]∧(Vector.replicate 256 (0:Int))[b]≤32767;rw[Vector.getElem_replicate];decide⟩ (by simp) (by decide) ?_
    conv=>arg 8;simp only[zA,zB,zC,zD,zE,zF,zG,zH,zI,rowS,ret,id_eq]
    refine TL_pick [0,1,2] (by decide) rfl ?_
    try refine GA ?_
    refine TL_makeA intU 0 rfl rfl (by omega) (by omega) rfl fun g9 => ?_
    conv=>arg 8;simp only[zA,zB,zC,zD,zE,zF,zG,zH,zI,rowS,ret,id_eq]
    repeat(first|refine GA ?_|refine gV (rr_load1 TyC.ty rfl (at_blk (i:=0) rfl rfl)) ?_)
    refine T_loop (ι:=Nat) (fun i=>i≤R.length) (fun i=>[(1,.pointer (some ⟨g1,0,none⟩)),(3,.slice (some ⟨g3,0,none⟩) R.length R.length),(6,.int .i64 (c:Int)),(7,.map (some gm)),(9,.slice (some ⟨g9,0,none⟩) R.length R.length),(44,.slice (some ⟨b,off,none⟩) R.length cr),(45,.int .i64 (R.length:Int)),(46,.int .i64 (i:Int))])
      (fun i=>[blkO g1 (dfaV (.slice (some ⟨b,off,none⟩) R.length cr) (.slice (some ⟨bb,ofT,none⟩) tags.length ct)).cells 95,rowA 3 intU g3 R.length fun j=>(now j:Int),mapO kindK gm (mapAt (tabTo (aut R tags) now i)) (tabTo (aut R tags) now i).length,rowA 3 intU g9 R.length fun j=>if j<i then (next (aut R tags) now j:Int) else 0]) (fun i=>R.length - i) 0 (Nat.zero_le _) (by repeat' (first | exact True.intro | refine And.intro rfl ?_)) (by rw[rowA_congr (g:=g9) (f:=fun _=>(0:Int)) (f':=fun j=>if j<0 then (next (aut R tags) now j:Int) else 0) fun i _=>by simp];rfl) ?_
    intro i hi
    by_cases c2:i<R.length
    · have hat:=at_el (W:=w) (L:=[blkO g1 (dfaV (.slice (some ⟨b,off,none⟩) R.length cr) (.slice (some ⟨bb,ofT,none⟩) tags.length ct)).cells 95,rowA 3 intU g3 R.length fun j=>(now j:Int),mapO kindK gm (mapAt (tabTo (aut R tags) now i)) (tabTo (aut R tags) now i).length,rowA 3 intU g9 R.length fun j=>if j<i then (next (aut R tags) now j:Int) else 0]) rowC_len hr c2
      have hrow:∀ (q:Nat) (hq:q<256),(aut R tags).d i q=(R[i])[q]:=fun q hq=>aut_d c2 hq
      have hst:∀ b,b<256→St (aut R tags) ((aut R tags).d i b):=fun b hb=>hA.step i c2 b hb
      generalize R[i]=r at *
      repeat(first|refine GA ?_|refine gV (rr_idxc Und.eq TyC.ty rfl rfl c2) ?_|refine gV (rr_loadN TyC.ty rfl (rowC_len r) hat) ?_)
      refine TL_new rfl fun g11 => ?_
      conv=>arg 8;simp only[zA,zB,zC,zD,zE,zF,zG,zH,zI,rowS,ret,id_eq]
      try refine GA ?_
      refine TL_storeB (i:=4) (cs':=(rowC r).toArray) rfl rfl rfl (by rw[List.size_toArray,rowC_len]) (by simpa using row_one1 r) (by kernel_rfl) ?_
      conv=>arg 8;simp only[zA,zB,zC,zD,zE,zF,zG,zH,zI,rowS,ret,id_eq]
      have hln:=hlim i c2
      repeat(first|refine GA ?_|refine gV (rr_idx1 Und.eq TyC.ty rfl rfl c2) ?_|refine gV (rr_load1 TyC.ty rfl (at_rowA (i:=1) rfl c2)) ?_|refine gV (rr_build rfl (build_kind _)) ?_)
      refine TL_new rfl fun g12 => ?_
      conv=>arg 8;simp only[zA,zB,zC,zD,zE,zF,zG,zH,zI,rowS,ret,id_eq]
      refine TL_storeB (i:=5) (cs':=(kindC ((now i:Int),Vector.replicate 256 0)).toArray) rfl rfl rfl (by rw[List.size_toArray,kindC_len]) (by rw[←List.all_toArray];kernel_rfl) (by kernel_rfl) ?_
      conv=>arg 8;simp only[zA,zB,zC,zD,zE,zF,zG,zH,zI,rowS,ret,id_eq]
      repeat(first|refine GA ?_|refine gV (rr_loadB (i:=4) TyC.ty rfl rfl (by rw[List.size_toArray,rowC_len])) ?_)
      rw[←kRow_0 (aut R tags) now i]
      refine T_pick [0,1,2,3,5] (by decide) rfl ?_
      refine T_loop (ι:=Nat) (fun q=>q≤256) (fun q=>[(1,.pointer (some ⟨g1,0,none⟩)),(3,.slice (some ⟨g3,0,none⟩) R.length R.length),(6,.int .i64 (c:Int)),(7,.map (some gm)),(9,.slice (some ⟨g9,0,none⟩) R.length R.length),(44,.slice (some ⟨b,off,none⟩) R.length cr),(45,.int .i64 (R.length:Int)),(46,.int .i64 (i:Int)),(10,.int .i64 (i:Int)),(12,.pointer (some ⟨g12,0,none⟩)),(56,rowV r),(57,.int .i64 (q:Int))])
        (fun q=>[blkO g1 (dfaV (.slice (some ⟨b,off,none⟩) R.length cr) (.slice (some ⟨bb,ofT,none⟩) tags.length ct)).cells 95,rowA 3 intU g3 R.length fun j=>(now j:Int),mapO kindK gm (mapAt (tabTo (aut R tags) now i)) (tabTo (aut R tags) now i).length,rowA 3 intU g9 R.length fun j=>if j<i then (next (aut R tags) now j:Int) else 0,blkO g12 (kindC ((now i:Int),kRow (aut R tags) now i q)).toArray 170]) (fun q=>256 - q) 0 (Nat.zero_le _) (by repeat' (first | exact True.intro | refine And.intro rfl ?_)) rfl ?_
      intro q hq
      by_cases c3:q<256
      · have hcell:(rowC r).toArray[q]?=some (.int .i16 r[q]):=by rw[List.getElem?_toArray];exact rowC_get r c3
        have hdq:=hrow q c3
        have hsq:=hst q c3
        have hset:=kRow_set (aut R tags) now i q c3
        have hskip:=kRow_skip (aut R tags) now i q c3
        rw[hdq] at hsq hset hskip
        clear hdq hrow hst
        generalize r[q]=x at *
        unfold St at hsq
        by_cases c4:x<0
        · have hv:val now x=0:=by unfold val;rw[if_pos c4]
          rw[hskip hv]
          repeat(first|refine GA ?_|refine gV (rr_arridx Und.eq TyC.ty rfl rfl c3 hcell) ?_)
          exact E_round (q+1) (by omega) (by show 256 - (q+1)<256 - q;omega) (by repeat' (first | exact True.intro | refine And.intro rfl ?_)) rfl
        · obtain⟨m,rfl⟩:∃ m:Nat,x=m:=⟨x.toNat,by omega⟩
          have hm:m<R.length:=by omega
          have hlm:=hlim m hm
          rw[val_nat] at hset
          repeat(first|refine GA ?_|refine gV (rr_arridx Und.eq TyC.ty rfl rfl c3 hcell) ?_|refine gV (rr_idx1 Und.eq TyC.ty rfl rfl hm) ?_|refine gV (rr_load1 TyC.ty rfl (at_rowA (i:=1) rfl hm)) ?_|refine gV (rr_conv Und.eq Und.eq rfl (wrap16 (by omega) (by omega))) ?_|refine gV (rr_aidx1 Und.eq TyC.ty rfl rfl c3) ?_)
          refine TL_storeK (i:=4) rfl rfl rfl c3 ?_
          rw[hset]
          conv=>arg 8;simp only[zA,zB,zC,zD,zE,zF,zG,zH,zI,rowS,ret,id_eq]
          try refine GA ?_
          exact E_round (q+1) (by omega) (by show 256 - (q+1)<256 - q;omega) (by repeat' (first | exact True.intro | refine And.intro rfl ?_)) rfl
      · obtain rfl:q=256:=by omega
        rw[kRow_all]
        have hok:=kind_ok hA hlim (i:=i) c2
        by_cases c5:kind (aut R tags) now i∈tabTo (aut R tags) now i
        · obtain⟨e1,e2⟩:=tab_old (aut R tags) now (i:=i) c2 c5
          generalize kind (aut R tags) now i=k at *
          repeat(first|refine GA ?_|refine gV (rr_loadB (i:=4) TyC.ty rfl rfl (by rw[List.size_toArray,kindC_len])) ?_|refine gV (rr_lookNumS (K:=kindK) (i:=2) (x:=k) Und.eq zeroI rfl rfl rfl hok c5) ?_|refine gV (rr_idx1 Und.eq TyC.ty rfl rfl c2) ?_)
          refine TL_storeA (i:=3) (off:=i) (v:=(next (aut R tags) now i:Int)) (fun j=>if j<i+1 then (next (aut R tags) now j:Int) else 0) TyC.ty rfl rfl (by rw[e2];rfl) rfl rfl c2 (fun j hj => ?_) ?_
          · by_cases e:j=i
            · subst e;rw[if_pos (by omega),if_pos rfl]
            · rw[if_neg e]
              have:j<i+1↔j<i:=by omega
              simp only[this]
          conv=>arg 8;simp only[zA,zB,zC,zD,zE,zF,zG,zH,zI,rowS,ret,id_eq]
          try refine GA ?_
          refine E_pick [0,1,2,3] (by decide) rfl ?_
          exact E_round (i+1) (by omega) (by show R.length - (i+1)<R.length - i;omega) (by repeat' (first | exact True.intro | refine And.intro rfl ?_)) (by rw[e1];rfl)
        · obtain⟨e1,e2⟩:=tab_new (aut R tags) now (i:=i) c2 c5
          have hle':=tabTo_le (aut R tags) now i
          rw[en] at hle'
          generalize kind (aut R tags) now i=k at *
          repeat(first|refine GC ?_|refine gV (rr_loadB (i:=4) TyC.ty rfl rfl (by rw[List.size_toArray,kindC_len])) ?_|refine gV (rr_lookNumN (K:=kindK) (i:=2) (x:=k) Und.eq zeroI rfl rfl rfl hok c5) ?_|refine gV (rr_maplen kindK Und.eq (i:=2) rfl rfl) ?_|refine GB ?_)
          refine TL_mapNum (K:=kindK) (i:=2) (x:=k) Und.eq rfl rfl rfl rfl hok c5 (by omega) ?_
          conv=>arg 8;simp only[zA,zB,zC,zD,zE,zF,zG,zH,zI,rowS,ret,id_eq]
          repeat(first|refine GA ?_|refine gV (rr_idx1 Und.eq TyC.ty rfl rfl c2) ?_)
          refine TL_storeA (i:=3) (off:=i) (v:=(next (aut R tags) now i:Int)) (fun j=>if j<i+1 then (next (aut R tags) now j:Int) else 0) TyC.ty rfl rfl (by rw[e2];rfl) rfl rfl c2 (fun j hj => ?_) ?_
          · by_cases e:j=i
            · subst e;rw[if_pos (by omega),if_pos rfl]
            · rw[if_neg e]
              have:j<i+1↔j<i:=by omega
              simp only[this]
          conv=>arg 8;simp only[zA,zB,zC,zD,zE,zF,zG,zH,zI,rowS,ret,id_eq]
          try refine GA ?_
          refine E_pick [0,1,2,3] (by decide) rfl ?_
          exact E_round (i+1) (by omega) (by show R.length - (i+1)<R.length - i;omega) (by repeat' (first | exact True.intro | refine And.intro rfl ?_)) (by rw[e1];rfl)
    · obtain rfl:i=R.length:=by omega
      rw[show tabTo (aut R tags) now R.length=tab (aut R tags) now from tabTo_all (aut R tags) now]
      rw[rowA_congr (f':=fun j=>(next (aut R tags) now j:Int)) fun j hj=>if_pos hj]
      by_cases c6:(tab (aut R tags) now).length=c
      · rw[hend c6]
        repeat(first|refine GC ?_|refine gV (rr_maplen kindK Und.eq (i:=2) rfl rfl) ?_|refine gV (rr_eql (b:=true) rfl rfl (decide_eq_true (by omega))) ?_|refine GB ?_)
        exact E_ret1 rfl rfl fun w hm=>hm.meets (S:=⟨fun _=>True,fun (g:Nat)=> .slice (some ⟨g,0,none⟩) R.length R.length,fun g=>[rowA 3 intU g R.length fun i=>(next (aut R tags) now i:Int)]⟩) g9 trivial [3] (by decide) rfl
      · repeat(first|refine GC ?_|refine gV (rr_maplen kindK Und.eq (i:=2) rfl rfl) ?_|refine gV (rr_eql (b:=false) rfl rfl (decide_eq_false (by omega))) ?_|refine GB ?_)
        refine E_pick [0,3] (by decide) rfl ?_
        exact E_round (f',(tab (aut R tags) now).length,next (aut R tags) now,g9) (hgo c6) (Nat.lt_succ_self f') (by repeat' (first | exact True.intro | refine And.intro rfl ?_)) rfl
end Go.Proofs.Ytldiodhdefnlaaa.eng

/- SmD -/
namespace Go.Proofs.Ytldiodhdefnlaaa.eng
open Go.RowKit kit mix dfaL smallL
theorem chkM_calls (vr vt:Value) (R:List Row) (tags:List Int) (w:World) (h:DfaM w vr vt R tags):Calls Try.prog 40 #[dfaV vr vt] w (Meets (ret (.int .i64 (chk R tags))) w):=dfaCheck_calls _ _ _ w h.isDfa
end Go.Proofs.Ytldiodhdefnlaaa.eng

/- SmX -/
namespace Go.Proofs.Ytldiodhdefnlaaa.eng
open Go.RowKit kit mix dfaL smallL
def minR (R:List Row) (tags:List Int):List Row:=if chk R tags=0 then (minF (aut R tags) (blocksF (aut R tags))).2 else []
def minT (R:List Row) (tags:List Int):List Int:=if chk R tags=0 then (minF (aut R tags) (blocksF (aut R tags))).1.map (aut R tags).tag else []
theorem min_len {R:List Row} {tags:List Int} (h:chk R tags=0):(minR R tags).length=(minT R tags).length∧(minR R tags).length=(minA (aut R tags)).n:=by
  obtain⟨hA,_⟩:=chk_ok h
  have:=(min_ok (bl:=blocksF (aut R tags)) hA).2.len
  unfold minR minT
  rw[if_pos h,if_pos h,List.length_map]
  exact⟨this,this⟩
theorem min_aut {R:List Row} {tags:List Int} (h:chk R tags=0):aut (minR R tags) (minT R tags)=minA (aut R tags):=by
  have hl:=(min_len h).2
  have e1:minR R tags=(minF (aut R tags) (blocksF (aut R tags))).2:=if_pos h
  have e2:minT R tags=(minF (aut R tags) (blocksF (aut R tags))).1.map (aut R tags).tag:=if_pos h
  show Aut.mk (minR R tags).length _ _=_
  rw[hl]
  rw[e1,e2]
  rfl
theorem min_chk {R:List Row} {tags:List Int} (h:chk R tags=0):chk (minR R tags) (minT R tags)=0:=by
  refine ok_chk ?_ (min_len h).1.symm
  rw[min_aut h]
  exact minA_ok (chk_ok h).1
def numF (bl:Nat→Nat) (Q:List Nat) (b:Nat):Int:=if b∈Q.map bl then (idx (Q.map bl) b:Int)+1 else 0
theorem numF_add {bl:Nat→Nat} {Q:List Nat} {q:Nat} (hn:bl q∉Q.map bl) (b:Nat):numF bl (Q++[q]) b=if b=bl q then (Q.length:Int)+1 else numF bl Q b:=by
  unfold numF
  rw[List.map_append,List.map_singleton]
  by_cases c:b=bl q
  · subst c
    rw[if_pos (by simp),if_pos rfl]
    have:=idx_more (D:=Q.map bl) (k:=bl q)
    unfold more at this
    rw[if_neg hn,if_neg hn] at this
    rw[this,List.length_map]
  · rw[if_neg c]
    by_cases c2:b∈Q.map bl
    · rw[if_pos c2,if_pos (List.mem_append_left _ c2),idx_pre c2]
    · rw[if_neg c2,if_neg]
      rw[List.mem_append,List.mem_singleton]
      rintro (h | h)
      · exact c2 h
      · exact c h
def mRow (l:List Int):Row:=Vector.ofFn fun b:Fin 256=>if b<l.length then l.getD b 0 else -1
theorem mRow_nil:mRow []=Vector.replicate 256 (-1):=by
  refine Vector.ext fun j hj => ?_
  unfold mRow;simp
theorem mRow_all {l:List Int} (h:l.length=256):mRow l=vec l:=by
  refine Vector.ext fun j hj => ?_
  unfold mRow vec;simp[h,hj]
theorem mRow_set (l:List Int) (x:Int) (h:l.length<256):(mRow l).set l.length x=mRow (l++[x]):=by
  refine Vector.ext fun j hj => ?_
  unfold mRow
  rw[Vector.getElem_set,Vector.getElem_ofFn,Vector.getElem_ofFn]
  simp only[List.length_append,List.length_singleton]
  split
  · rename_i e;subst e
    rw[if_pos (by omega),getD_right (Nat.le_refl _),Nat.sub_self];rfl
  · by_cases c:j<l.length
    · rw[if_pos c,if_pos (by omega),getD_left c]
    · rw[if_neg c,if_neg (by omega)]
theorem mRow_skip (l:List Int) (h:l.length<256):mRow (l++[-1])=mRow l:=by
  rw[←mRow_set l (-1) h]
  refine Vector.ext fun j hj => ?_
  rw[Vector.getElem_set]
  split
  · rename_i e;subst e;unfold mRow;simp
  · rfl
structure MWay (R:List Row) (tags:List Int) (f n:Nat) (Q:List Nat) (out:List Row):Prop where
  eq:minF (aut R tags) (blocksF (aut R tags))=minGo (aut R tags) (blocksF (aut R tags)) f n Q out
  ok:QOk (aut R tags) (blocksF (aut R tags)) Q
  outs:Outs (aut R tags) (blocksF (aut R tags)) n Q out
  fuel:(aut R tags).n+1≤f+n
theorem mway0 {R:List Row} {tags:List Int} (hA:(aut R tags).Ok):MWay R tags (R.length+1) 0 [0] []:=⟨rfl,qok0 hA,⟨rfl,Nat.zero_le _,fun k hk=>by omega⟩,Nat.le_refl _⟩
theorem mway_next {R:List Row} {tags:List Int} (hA:(aut R tags).Ok) {f n:Nat} {Q:List Nat} {out:List Row} (h:MWay R tags f n Q out) (hn:n<Q.length):∃ f',f=f'+1∧MWay R tags f' (n+1) (rowQ (aut R tags) (blocksF (aut R tags)) (Q.getD n 0) Q 256).1 (out++[vec (rowQ (aut R tags) (blocksF (aut R tags)) (Q.getD n 0) Q 256).2]):=by
  have h1:=h.ok.len
  have h2:=h.fuel
  obtain⟨f',rfl⟩:∃ f',f=f'+1:=⟨f - 1,by omega⟩
  have e:=h.eq
  unfold minGo at e
  rw[if_pos hn] at e
  exact⟨f',rfl,e,qok_row hA h.ok (h.ok.lt _ (getD_mem hn)) 256 (Nat.le_refl _),outs_step hA h.outs hn,by omega⟩
theorem mway_end {R:List Row} {tags:List Int} {f n:Nat} {Q:List Nat} {out:List Row} (h:MWay R tags f n Q out) (hn:¬ n<Q.length):minF (aut R tags) (blocksF (aut R tags))=(Q,out)∧n=Q.length:=by
  have h1:=h.outs.le
  refine⟨?_,by omega⟩
  rw[h.eq]
  cases f with
  | zero=>rfl
  | succ f=>unfold minGo;rw[if_neg hn]
def minS (R:List Row) (tags:List Int):Spec (Value×Value):=⟨fun _=>True,fun x=> .tuple #[dfaV x.1 x.2,.int .i64 (chk R tags)],fun x=>[rowO 138 256 x.1 (minR R tags).length ((minR R tags).flatMap rowC),rowO 3 1 x.2 (minT R tags).length ((minT R tags).flatMap kit.intC)]⟩
theorem build_dfa0 (w:World):(Instr.build 95 #[]).run Try.prog w = .ok (dfaV (.slice none 0 0) (.slice none 0 0)) w:=by kernel_rfl
set_option maxRecDepth 100000 in
set_option maxHeartbeats 8000000 in
theorem minimal_calls (vr vt:Value) (R:List Row) (tags:List Int) (w:World) (h:DfaM w vr vt R tags) :
    Calls Try.prog 24 #[dfaV vr vt] w (Meets (minS R tags) w):=by
  have hck:=fun w' (hg:Gr w w')=>chkM_calls vr vt R tags w' (h.gr hg)
  have hbl:=fun w' (hg:Gr w w') hc=>blocks_calls vr vt R tags w' (h.gr hg) hc
  obtain⟨bt,ct,rfl,ht1,ht2,ht3⟩:=h.hT
  obtain⟨br,cr,rfl,hr1,hr2,hr3⟩:=h.hR
  have hrng:=h.rng
  unfold maxLen at hr2 ht2
  clear h
  by_cases hc:chk R tags=0
  · obtain⟨hA,hlt⟩:=chk_ok hc
    have hbo:=blocks_of hA
    have en:(aut R tags).n=R.length:=rfl
    have hpos:0<R.length:=hA.pos
    have hle:R.length≤200:=hA.le
    obtain⟨b,off,rfl,hr⟩:=hr3 hpos
    obtain⟨bb,ofT,rfl,hrt⟩:=ht3 (by omega)
    clear hr3 ht3
    unfold minS
    have er:minR R tags=(minF (aut R tags) (blocksF (aut R tags))).2:=if_pos hc
    have et:minT R tags=(minF (aut R tags) (blocksF (aut R tags))).1.map (aut R tags).tag:=if_pos hc
    rw[er,et]
    clear er et
    have hbl0:=hbo.le 0 hpos
    rw[en] at hbl0
    rw[hc] at hck ⊢
    refine enter (args:=[dfaV (.slice (some ⟨b,off,none⟩) R.length cr) (.slice (some ⟨bb,ofT,none⟩) tags.length ct)]) (n:=113) Try.func24 rfl rfl rfl ?_
    refine T_seq (T_region (TL_box rfl rfl rfl fun g1 => ?_))
    refine TL_new rfl fun g2 => ?_
    conv=>arg 8;simp only[zA,zB,zC,zD,zE,zF,zG,zH,zI,rowS,ret,id_eq]
    repeat(first|refine GA ?_|refine gV (rr_load1 TyC.ty rfl (at_blk (i:=0) rfl rfl)) ?_|refine gV (rr_loadB (i:=0) TyC.ty rfl rfl rfl) ?_)
    refine TL_call (he1 EntersC.en rfl rfl) (fun w hm=>hck _ hm.below) rfl rfl rfl ?_
    intro _ _
    repeat(first|refine GA ?_|refine gV (rr_loadB (i:=0) TyC.ty rfl rfl rfl) ?_)
    refine TL_call (he1 EntersC.en rfl rfl) (fun w hm=>hbl _ hm.below hc) rfl rfl rfl ?_
    intro g5 _
    conv=>arg 8;simp only[zA,zB,zC,zD,zE,zF,zG,zH,zI,rowS,ret,id_eq]
    repeat(first|refine GA ?_|refine gV (rr_load1 TyC.ty rfl (at_blk (i:=0) rfl rfl)) ?_)
    refine TL_makeA (m:=R.length+1) intU 0 (by rfl) (by rfl) (by omega) (by omega) rfl fun g6 => ?_
    conv=>arg 8;simp only[zA,zB,zC,zD,zE,zF,zG,zH,zI,rowS,ret,id_eq]
    try refine GA ?_
    refine TL_new rfl fun g7 => ?_
    conv=>arg 8;simp only[zA,zB,zC,zD,zE,zF,zG,zH,zI,rowS,ret,id_eq]
    try refine GA ?_
    refine TL_one rfl rfl rfl rfl rfl fun g8 => ?_
    conv=>arg 8;simp only[zA,zB,zC,zD,zE,zF,zG,zH,zI,rowS,ret,id_eq]
    refine TL_toRow (i:=5) (m:=1) 1 rfl rfl (by decide) ?_
    conv=>arg 8;simp only[zA,zB,zC,zD,zE,zF,zG,zH,zI,rowS,ret,id_eq]
    repeat(first|refine GA ?_|refine gV (rr_idx1 (j:=0) Und.eq TyC.ty rfl rfl hpos) ?_|refine gV (rr_load1 TyC.ty rfl (at_rowA (i:=2) rfl hpos)) ?_|refine gV (rr_idx1 (j:=blocksF (aut R tags) 0) Und.eq TyC.ty rfl rfl (by omega)) ?_)
    refine TL_storeA (i:=3) (off:=blocksF (aut R tags) 0) (v:=1) (numF (blocksF (aut R tags)) [0]) TyC.ty rfl rfl rfl rfl rfl (by omega) (fun j hj => ?_) ?_
    · by_cases e:j=blocksF (aut R tags) 0
      · subst e;simp[numF,idx]
      · rw[if_neg e];unfold numF;rw[if_neg (by simpa using e)]
    conv=>arg 8;simp only[zA,zB,zC,zD,zE,zF,zG,zH,zI,rowS,ret,id_eq]
    try refine GA ?_
    refine T_nil 138 256 ?_
    refine T_nil 3 1 ?_
    conv=>arg 7;simp only[zA,zB,zC,zD,zE,zF,zG,zH,zI,rowS,ret,id_eq]
    have hstart:=mway0 (tags:=tags) hA
    have hfin:=fun f n Q out=>@mway_end R tags f n Q out
    have hnext:=fun f n Q out=>@mway_next R tags hA f n Q out
    have hble:=hbo.le
    clear hbl0 hbo hbl hck
    generalize hBLK:blocksF (aut R tags)=BLK at *
    refine T_loop (ι:=Nat×Nat×List Nat×List Row×Value×Value×Value) (fun (f,n,Q,out,_)=>MWay R tags f n Q out) (fun (_,n,_,_,vQ,_,_)=>[(1,.pointer (some ⟨g1,0,none⟩)),(2,.pointer (some ⟨g2,0,none⟩)),(5,.slice (some ⟨g5,0,none⟩) R.length R.length),(6,.slice (some ⟨g6,0,none⟩) (R.length+1) (R.length+1)),(7,.pointer (some ⟨g7,0,none⟩)),(8,vQ),(9,.int .i64 (n:Int))])
      (fun (_,n,Q,out,vQ,vR,vT)=>[blkO g1 (dfaV (.slice (some ⟨b,off,none⟩) R.length cr) (.slice (some ⟨bb,ofT,none⟩) tags.length ct)).cells 95,blkO g2 (dfaV (.slice none 0 0) (.slice none 0 0)).cells 95,rowA 3 intU g5 R.length fun i=>(BLK i:Int),rowA 3 intU g6 (R.length+1) (numF BLK Q),blkO g7 (dfaV vR vT).cells 95,rowO 3 1 vQ Q.length (Q.map fun q:Nat=>intU q),rowO 138 256 vR out.length (out.flatMap rowC),rowO 3 1 vT n (((Q.take n).map (aut R tags).tag).flatMap kit.intC)]) (fun (f,_)=>f) (R.length+1,0,[0],[],.slice (some ⟨g8,0,none⟩) 1 1,.slice none 0 0,.slice none 0 0) hstart (by repeat' (first | exact True.intro | refine And.intro rfl ?_)) rfl ?_
    rintro⟨f,n,Q,out,vQ,vR,vT⟩ hw
    dsimp only at hw ⊢
    have hQ:=hw.ok
    have hQl:=hQ.len
    have hout:=hw.outs.len
    rw[hBLK] at hQ
    rw[en] at hQl
    by_cases c1:n<Q.length
    · obtain⟨f',rfl,hw'⟩:=hnext _ _ _ _ hw c1
      have hq:=hQ.lt _ (getD_mem c1)
      have hqc:(Q.map fun q:Nat=>intU q)[0+n]?=some (intU (Q.getD n 0)):=by rw[Nat.zero_add,List.getElem?_map,List.getD_eq_getElem?_getD,List.getElem?_eq_getElem c1];rfl
      rw[en] at hq
      have hall:=smAll_calls (-1)
      have hrw:=fun k hk=>qok_row (bl:=BLK) hA hQ (q:=Q.getD n 0) (by rw[en];exact hq) k hk
      have hpre:=row_pre (A:=aut R tags) (bl:=BLK) (Q.getD n 0) Q
      have hrl:=row_len (A:=aut R tags) (bl:=BLK) (Q.getD n 0) Q
      have hst:∀ k,k<256→St (aut R tags) ((aut R tags).d (Q.getD n 0) k):=fun k hk=>hA.step _ hq k hk
      have hd:∀ (k:Nat) (hk:k<256),(aut R tags).d (Q.getD n 0) k=(R[Q.getD n 0]'hq)[k]:=fun k hk=>aut_d hq hk
      have hqtags:Q.getD n 0<tags.length:=by omega
      have htg:(aut R tags).tag (Q.getD n 0)=tags[Q.getD n 0]'hqtags:=aut_tag hqtags
      have hatR:=fun (L:List Own)=>at_el (W:=w) (L:=L) rowC_len hr hq
      have hatT:=fun (L:List Own)=>at_el (W:=w) (L:=L) (c:=1) (f:=kit.intC) (fun _=>rfl) hrt hqtags 0 _ rfl
      have hQn:Q.getD n 0=Q[n]:=by rw[List.getD_eq_getElem?_getD,List.getElem?_eq_getElem c1];rfl
      clear hfin hnext hw
      generalize hqq:Q.getD n 0=q at *
      generalize hrr:R[q]=r at *
      repeat(first|refine GC ?_|refine gV (rr_rowlen (i:=5) Und.eq rfl rfl) ?_|refine GB ?_)
      refine TL_call (he1 EntersC.en rfl rfl) (fun w hm=>hall _) rfl rfl rfl ?_
      intro _ _
      try refine GA ?_
      refine TL_new rfl fun g10 => ?_
      conv=>arg 8;simp only[zA,zB,zC,zD,zE,zF,zG,zH,zI,rowS,ret,id_eq]
      refine TL_storeB (i:=8) (cs':=(rowC (Vector.replicate 256 (-1))).toArray) rfl rfl rfl (by rw[List.size_toArray,rowC_len]) (by simpa using row_one1 (Vector.replicate 256 (-1))) (by kernel_rfl) ?_
      conv=>arg 8;simp only[zA,zB,zC,zD,zE,zF,zG,zH,zI,rowS,ret,id_eq]
      try refine GA ?_
      refine T_rowN (i:=5) rfl (by omega) fun gQ cQ hv hcQ hcQ2 => ?_
      subst hv
      (repeat refine T_seq ?_)
      refine T_ord ([blkO g1 (dfaV (.slice (some ⟨b,off,none⟩) R.length cr) (.slice (some ⟨bb,ofT,none⟩) tags.length ct)).cells 95,rowO 3 1 (.slice (some ⟨gQ,0,none⟩) Q.length cQ) Q.length (Q.map fun q:Nat=>intU q)]) (.calm 0 (.calm 1 (.calm 2 (.calm 3 (.calm 4 (.calm 5 (.calm 6 (.calm 7 (.calm 8 (.done)))))))))) (sub_pick [0,5] (by decide) rfl) (by kernel_rfl) (by kernel_rfl) (by intro c a d v w h;cases d <;> exact h) ?_
      repeat(first|refine GW ?_|(refine GN ?_;first|refine QW (rr_load1 TyC.ty rfl (at_blk (i:=0) rfl rfl)) ?_|refine QW (rr_idx1 (j:=n) Und.eq TyC.ty rfl rfl c1) ?_|refine QW (rr_load1 TyC.ty rfl (at_row (i:=1) rfl hqc)) ?_|refine QW (rr_idxc (j:=q) Und.eq TyC.ty rfl rfl hq) ?_|refine QW (rr_loadN TyC.ty rfl (rowC_len r) (hatR _)) ?_))
      try refine GA ?_
      rw[←mRow_nil]
      refine T_pick [0,1,2,3,4,6,7,8,5] (by decide) rfl ?_
      refine T_loop (ι:=Nat×Value) (fun (k,_)=>k≤256) (fun (k,vK)=>[(1,.pointer (some ⟨g1,0,none⟩)),(2,.pointer (some ⟨g2,0,none⟩)),(5,.slice (some ⟨g5,0,none⟩) R.length R.length),(6,.slice (some ⟨g6,0,none⟩) (R.length+1) (R.length+1)),(7,.pointer (some ⟨g7,0,none⟩)),(8,vK),(9,.int .i64 (n:Int)),(10,.pointer (some ⟨g10,0,none⟩)),(46,rowV r),(47,.int .i64 (k:Int))])
        (fun (k,vK)=>[blkO g1 (dfaV (.slice (some ⟨b,off,none⟩) R.length cr) (.slice (some ⟨bb,ofT,none⟩) tags.length ct)).cells 95,blkO g2 (dfaV (.slice none 0 0) (.slice none 0 0)).cells 95,rowA 3 intU g5 R.length fun i=>(BLK i:Int),rowA 3 intU g6 (R.length+1) (numF BLK (rowQ (aut R tags) BLK q Q k).1),blkO g7 (dfaV vR vT).cells 95,rowO 138 256 vR out.length (out.flatMap rowC),rowO 3 1 vT n (((Q.take n).map (aut R tags).tag).flatMap kit.intC),blkO g10 (rowC (mRow (rowQ (aut R tags) BLK q Q k).2)).toArray 138,rowO 3 1 vK (rowQ (aut R tags) BLK q Q k).1.length ((rowQ (aut R tags) BLK q Q k).1.map fun q:Nat=>intU q)]) (fun (k,_)=>256 - k) (0,.slice (some ⟨gQ,0,none⟩) Q.length cQ) (Nat.zero_le _) (by repeat' (first | exact True.intro | refine And.intro rfl ?_)) rfl ?_
      rintro⟨k,vK⟩ hk
      dsimp only at hk ⊢
      by_cases c2:k<256
      · have hcell:(rowC r).toArray[k]?=some (.int .i16 r[k]):=by rw[List.getElem?_toArray];exact rowC_get r c2
        have hx:=hd k c2
        have hsx:=hst k c2
        have hok:=hrw k hk
        have hlen:=hrl k
        have hokn:=(qok_step hok hsx).len
        have hnext:rowQ (aut R tags) BLK q Q (k+1)=((stepQ BLK (rowQ (aut R tags) BLK q Q k).1 ((aut R tags).d q k)).1,(rowQ (aut R tags) BLK q Q k).2++[(stepQ BLK (rowQ (aut R tags) BLK q Q k).1 ((aut R tags).d q k)).2]):=rfl
        rw[hx] at hnext hsx hokn
        clear hx hst hrw hpre hrl hd hatR hatT
        generalize r[k]=x at *
        generalize rowQ (aut R tags) BLK q Q k=RQ at *
        obtain⟨Qk,vk⟩:=RQ
        dsimp only at hok hlen hokn hnext ⊢
        subst hlen
        unfold St at hsx
        rw[en] at hsx
        by_cases c3:val BLK x=0
        · have e:stepQ BLK Qk x=(Qk,-1):=by unfold stepQ;rw[if_pos c3]
          rw[e] at hnext
          have hRound:∀ (S:List Own),S=[blkO g1 (dfaV (.slice (some ⟨b,off,none⟩) R.length cr) (.slice (some ⟨bb,ofT,none⟩) tags.length ct)).cells 95,blkO g2 (dfaV (.slice none 0 0) (.slice none 0 0)).cells 95,rowA 3 intU g5 R.length fun i=>(BLK i:Int),rowA 3 intU g6 (R.length+1) (numF BLK Qk),blkO g7 (dfaV vR vT).cells 95,rowO 138 256 vR out.length (out.flatMap rowC),rowO 3 1 vT n (((Q.take n).map (aut R tags).tag).flatMap kit.intC),blkO g10 (rowC (mRow vk)).toArray 138,rowO 3 1 vK Qk.length (Qk.map fun q:Nat=>intU q)]→S=[blkO g1 (dfaV (.slice (some ⟨b,off,none⟩) R.length cr) (.slice (some ⟨bb,ofT,none⟩) tags.length ct)).cells 95,blkO g2 (dfaV (.slice none 0 0) (.slice none 0 0)).cells 95,rowA 3 intU g5 R.length fun i=>(BLK i:Int),rowA 3 intU g6 (R.length+1) (numF BLK (rowQ (aut R tags) BLK q Q (vk.length+1)).1),blkO g7 (dfaV vR vT).cells 95,rowO 138 256 vR out.length (out.flatMap rowC),rowO 3 1 vT n (((Q.take n).map (aut R tags).tag).flatMap kit.intC),blkO g10 (rowC (mRow (rowQ (aut R tags) BLK q Q (vk.length+1)).2)).toArray 138,rowO 3 1 vK (rowQ (aut R tags) BLK q Q (vk.length+1)).1.length ((rowQ (aut R tags) BLK q Q (vk.length+1)).1.map fun q:Nat=>intU q)]:=fun S h=>by
            rw[hnext];dsimp only;rw[mRow_skip vk c2];exact h
          by_cases c4:x<0
          · repeat(first|refine GA ?_|refine gV (rr_arridx Und.eq TyC.ty rfl rfl c2 hcell) ?_)
            exact E_round (vk.length+1,vK) (by show vk.length+1≤256;omega) (by show 256 - (vk.length+1)<256 - vk.length;omega) (by repeat' (first | exact True.intro | refine And.intro rfl ?_)) (hRound _ rfl)
          · obtain⟨m,rfl⟩:∃ m:Nat,x=m:=⟨x.toNat,by omega⟩
            have hm:m<R.length:=by omega
            rw[val_nat] at c3
            repeat(first|refine GC ?_|refine gV (rr_arridx Und.eq TyC.ty rfl rfl c2 hcell) ?_|refine gV (rr_idx1 (j:=m) Und.eq TyC.ty rfl rfl hm) ?_|refine gV (rr_load1 TyC.ty rfl (at_rowA (i:=2) rfl hm)) ?_|refine gV (rr_eql (b:=true) rfl rfl (decide_eq_true (by omega))) ?_|refine GB ?_)
            exact E_round (vk.length+1,vK) (by show vk.length+1≤256;omega) (by show 256 - (vk.length+1)<256 - vk.length;omega) (by repeat' (first | exact True.intro | refine And.intro rfl ?_)) (hRound _ rfl)
        · have c4:¬ x<0:=fun e=>c3 (by unfold val;rw[if_pos e])
          obtain⟨m,rfl⟩:∃ m:Nat,x=m:=⟨x.toNat,by omega⟩
          have hm:m<R.length:=by omega
          rw[val_nat] at c3
          have hbm:=hble m hm
          rw[en] at hbm
          have e:stepQ BLK Qk (m:Int)=(addQ BLK Qk (m:Int),(idx ((addQ BLK Qk (m:Int)).map BLK) (BLK m):Int)):=by unfold stepQ;rw[val_nat,if_neg c3,Int.toNat_natCast]
          rw[e] at hnext hokn
          dsimp only at hokn hnext
          rw[en] at hokn
          unfold addQ at hnext hokn
          rw[Int.toNat_natCast] at hnext hokn
          by_cases c5:BLK m∈Qk.map BLK
          · rw[if_pos c5] at hnext hokn
            have hid:=idx_lt c5
            rw[List.length_map] at hid
            have hnum:numF BLK Qk (BLK m)=(idx (Qk.map BLK) (BLK m):Int)+1:=by unfold numF;rw[if_pos c5]
            generalize idx (Qk.map BLK) (BLK m)=z at *
            repeat(first|refine GC ?_|refine gV (rr_arridx Und.eq TyC.ty rfl rfl c2 hcell) ?_|refine gV (rr_idx1 (j:=m) Und.eq TyC.ty rfl rfl hm) ?_|refine gV (rr_load1 TyC.ty rfl (at_rowA (i:=2) rfl hm)) ?_|refine gV (rr_eql (b:=false) rfl rfl (decide_eq_false (by omega))) ?_|refine gV (rr_idx1 (j:=BLK m) Und.eq TyC.ty rfl rfl (by omega)) ?_|refine gV (rr_load1 TyC.ty rfl (at_rowA (i:=3) rfl (show BLK m<R.length+1 by omega))) ?_|refine gV (rr_sub64 (r:=(z:Int)) rfl rfl (by omega) (by omega) (by omega)) ?_|refine gV (rr_conv Und.eq Und.eq rfl (wrap16 (by omega) (by omega))) ?_|refine gV (rr_aidx1 Und.eq TyC.ty rfl rfl c2) ?_|refine GB ?_)
            refine TL_storeV (i:=7) rfl rfl rfl c2 ?_
            rw[mRow_set vk z c2]
            conv=>arg 8;simp only[zA,zB,zC,zD,zE,zF,zG,zH,zI,rowS,ret,id_eq]
            try refine GA ?_
            exact E_round (vk.length+1,vK) (by show vk.length+1≤256;omega) (by show 256 - (vk.length+1)<256 - vk.length;omega) (by repeat' (first | exact True.intro | refine And.intro rfl ?_)) (by dsimp only;rw[hnext])
          · rw[if_neg c5] at hnext hokn
            have hnum:numF BLK Qk (BLK m)=0:=by unfold numF;rw[if_neg c5]
            have hadd:=numF_add (q:=m) c5
            have hnum2:numF BLK (Qk++[m]) (BLK m)=(Qk.length:Int)+1:=by rw[hadd,if_pos rfl]
            have hidx:idx ((Qk++[m]).map BLK) (BLK m)=Qk.length:=by
              have h1:=hnum2
              unfold numF at h1
              rw[if_pos (by simp)] at h1
              omega
            rw[hidx] at hnext
            rw[List.length_append,List.length_singleton] at hokn
            repeat(first|refine GC ?_|refine gV (rr_arridx Und.eq TyC.ty rfl rfl c2 hcell) ?_|refine gV (rr_idx1 (j:=m) Und.eq TyC.ty rfl rfl hm) ?_|refine gV (rr_load1 TyC.ty rfl (at_rowA (i:=2) rfl hm)) ?_|refine gV (rr_eql (b:=false) rfl rfl (decide_eq_false (show ¬ (BLK m:Int)=0 by omega))) ?_|refine gV (rr_idx1 (j:=BLK m) Und.eq TyC.ty rfl rfl (by omega)) ?_|refine gV (rr_load1 TyC.ty rfl (at_rowA (i:=3) rfl (show BLK m<R.length+1 by omega))) ?_|refine gV (rr_eql (b:=true) rfl rfl (decide_eq_true hnum)) ?_|refine gV (rr_conv Und.eq Und.eq rfl (wrap_in (by omega) (by omega))) ?_|refine GB ?_)
            refine TL_push1 (i:=8) rfl rfl rfl rfl rfl rfl (fun z h=>by cases h;rfl) (by omega) (by omega) rfl fun z v2 => ?_
            conv=>arg 8;simp only[zA,zB,zC,zD,zE,zF,zG,zH,zI,rowS,ret,id_eq]
            repeat(first|refine GC ?_|refine gV (rr_idx1 (j:=m) Und.eq TyC.ty rfl rfl hm) ?_|refine gV (rr_load1 TyC.ty rfl (at_rowA (i:=2) rfl hm)) ?_|refine gV (rr_idx1 (j:=BLK m) Und.eq TyC.ty rfl rfl (by omega)) ?_|refine gV (rr_rowlen (i:=8) Und.eq rfl rfl) ?_|refine GB ?_)
            refine TL_storeA (i:=3) (off:=BLK m) (v:=((Qk.length+1:Nat):Int)) (numF BLK (Qk++[m])) TyC.ty rfl rfl rfl rfl rfl (by omega) (fun j hj=>by rw[hadd];rfl) ?_
            conv=>arg 8;simp only[zA,zB,zC,zD,zE,zF,zG,zH,zI,rowS,ret,id_eq]
            repeat(first|refine GC ?_|refine gV (rr_idx1 (j:=m) Und.eq TyC.ty rfl rfl hm) ?_|refine gV (rr_load1 TyC.ty rfl (at_rowA (i:=2) rfl hm)) ?_|refine gV (rr_idx1 (j:=BLK m) Und.eq TyC.ty rfl rfl (by omega)) ?_|refine gV (rr_load1 TyC.ty rfl (at_rowA (i:=3) rfl (show BLK m<R.length+1 by omega))) ?_|refine gV (rr_sub64 (r:=(Qk.length:Int)) rfl rfl (by omega) (by omega) (by omega)) ?_|refine gV (rr_conv Und.eq Und.eq rfl (wrap16 (by omega) (by omega))) ?_|refine gV (rr_aidx1 Und.eq TyC.ty rfl rfl c2) ?_|refine GB ?_)
            refine TL_storeV (i:=7) rfl rfl rfl c2 ?_
            rw[mRow_set vk (Qk.length:Int) c2]
            conv=>arg 8;simp only[zA,zB,zC,zD,zE,zF,zG,zH,zI,rowS,ret,id_eq]
            try refine GA ?_
            exact E_round (vk.length+1,v2) (by show vk.length+1≤256;omega) (by show 256 - (vk.length+1)<256 - vk.length;omega) (by repeat' (first | exact True.intro | refine And.intro rfl ?_)) (by dsimp only;rw[hnext];simp)
      · obtain rfl:k=256:=by omega
        have hok:=(hrw 256 (Nat.le_refl _)).len
        obtain⟨E,hE⟩:=hpre 256
        have hv:=hrl 256
        clear hrw hpre hrl hst hd hatR
        generalize rowQ (aut R tags) BLK q Q 256=RQ at *
        obtain⟨Qe,ve⟩:=RQ
        dsimp only at hok hE hv hw' ⊢
        subst hE
        rw[mRow_all hv]
        rw[en] at hok
        have hqe:((Q++E).map fun q:Nat=>intU q)[0+n]?=some (intU q):=by
          rw[Nat.zero_add,List.getElem?_map,List.getElem?_append_left c1,List.getElem?_eq_getElem c1,←hQn];rfl
        have htk:(((Q++E).take (n+1)).map (aut R tags).tag).flatMap kit.intC=((Q.take n).map (aut R tags).tag).flatMap kit.intC++[intU tags[q]]:=by
          rw[List.take_append_of_le_length (by omega),List.take_succ_eq_append_getElem c1,←hQn,List.map_append,List.flatMap_append,List.map_singleton,List.flatMap_singleton,htg];rfl
        rw[List.length_append] at hok
        have hlenE:n<(Q++E).length:=by rw[List.length_append];omega
        repeat(first|refine GA ?_|refine gV (rr_load1 TyC.ty rfl (at_blk (i:=4) rfl rfl)) ?_|refine gV (rr_loadB (i:=7) TyC.ty rfl rfl (by rw[List.size_toArray,rowC_len])) ?_)
        refine TL_pushN (i:=5) rfl rfl (by rw[List.size_toArray,rowC_len]) rfl (by simpa using row_one1 (vec ve)) rfl rfl (fun z h=>by cases h;rfl) (by omega) (by omega) rfl fun z v2 => ?_
        conv=>arg 8;simp only[zA,zB,zC,zD,zE,zF,zG,zH,zI,rowS,ret,id_eq]
        try refine GA ?_
        refine TL_slv (i:=5) rfl fun hc1 ho1 => ?_
        refine TL_store1 (i:=4) rfl rfl rfl hc1 ho1 rfl ?_
        conv=>arg 8;simp only[zA,zB,zC,zD,zE,zF,zG,zH,zI,rowS,ret,id_eq]
        try refine GA ?_
        refine T_rowN (i:=8) rfl (by omega) fun gQ' cQ' hv' hcQ' hcQ2' => ?_
        subst hv'
        (repeat refine T_seq ?_)
        refine T_ord ([blkO g1 (dfaV (.slice (some ⟨b,off,none⟩) R.length cr) (.slice (some ⟨bb,ofT,none⟩) tags.length ct)).cells 95,rowO 3 1 (.slice (some ⟨gQ',0,none⟩) (Q++E).length cQ') (Q++E).length ((Q++E).map fun q:Nat=>intU q)]) (.calm 0 (.calm 2 (.calm 3 (.calm 4 (.calm 5 (.calm 6 (.calm 7 (.calm 8 (.calm 9 (.two 1 (.one 10 (.one 11 (.calm 12 (.one 13 (.done))))) 10 (.one 1 (.one 11 (.calm 12 (.one 13 (.done))))))))))))))) (sub_pick [0,8] (by decide) rfl) (by kernel_rfl) (by kernel_rfl) (by intro c a d v w h;cases d <;> exact h) ?_
        repeat(first|refine GW ?_|(refine GN ?_;first|refine QW (rr_load1 TyC.ty rfl (at_blk (i:=0) rfl rfl)) ?_|refine QW (rr_idx1 (j:=n) Und.eq TyC.ty rfl rfl hlenE) ?_|refine QW (rr_load1 TyC.ty rfl (at_row (i:=1) rfl hqe)) ?_|refine QW (rr_idxc (j:=q) Und.eq TyC.ty rfl rfl hqtags) ?_|refine QW (rr_load1 TyC.ty rfl (hatT _)) ?_))
        refine TW_two rfl rfl ?_ ?_
        · refine TL_val (rr_load1 TyC.ty rfl (at_blk (i:=4) rfl rfl)) rfl rfl rfl (TW_on (sub_pick [0,8] (by decide) rfl) ?_)
          refine TW_one rfl (TL_one rfl rfl rfl rfl rfl fun g109=>TW_on (sub_pick [0,8] (by decide) rfl) ?_)
          refine TW_one rfl (TL_app11 (i:=6) (q:=9) rfl rfl rfl rfl rfl rfl (by omega) (by omega) rfl fun v3=>TW_on (sub_pick [0,8] (by decide) rfl) ?_)
          try refine GW ?_
          refine TW_one rfl (TL_slv (i:=6) rfl fun hc2 ho2=>TL_store1 (i:=4) rfl rfl rfl hc2 ho2 rfl (TW_on (sub_pick [0,8] (by decide) rfl) ?_))
          try refine GW ?_
          try refine GA ?_
          refine E_pick [0,1,2,3,4,8,5,6] (by decide) rfl ?_
          exact E_round (f',n+1,Q++E,out++[vec ve],.slice (some ⟨gQ',0,none⟩) (Q++E).length cQ',v2,v3) hw' (Nat.lt_succ_self f') (by repeat' (first | exact True.intro | refine And.intro rfl ?_)) (by dsimp only;rw[htk];simp;rfl)
        · refine TL_one rfl rfl rfl rfl rfl fun g109=>TW_on (sub_pick [0,8] (by decide) rfl) ?_
          refine TW_one rfl (TL_val (rr_load1 TyC.ty rfl (at_blk (i:=4) rfl rfl)) rfl rfl rfl (TW_on (sub_pick [0,8] (by decide) rfl) ?_))
          refine TW_one rfl (TL_app11 (i:=6) (q:=9) rfl rfl rfl rfl rfl rfl (by omega) (by omega) rfl fun v3=>TW_on (sub_pick [0,8] (by decide) rfl) ?_)
          try refine GW ?_
          refine TW_one rfl (TL_slv (i:=6) rfl fun hc2 ho2=>TL_store1 (i:=4) rfl rfl rfl hc2 ho2 rfl (TW_on (sub_pick [0,8] (by decide) rfl) ?_))
          try refine GW ?_
          try refine GA ?_
          refine E_pick [0,1,2,3,4,8,5,6] (by decide) rfl ?_
          exact E_round (f',n+1,Q++E,out++[vec ve],.slice (some ⟨gQ',0,none⟩) (Q++E).length cQ',v2,v3) hw' (Nat.lt_succ_self f') (by repeat' (first | exact True.intro | refine And.intro rfl ?_)) (by dsimp only;rw[htk];simp;rfl)
    · obtain⟨e,rfl⟩:=hfin _ _ _ _ hw c1
      rw[e]
      repeat(first|refine GC ?_|refine gV (rr_rowlen (i:=5) Und.eq rfl rfl) ?_|refine gV (rr_loadB (i:=4) TyC.ty rfl rfl rfl) ?_|refine GB ?_)
      refine TL_slv (i:=6) rfl fun hc1 ho1 => ?_
      refine TL_slv (i:=7) rfl fun hc2 ho2 => ?_
      refine TL_storeB (i:=1) (cs':=(dfaV vR vT).cells) rfl rfl rfl rfl (by show ([vR,vT].all Value.oneCell')=true;simp[ho1,ho2]) rfl ?_
      conv=>arg 8;simp only[zA,zB,zC,zD,zE,zF,zG,zH,zI,rowS,ret,id_eq]
      try refine GA ?_
      refine E_retc2 (i:=1) rfl rfl rfl rfl rfl fun w hm => ?_
      exact hm.meets (S:=⟨fun (_:Value×Value)=>True,fun x=> .tuple #[dfaV x.1 x.2,.int .i64 0],fun x=>[rowO 138 256 x.1 out.length (out.flatMap rowC),rowO 3 1 x.2 (Q.map (aut R tags).tag).length ((Q.map (aut R tags).tag).flatMap kit.intC)]⟩) (vR,vT) trivial [6,7] (by decide) (by simp)
  · have er:minR R tags=[]:=if_neg hc
    have et:minT R tags=[]:=if_neg hc
    unfold minS
    rw[er,et]
    generalize chk R tags=e at *
    refine enter (args:=[dfaV (.slice br R.length cr) (.slice bt tags.length ct)]) (n:=113) Try.func24 rfl rfl rfl ?_
    refine T_seq (T_region (TL_box rfl rfl rfl fun g1 => ?_))
    refine TL_new rfl fun g2 => ?_
    conv=>arg 8;simp only[zA,zB,zC,zD,zE,zF,zG,zH,zI,rowS,ret,id_eq]
    repeat(first|refine GA ?_|refine gV (rr_loadB (i:=0) TyC.ty rfl rfl rfl) ?_)
    refine TL_call (he1 EntersC.en rfl rfl) (fun w hm=>hck _ hm.below) rfl rfl rfl ?_
    intro _ _
    repeat(first|refine GC ?_|refine gV (rr_build rfl build_dfa0) ?_|refine gV (rr_neq (b:=true) rfl rfl (decide_eq_true hc)) ?_|refine GB ?_)
    refine TL_storeB (i:=1) rfl rfl rfl rfl rfl rfl ?_
    conv=>arg 8;simp only[zA,zB,zC,zD,zE,zF,zG,zH,zI,rowS,ret,id_eq]
    try refine GA ?_
    refine E_nilrow 138 256 (E_nilrow 3 1 ?_)
    refine E_retc2 (i:=1) rfl rfl rfl rfl rfl fun w hm => ?_
    exact hm.meets (S:=⟨fun (_:Value×Value)=>True,fun x=> .tuple #[dfaV x.1 x.2,.int .i64 e],fun x=>[rowO 138 256 x.1 0 [],rowO 3 1 x.2 0 []]⟩) (.slice none 0 0,.slice none 0 0) trivial [2,3] (by decide) rfl
end Go.Proofs.Ytldiodhdefnlaaa.eng

/- SmY -/
namespace Go.Proofs.Ytldiodhdefnlaaa.eng
open Go.RowKit kit mix dfaL smallL
theorem chk_rng {R:List Row} {tags:List Int} (h:chk R tags=0):(∀ r∈R,∀ x∈r.toList,-32768≤x∧x≤32767)∧∀ x∈tags,kit.okI64 x:=by
  obtain⟨hA,hl⟩:=chk_ok h
  have hle:R.length≤200:=hA.le
  refine⟨fun r hr x hx => ?_,fun x hx => ?_⟩
  · obtain⟨i,hi,rfl⟩:=List.mem_iff_getElem.1 hr
    obtain⟨b,hb,rfl⟩:=List.mem_iff_getElem.1 hx
    have hb':b<256:=by simpa using hb
    have:=hA.step i hi b hb'
    rw[aut_d hi hb'] at this
    have e:(aut R tags).n=R.length:=rfl
    rw[Vector.getElem_toList]
    omega
  · obtain⟨i,hi,rfl⟩:=List.mem_iff_getElem.1 hx
    have:=hA.tags i (by show i<R.length;omega)
    rw[aut_tag hi] at this
    exact⟨by omega,by omega⟩
theorem Mem.dfaM {B:Base} {w:World} {L:List Own} {i j:Nat} {vr vt:Value} {R:List Row} {tags:List Int} (hm:Mem B L w) (hi:L[i]?=some (rowO 138 256 vr R.length (R.flatMap rowC))) (hj:L[j]?=some (rowO 3 1 vt tags.length (tags.flatMap kit.intC))) (hc:chk R tags=0):DfaM w vr vt R tags:=
  ⟨sl_row hi _ hm,sl_row hj _ hm,(chk_rng hc).1,(chk_rng hc).2⟩
end Go.Proofs.Ytldiodhdefnlaaa.eng

/- DfX -/
namespace Go.Proofs.Ytldiodhdefnlaaa.eng
open Go.RowKit kit mix classL rexL placesL dfaP smallL
set_option maxRecDepth 100000 in
theorem eq_set (x y:C4) (w:World):(Op.equalIn 10000 162 (.agg (clsL x).toArray) (.agg (clsL y).toArray)).run Try.prog w = .ok (decide (x=y)) w:=by
  show (Op.equalIn 10000 162 (.agg #[v64 x.a,v64 x.b,v64 x.c,v64 x.d]) (.agg #[v64 y.a,v64 y.b,v64 y.c,v64 y.d])).run Try.prog w=_
  have e:(Op.equalIn 10000 162 (.agg #[v64 x.a,v64 x.b,v64 x.c,v64 x.d]) (.agg #[v64 y.a,v64 y.b,v64 y.c,v64 y.d])).run Try.prog w = .ok ((n64 x.a == n64 y.a) && ((n64 x.b == n64 y.b) && ((n64 x.c == n64 y.c) && (n64 x.d == n64 y.d)))) w:=by
    unfold v64
    rw[run_equalIn_array (P:=Try.prog) w 9999 (n:=4) (e:= 64) _ _ rfl rfl]
    have h1:Try.prog.cellsOf 64 = 1:=rfl
    simp[Op.eqItems,go_sem,List.range_succ_eq_map,h1]
    by_cases e1:n64 x.a=n64 y.a <;> by_cases e2:n64 x.b=n64 y.b <;> by_cases e3:n64 x.c=n64 y.c <;> by_cases e4:n64 x.d=n64 y.d <;> simp[e1,e2,e3,e4]
  rw[e]
  congr 1
  by_cases h:x=y
  · subst h;simp
  · rw[decide_eq_false h]
    by_cases e1:n64 x.a=n64 y.a <;> by_cases e2:n64 x.b=n64 y.b <;> by_cases e3:n64 x.c=n64 y.c <;> by_cases e4:n64 x.d=n64 y.d <;> simp[e1,e2,e3,e4]
    exact h (C4.ext' (n64_inj e1) (n64_inj e2) (n64_inj e3) (n64_inj e4))
theorem build_set0 (w:World):(Instr.build 162 (#[]:Array (Nat×Value))).run Try.prog w = .ok (.agg (clsL C4.zero).toArray) w:=by kernel_rfl
theorem wrap16d {x:Int} (h0 : -32768≤x) (h1:x≤32767):IntKind.i16.wrap x=x:=by
  simp only[IntKind.wrap,IntKind.bits,IntKind.signed]
  simp
  omega
theorem row_oneA (r:Row):(rowC r).toArray.toList.all Value.oneCell'=true:=List.all_eq_true.2 fun u hu=>row_one [r] u (by simpa using hu)
def rowSp (m:MS) (vc vr vf vfol vl ve rows:Value) (g gm n:Nat) (d:DM):Spec (Value×Value):=
  ⟨fun _=>True,fun _=>rowV (rowP m n d).1,fun x=>dmL vc vr vf vfol vl ve rows g gm x.1 x.2 (rowP m n d).2⟩
theorem to_step (p:PS) (all:C4) (b i:Nat):toTo p all b (i+1)=if all.mem i=true∧(p.classes.getD i C4.zero).mem b=true then (toTo p all b i).bit i else toTo p all b i:=rfl
theorem rowTo_step (p:PS) (all:C4) (f b:Nat) (r:Row) (d:DM):rowTo p all (f+1) b r d=if 200<(cellF p all b r d).2.S.length+1 then cellF p all b r d else rowTo p all f (b+1) (cellF p all b r d).1 (cellF p all b r d).2:=rfl
theorem cellF_0 {p:PS} {all:C4} {b:Nat} {r:Row} {d:DM} (hb:b<256) (h:toF p all b=C4.zero):cellF p all b r d=(r.set b (-1),d):=by unfold cellF;rw[if_pos h,dif_pos hb]
theorem cellF_1 {p:PS} {all:C4} {b:Nat} {r:Row} {d:DM} (hb:b<256) (h:toF p all b≠C4.zero):cellF p all b r d=((r.set b (-1)).set b ((stateF p d (toF p all b)).1:Int),(stateF p d (toF p all b)).2):=by unfold cellF;rw[if_neg h,dif_pos hb]
set_option maxRecDepth 100000 in
set_option maxHeartbeats 8000000 in
theorem dfaRow_calls (m:MS) (vc vr vf vfol vl ve rows:Value) (d:DM) (g gm n:Nat) (vs vt:Value) (w0:World) (hp:PosR w0 (.agg #[vc,vr,vf,vfol,vl,ve]) m) (h:MOkP m) (hd:DOk m.ps d) (hd2:d.S.length+1≤200) (hn:n≤d.S.length) (w:World) (B:Base) (ho:Old w0 B)
    (hm:Mem B (dmL vc vr vf vfol vl ve rows g gm vs vt d) w) :
    Calls Try.prog 39 #[.pointer (some ⟨g,0,none⟩),.int .i64 (n:Int)] w (MeetsB (rowSp m vc vr vf vfol vl ve rows g gm n d) B):=by
  have hnx:=fun w' (hg:Gr w0 w') h1 h2=>dfaNext_calls m vc vr vf vfol vl ve vs (.map (some gm)) rows vt d.S g n w' (hp.gr hg) h h1 h2 hn
  have hst:=fun d' s vs' vt' h1 h2 w' B' ho' hm'=>dfaState_calls m vc vr vf vfol vl ve rows d' s g gm vs' vt' w0 hp h h1 h2 w' B' ho' hm'
  obtain⟨_,_,_,_,_,_,he,h1,-⟩:=hp
  simp only[Value.agg.injEq,Array.mk.injEq,List.cons.injEq,and_true] at he
  obtain⟨rfl,rfl,rfl,rfl,rfl,rfl⟩:=he
  have hmf:=h.few
  clear h
  obtain⟨ac,cc,rfl,-,-,hrc⟩:=h1
  unfold rowSp rowP
  generalize nextF m d.S n=all at *
  obtain⟨p,fi,em⟩:=m
  dsimp only at *
  unfold dmL at hm
  have hB0:=build_set0
  refine enterB hm (args:=[.pointer (some ⟨g,0,none⟩),.int .i64 (n:Int)]) (n:=60) Try.func39 rfl rfl rfl ?_
  clear hm
  refine T_seq (T_region (TL_new rfl fun g4 => ?_))
  conv=>arg 8;simp only[zA,zB,zC,zD,zE,zF,zG,zH,zI,rowS,ret,id_eq]
  rw[zero_row]
  try refine GA ?_
  refine TL_call (he2 EntersC.en rfl rfl rfl) (fun w hm=>hnx w (ho.mem hm) (hm.get (i:=0) rfl) (Sl.of_own (hm.get (i:=1) rfl))) rfl rfl rfl ?_
  intro _ _
  conv=>arg 8;simp only[zA,zB,zC,zD,zE,zF,zG,zH,zI,rowS,ret,id_eq]
  clear hnx
  try refine GA ?_
  refine TL_new rfl fun g5 => ?_
  conv=>arg 8;simp only[zA,zB,zC,zD,zE,zF,zG,zH,zI,rowS,ret,id_eq]
  refine TL_storeB (i:=5) (cs':=(clsL all).toArray) rfl rfl rfl rfl rfl rfl ?_
  conv=>arg 8;simp only[zA,zB,zC,zD,zE,zF,zG,zH,zI,rowS,ret,id_eq]
  try refine GA ?_
  refine TL_new rfl fun g6 => ?_
  conv=>arg 8;simp only[zA,zB,zC,zD,zE,zF,zG,zH,zI,rowS,ret,id_eq]
  rw[zero_row]
  try refine GA ?_
  clear hn
  generalize hfin:rowTo p all 256 0 (Vector.replicate 256 0) d=fin
  refine T_loop (ι:=Nat×Row×DM×Value×Value) (fun (b,r,d,_,_)=>b≤256∧DOk p d∧d.S.length+1≤200∧rowTo p all (256 - b) b r d=fin) (fun (b,_,_,_,_)=>[(0,.pointer (some ⟨g,0,none⟩)),(4,.pointer (some ⟨g4,0,none⟩)),(5,.pointer (some ⟨g5,0,none⟩)),(6,.pointer (some ⟨g6,0,none⟩)),(14,.int .i64 (b:Int))])
    (fun (_,r,d,vs,vt)=>[blkO g (dmC (.slice ac p.classes.length cc) vr vf vfol vl ve vs (.map (some gm)) rows vt) 135,setsO vs d.S,numO gm d.S,intR vt d.tags,blkO g4 (rowC (Vector.replicate 256 0)).toArray 138,blkO g5 (clsL all).toArray 162,blkO g6 (rowC r).toArray 138]) (fun (b,_,_,_,_)=>256 - b) (0,Vector.replicate 256 0,d,vs,vt) ⟨Nat.zero_le _,hd,hd2,hfin⟩ (by repeat' (first | exact True.intro | refine And.intro rfl ?_)) rfl ?_
  clear hd hd2 hfin d vs vt
  rintro⟨b,r,d,vs,vt⟩ ⟨i1,i2,i3,i4⟩
  dsimp only at i1 i2 i3 i4 ⊢
  by_cases c1:b<256
  · rw[show 256 - b=(256 - (b+1))+1 by omega,rowTo_step] at i4
    try refine GA ?_
    refine TL_new rfl fun g8 => ?_
    conv=>arg 8;simp only[zA,zB,zC,zD,zE,zF,zG,zH,zI,rowS,ret,id_eq]
    repeat(first|refine GA ?_|refine gV (rr_load1 (v:= .slice ac p.classes.length cc) TyC.ty rfl (at_blk (i:=0) rfl rfl)) ?_)
    refine T_loop (ι:=Nat) (fun k=>k≤p.classes.length) (fun k=>[(0,.pointer (some ⟨g,0,none⟩)),(4,.pointer (some ⟨g4,0,none⟩)),(5,.pointer (some ⟨g5,0,none⟩)),(6,.pointer (some ⟨g6,0,none⟩)),(7,.int .i64 (b:Int)),(8,.pointer (some ⟨g8,0,none⟩)),(14,.int .i64 (b:Int)),(21,.slice ac p.classes.length cc),(22,.int .i64 p.classes.length),(23,.int .i64 (k:Int))])
      (fun k=>[blkO g (dmC (.slice ac p.classes.length cc) vr vf vfol vl ve vs (.map (some gm)) rows vt) 135,setsO vs d.S,numO gm d.S,intR vt d.tags,blkO g4 (rowC (Vector.replicate 256 0)).toArray 138,blkO g5 (clsL all).toArray 162,blkO g6 (rowC r).toArray 138,blkO g8 (clsL (toTo p all b k)).toArray 162]) (fun k=>p.classes.length - k) 0 (Nat.zero_le _) (by repeat' (first | exact True.intro | refine And.intro rfl ?_)) rfl ?_
    intro k hk
    by_cases c2:k<p.classes.length
    · have hts:=to_step p all b k
      have hgd:p.classes.getD k C4.zero=p.classes[k]:=by rw[List.getD_eq_getElem?_getD,List.getElem?_eq_getElem c2];rfl
      rw[hgd] at hts
      obtain⟨bc,offc,rfl,hrcd⟩:=hrc (by omega)
      have hatc:=fun (L:List Own)=>at_elO (L:=L) (f:=clsL) (c:=4) (fun _=>rfl) ho hrcd c2
      clear hrcd hrc hgd
      generalize p.classes[k]=c at *
      have hatc':∀ (L:List Own) (j:Nat) (u:Value),(clsL c)[j]?=some u→At B L ⟨bc,offc+k*4+j,none⟩ u:=hatc
      clear hatc
      have hhas:=fun w=>setHas_calls all k (by omega) w
      have hchs:=fun w=>has_calls c b c1 w
      generalize toTo p all b k=tz at *
      generalize all.mem k=b1 at *
      generalize c.mem b=b2 at *
      have hu8:IntKind.u8.wrap (b:Int)=(b:Int):=by rw[IntKind.wrap_u8];omega
      repeat(first|refine GA ?_|refine gV (rr_idxc Und.eq TyC.ty rfl rfl c2) ?_|refine gV (rr_loadN (cs:=clsL c) TyC.ty rfl rfl (hatc' _)) ?_)
      refine TL_new rfl fun g10 => ?_
      conv=>arg 8;simp only[zA,zB,zC,zD,zE,zF,zG,zH,zI,rowS,ret,id_eq]
      try refine GA ?_
      refine TL_storeB (i:=8) (cs':=(clsL c).toArray) rfl rfl rfl rfl rfl rfl ?_
      conv=>arg 8;simp only[zA,zB,zC,zD,zE,zF,zG,zH,zI,rowS,ret,id_eq]
      repeat(first|refine GA ?_|refine gV (rr_loadB (i:=5) TyC.ty rfl rfl rfl) ?_)
      refine TL_call (he2 EntersC.en rfl rfl rfl) (fun w hm=>hhas w) rfl rfl rfl ?_
      intro _ _
      conv=>arg 8;simp only[zA,zB,zC,zD,zE,zF,zG,zH,zI,rowS,ret,id_eq]
      by_cases q1:b1=true
      · subst q1
        repeat(first|refine GA ?_|refine gV (rr_loadB (i:=8) TyC.ty rfl rfl rfl) ?_|refine gV (rr_conv Und.eq Und.eq rfl hu8) ?_)
        refine TL_gcall (he2 EntersC.en rfl rfl rfl) (fun w hm=>hchs w) rfl rfl rfl rfl rfl ?_
        intro _ _
        conv=>arg 8;simp only[zA,zB,zC,zD,zE,zF,zG,zH,zI,rowS,ret,id_eq]
        by_cases q2:b2=true
        · subst q2
          rw[if_pos ⟨rfl,rfl⟩] at hts
          try refine GA ?_
          refine TL_callB [7] [0,1,2,3,4,5,6] (by decide) rfl rfl (he2 EntersC.en rfl rfl rfl) (fun w hm hb=>setPut_calls tz k (by omega) g8 w _ hb) rfl rfl rfl ?_
          intro _ _
          conv=>arg 8;simp only[zA,zB,zC,zD,zE,zF,zG,zH,zI,rowS,ret,id_eq]
          try refine GA ?_
          exact E_round (k+1) (by omega) (by show p.classes.length - (k+1)<p.classes.length - k;omega) (by repeat' (first | exact True.intro | refine And.intro rfl ?_)) (by rw[hts])
        · rw[if_neg (fun h=>q2 h.2)] at hts
          obtain rfl:=Bool.eq_false_iff.2 q2
          try refine GA ?_
          refine E_pick [0,1,2,3,4,5,6,7] (by decide) rfl ?_
          exact E_round (k+1) (by omega) (by show p.classes.length - (k+1)<p.classes.length - k;omega) (by repeat' (first | exact True.intro | refine And.intro rfl ?_)) (by rw[hts];rfl)
      · rw[if_neg (fun h=>q1 h.1)] at hts
        obtain rfl:=Bool.eq_false_iff.2 q1
        try refine GA ?_
        refine E_pick [0,1,2,3,4,5,6,7] (by decide) rfl ?_
        exact E_round (k+1) (by omega) (by show p.classes.length - (k+1)<p.classes.length - k;omega) (by repeat' (first | exact True.intro | refine And.intro rfl ?_)) (by rw[hts];rfl)
    · obtain rfl:k=p.classes.length:=by omega
      have hF:toTo p all b p.classes.length=toF p all b:=rfl
      rw[hF]
      have hc0:=cellF_0 (p:=p) (all:=all) (r:=r) (d:=d) c1
      have hc1:=cellF_1 (p:=p) (all:=all) (r:=r) (d:=d) c1
      have heq:=eq_set (toF p all b) C4.zero
      clear hF hrc
      generalize toF p all b=tz at *
      repeat(first|refine GA ?_|refine gV (rr_aidx1 Und.eq TyC.ty rfl rfl c1) ?_)
      refine TL_storeV (i:=6) rfl rfl rfl c1 ?_
      conv=>arg 8;simp only[zA,zB,zC,zD,zE,zF,zG,zH,zI,rowS,ret,id_eq]
      by_cases q1:tz=C4.zero
      · rw[decide_eq_true q1] at heq
        rw[hc0 q1,if_neg (by show ¬ 200<d.S.length+1;omega)] at i4
        refine TL_know (i:=1) rfl row_slm fun hrow => ?_
        obtain⟨ab,cs,rfl,hmS,-⟩:=hrow
        repeat(first|refine GC ?_|refine gV (rr_loadB (i:=7) TyC.ty rfl rfl rfl) ?_|refine gV (rr_build rfl hB0) ?_|refine gV (rr_aggne rfl rfl (by kernel_rfl) heq rfl) ?_|refine gV (rr_load1 (v:= .slice ab (d.S.length+1) cs) TyC.ty rfl (at_blk (i:=0) rfl rfl)) ?_|refine gV (rr_gtr (b:=false) rfl rfl (decide_eq_false (by omega))) ?_|refine GB ?_)
        refine E_pick [0,1,2,3,4,5,6] (by decide) rfl ?_
        exact E_round (b+1,r.set b (-1),d,.slice ab (d.S.length+1) cs,vt) ⟨by omega,i2,i3,i4⟩ (by show 256 - (b+1)<256 - b;omega) (by repeat' (first | exact True.intro | refine And.intro rfl ?_)) rfl
      · rw[decide_eq_false q1] at heq
        rw[hc1 q1] at i4
        obtain⟨s1,s2,s3,s4,s5⟩:=state_ok i2 tz
        repeat(first|refine GC ?_|refine gV (rr_loadB (i:=7) TyC.ty rfl rfl rfl) ?_|refine gV (rr_build rfl hB0) ?_|refine gV (rr_aggne rfl rfl (by kernel_rfl) heq rfl) ?_|refine GB ?_)
        refine TL_callB [0,1,2,3] [4,5,6,7] (by decide) rfl rfl (he2 EntersC.en rfl rfl rfl) (fun w hm hb=>hst d tz vs vt (by omega) (by have:=i2.tags;omega) w _ (ho.on hm (by simp[dmL])) hb) rfl rfl rfl ?_
        rintro⟨vs',vt'⟩ _
        conv=>arg 8;simp only[zA,zB,zC,zD,zE,zF,zG,zH,zI,rowS,ret,id_eq,stSp,dmL]
        conv=>arg 7;simp only[stSp]
        generalize stateF p d tz=R at *
        obtain⟨q,d'⟩:=R
        dsimp only at i4 s1 s2 s3 s4 s5 ⊢
        have hq:q≤200:=by omega
        refine TL_know (i:=5) rfl row_slm fun hrow => ?_
        obtain⟨ab,cs,rfl,hmS,-⟩:=hrow
        repeat(first|refine GA ?_|refine gV (rr_conv Und.eq Und.eq rfl (wrap16d (by omega) (by omega))) ?_|refine gV (rr_aidx1 Und.eq TyC.ty rfl rfl c1) ?_)
        refine TL_storeV (i:=2) rfl rfl rfl c1 ?_
        conv=>arg 8;simp only[zA,zB,zC,zD,zE,zF,zG,zH,zI,rowS,ret,id_eq]
        generalize (r.set b (-1)).set b (q:Int)=r' at *
        by_cases q2:200<d'.S.length+1
        · rw[if_pos q2] at i4
          subst i4
          repeat(first|refine GC ?_|refine gV (rr_load1 (v:= .slice ab (d'.S.length+1) cs) TyC.ty rfl (at_blk (i:=4) rfl rfl)) ?_|refine gV (rr_gtr (b:=true) rfl rfl (decide_eq_true (by omega))) ?_|refine gV (rr_loadB (i:=2) TyC.ty rfl rfl (by rw[List.size_toArray,rowC_len])) ?_|refine GB ?_)
          refine TL_storeB (i:=0) (cs':=(rowC r').toArray) rfl rfl rfl (by rw[List.size_toArray,rowC_len]) (row_oneA r') (by rw[List.size_toArray,rowC_len]) ?_
          conv=>arg 8;simp only[zA,zB,zC,zD,zE,zF,zG,zH,zI,rowS,ret,id_eq]
          try refine GA ?_
          exact E_retc1 (i:=0) rfl rfl rfl (by rw[List.size_toArray,rowC_len]) fun w hm=>hm.meetsB (S:=⟨fun (_:Value×Value)=>True,fun _=>rowV r',fun x=>dmL (.slice ac p.classes.length cc) vr vf vfol vl ve rows g gm x.1 x.2 d'⟩) (.slice ab (d'.S.length+1) cs,vt') trivial [4,5,6,7] (by decide) rfl
        · rw[if_neg q2] at i4
          repeat(first|refine GC ?_|refine gV (rr_load1 (v:= .slice ab (d'.S.length+1) cs) TyC.ty rfl (at_blk (i:=4) rfl rfl)) ?_|refine gV (rr_gtr (b:=false) rfl rfl (decide_eq_false (by omega))) ?_|refine GB ?_)
          refine E_pick [4,5,6,7,0,1,2] (by decide) rfl ?_
          exact E_round (b+1,r',d',.slice ab (d'.S.length+1) cs,vt') ⟨by omega,s1,by show d'.S.length+1≤200;omega,i4⟩ (by show 256 - (b+1)<256 - b;omega) (by repeat' (first | exact True.intro | refine And.intro rfl ?_)) rfl
  · obtain rfl:b=256:=by omega
    have i4:(r,d)=fin:=i4
    subst i4
    repeat(first|refine GA ?_|refine gV (rr_loadB (i:=6) TyC.ty rfl rfl (by rw[List.size_toArray,rowC_len])) ?_)
    refine TL_storeB (i:=4) (cs':=(rowC r).toArray) rfl rfl rfl (by rw[List.size_toArray,rowC_len]) (row_oneA r) (by rw[List.size_toArray,rowC_len]) ?_
    conv=>arg 8;simp only[zA,zB,zC,zD,zE,zF,zG,zH,zI,rowS,ret,id_eq]
    try refine GA ?_
    exact E_retc1 (i:=4) rfl rfl rfl (by rw[List.size_toArray,rowC_len]) fun w hm=>hm.meetsB (S:=⟨fun (_:Value×Value)=>True,fun _=>rowV r,fun x=>dmL (.slice ac p.classes.length cc) vr vf vfol vl ve rows g gm x.1 x.2 d⟩) (vs,vt) trivial [0,1,2,3] (by decide) rfl
end Go.Proofs.Ytldiodhdefnlaaa.eng

/- DfM -/
namespace Go.Proofs.Ytldiodhdefnlaaa.eng
open Go.RowKit kit mix classL rexL placesL dfaP smallL
def outD (m:MS):List Row×List Int×Int:=match makeD m with
  | some (R,d)=>(R,d.tags,0)
  | none=>([],[],8)
def mkdSp (m:MS):Spec (Value×Value):=⟨fun _=>True,fun x=> .tuple #[dfaV x.1 x.2,.int .i64 (outD m).2.2],fun x=>[rowO 138 256 x.1 (outD m).1.length ((outD m).1.flatMap rowC),intR x.2 (outD m).2.1]⟩
theorem outD_0 {m:MS} {R:List Row} {d:DM} (h:makeD m=some (R,d)):outD m=(R,d.tags,0):=by unfold outD;rw[h]
theorem outD_8 {m:MS} (h:makeD m=none):outD m=([],[],8):=by unfold outD;rw[h]
theorem make_step (m:MS) (f n:Nat) (R:List Row) (d:DM):makeTo m (f+1) n R d=if n<d.S.length+1 then (if 200<(rowP m n d).2.S.length+1 then none else makeTo m f (n+1) (R++[(rowP m n d).1]) (rowP m n d).2) else some (R,d):=rfl
theorem build_dfaz (w:World):(Instr.build 95 (#[]:Array (Nat×Value))).run Try.prog w = .ok (.agg #[.slice none 0 0,.slice none 0 0]) w:=by kernel_rfl
theorem build_dm (vc vr vf vfol vl ve:Value) (g gm:Nat) (w:World):(Instr.build 135 #[(0,.agg #[vc,vr,vf,vfol,vl,ve]),(1,.slice (some ⟨g,0,none⟩) 1 1),(2,.map (some gm))]).run Try.prog w = .ok (.agg (dmC vc vr vf vfol vl ve (.slice (some ⟨g,0,none⟩) 1 1) (.map (some gm)) (.slice none 0 0) (.slice none 0 0))) w:=by
  unfold dmC;go_simp
theorem row_set1 {g:Nat} {w:World} (h:(blkO g (madeCells #[Value.int .u64 0,Value.int .u64 0,Value.int .u64 0,Value.int .u64 0] (1*4)) 162).holds w):(setsO (.slice (some ⟨g,0,none⟩) 1 1) []).holds w:=by
  rw[madeC (k:=4) rfl (by decide)] at h
  exact⟨rfl,.inr ⟨g,1,_,rfl,Nat.zero_le _,h,Nat.le_refl _,by decide,rfl,rfl⟩⟩
theorem row_snocR (v:Value) (R:List Row) (r:Row):rowO 138 256 v (R++[r]).length ((R++[r]).flatMap rowC)=rowO 138 256 v (R.length+1) (R.flatMap rowC++rowC r):=by
  rw[List.length_append,List.flatMap_append];simp
theorem dmc_at {vc vr vf vfol vl ve vs num rows tags v:Value} {j:Nat} (h:[rows,tags][j]?=some v):(dmC vc vr vf vfol vl ve vs num rows tags)[8+j]?=some v:=by
  match j,h with
  | 0,h=>exact h
  | 1,h=>exact h
theorem row_lit (r:Row):(rowC r).toArray=([rowV r].flatMap fun v=>v.cells.toList).toArray:=by
  show _=((rowC r).toArray.toList++[]).toArray
  simp
theorem row_litn (r:Row):∀ v∈[rowV r],v.cells.size=256:=by
  intro v hv
  rw[List.mem_singleton.1 hv]
  show (rowC r).toArray.size=256
  rw[List.size_toArray,rowC_len]
set_option maxRecDepth 100000 in
set_option maxHeartbeats 8000000 in
theorem dfaMake_calls (v:Value) (m:MS) (w:World) (hp:PosR w v m) (h:MOkP m) :
    Calls Try.prog 23 #[v] w (Meets (mkdSp m) w):=by
  have hck:=fun w' (hg:Gr w w')=>posCheck_calls v m w' (hp.gr hg) h
  obtain⟨vc,vr,vf,vfol,vl,ve,rfl,h1,h2,h3,h4,h5,h6⟩:=id hp
  have hrw:=fun rows d g gm n vs vt hd hd2 hn w' B ho hm=>dfaRow_calls m vc vr vf vfol vl ve rows d g gm n vs vt w hp h hd hd2 hn w' B ho hm
  clear h1 h2 h3 h4 h5 hp
  have hms:=h.some
  have hmm:=h.most
  clear h
  obtain⟨ae,ce,rfl,-,hme,hre⟩:=h6
  unfold maxLen at hme
  have hbz:=build_dfaz
  refine enter (args:=[.agg #[vc,vr,vf,vfol,vl,.slice ae m.empty.length ce]]) (n:=78) Try.func23 rfl rfl rfl ?_
  refine T_seq (T_region (TL_box rfl rfl rfl fun g1=>TL_new rfl fun g2 => ?_))
  conv=>arg 8;simp only[zA,zB,zC,zD,zE,zF,zG,zH,zI,rowS,ret,id_eq]
  repeat(first|refine GA ?_|refine gV (rr_loadB (i:=0) TyC.ty rfl rfl rfl) ?_)
  refine TL_call (he1 EntersC.en rfl rfl) (fun w hm=>hck _ hm.below) rfl rfl rfl ?_
  intro _ _
  conv=>arg 8;simp only[zA,zB,zC,zD,zE,zF,zG,zH,zI,rowS,ret,id_eq]
  clear hck
  repeat(first|refine GC ?_|refine gV (rr_neq (b:=false) rfl rfl (decide_eq_false (by simp))) ?_|refine GB ?_)
  (repeat refine T_seq ?_)
  refine T_midq (ι:=Nat×Nat×Nat) (fun _=>True) (fun (_,_,g5)=>[(1,.pointer (some ⟨g1,0,none⟩)),(2,.pointer (some ⟨g2,0,none⟩)),(5,.pointer (some ⟨g5,0,none⟩))])
    (fun (gs,gm,g5)=>[blkO g1 #[vc,vr,vf,vfol,vl,.slice ae m.empty.length ce] 90,blkO g2 #[.slice none 0 0,.slice none 0 0] 95,blkO g5 (dmC vc vr vf vfol vl (.slice ae m.empty.length ce) (.slice (some ⟨gs,0,none⟩) 1 1) (.map (some gm)) (.slice none 0 0) (.slice none 0 0)) 135,setsO (.slice (some ⟨gs,0,none⟩) 1 1) [],numO gm []]) ?_ ?_
  · refine T_ord ([blkO g1 #[vc,vr,vf,vfol,vl,.slice ae m.empty.length ce] 90]) (.calm 0 (.two 1 (.one 2 (.calm 3 (.one 4 (.calm 5 (.done))))) 2 (.one 1 (.calm 3 (.one 4 (.calm 5 (.done))))))) (sub_pick [0] (by decide) rfl) (by kernel_rfl) (by kernel_rfl) (by intro c a d v w h;cases d <;> exact h) ?_
    repeat(first|refine GW ?_|(refine GN ?_;first|refine QW (rr_loadB (i:=0) TyC.ty rfl rfl rfl) ?_))
    refine TW_two rfl rfl ?_ ?_
    · refine TL_makeB (m:=1) (cap:=1) rfl rfl (Nat.le_refl 1) (by decide) (by decide) rfl fun gs=>TW_on (sub_pick [0] (by decide) rfl) ?_
      refine TW_one rfl (TL_map setK rfl fun gm=>TW_on (sub_pick [0] (by decide) rfl) ?_)
      repeat(first|refine GW ?_|(refine GN ?_;first|refine QW (rr_build rfl (build_dm _ _ _ _ _ _ _ _)) ?_))
      refine TW_one rfl (TL_box rfl rfl rfl fun g5=>TW_on (sub_pick [0] (by decide) rfl) ?_)
      try refine GW ?_
      refine E_reown (i:=2) (setsO (.slice (some ⟨gs,0,none⟩) 1 1) []) rfl (fun w h=>row_set1 h) (fun k h=>h) ?_
      refine E_reown (i:=3) (numO gm []) rfl (fun w h=>by unfold numO;rw[←mapAt1_nil];exact h) (fun k h=>h) ?_
      refine E_pick [0,1,4,2,3] (by decide) rfl ?_
      exact E_mid (gs,gm,g5) trivial (by repeat' (first | exact True.intro | refine And.intro rfl ?_)) rfl
    · refine TL_map setK rfl fun gm=>TW_on (sub_pick [0] (by decide) rfl) ?_
      refine TW_one rfl (TL_makeB (m:=1) (cap:=1) rfl rfl (Nat.le_refl 1) (by decide) (by decide) rfl fun gs=>TW_on (sub_pick [0] (by decide) rfl) ?_)
      repeat(first|refine GW ?_|(refine GN ?_;first|refine QW (rr_build rfl (build_dm _ _ _ _ _ _ _ _)) ?_))
      refine TW_one rfl (TL_box rfl rfl rfl fun g5=>TW_on (sub_pick [0] (by decide) rfl) ?_)
      try refine GW ?_
      refine E_reown (i:=3) (setsO (.slice (some ⟨gs,0,none⟩) 1 1) []) rfl (fun w h=>row_set1 h) (fun k h=>h) ?_
      refine E_reown (i:=2) (numO gm []) rfl (fun w h=>by unfold numO;rw[←mapAt1_nil];exact h) (fun k h=>h) ?_
      refine E_pick [0,1,4,3,2] (by decide) rfl ?_
      exact E_mid (gs,gm,g5) trivial (by repeat' (first | exact True.intro | refine And.intro rfl ?_)) rfl
  rintro⟨gs,gm,g5⟩ _
  dsimp only
  try refine GA ?_
  refine TL_litN (cs:=#[.int .i64 (-1)]) [.int .i64 (-1)] rfl rfl rfl (by intro v hv;simp at hv;subst hv;rfl) rfl rfl rfl fun g20 => ?_
  conv=>arg 8;simp only[zA,zB,zC,zD,zE,zF,zG,zH,zI,rowS,ret,id_eq]
  try refine GA ?_
  refine TL_store1 (i:=2) rfl rfl rfl rfl rfl rfl ?_
  conv=>arg 8;simp only[zA,zB,zC,zD,zE,zF,zG,zH,zI,rowS,ret,id_eq]
  repeat(first|refine GC ?_|refine gV (rr_load1 (v:= .slice ae m.empty.length ce) TyC.ty rfl (at_blk (i:=0) rfl rfl)) ?_|refine gV (rr_sub64 (r:=(m.empty.length:Int) - 1) rfl rfl (by omega) (by omega) rfl) ?_|refine GB ?_)
  refine T_loop (ι:=Nat) (fun k=>k≤m.empty.length) (fun k=>[(1,.pointer (some ⟨g1,0,none⟩)),(2,.pointer (some ⟨g2,0,none⟩)),(5,.pointer (some ⟨g5,0,none⟩)),(6,.int .i64 ((k:Int) - 1))])
    (fun k=>[blkO g1 #[vc,vr,vf,vfol,vl,.slice ae m.empty.length ce] 90,blkO g2 #[.slice none 0 0,.slice none 0 0] 95,blkO g5 (dmC vc vr vf vfol vl (.slice ae m.empty.length ce) (.slice (some ⟨gs,0,none⟩) 1 1) (.map (some gm)) (.slice none 0 0) (.slice (some ⟨g20,0,none⟩) 1 1)) 135,setsO (.slice (some ⟨gs,0,none⟩) 1 1) [],numO gm [],blkO g20 #[.int .i64 (firstT (m.empty.drop k) k)] 3]) (fun k=>k) m.empty.length (Nat.le_refl _) (by repeat' (first | exact True.intro | refine And.intro rfl ?_)) (by rw[List.drop_eq_nil_of_le (Nat.le_refl _)];rfl) ?_
  intro k hk
  by_cases c1:0<k
  · obtain⟨j,rfl⟩:∃ j,k=j+1:=⟨k - 1,by omega⟩
    have hj:j<m.empty.length:=by omega
    obtain⟨be,offe,rfl,hred⟩:=hre (by omega)
    have hate:=fun (L:List Own)=>at_el (L:=L) BoE_len hred hj 0 _ rfl
    have hst:firstT (m.empty.drop j) j=if m.empty[j]=true then (j:Int) else firstT (m.empty.drop (j+1)) ((j:Int)+1):=by rw[List.drop_eq_getElem_cons hj,firstT]
    rw[show (((j+1:Nat):Int))=(j:Int)+1 by omega] at *
    generalize firstT (m.empty.drop (j+1)) ((j:Int)+1)=t at *
    generalize m.empty[j]=b at *
    rw[show (j:Int)+1 - 1=(j:Int) by omega]
    have hate':∀ (L:List Own),At (w:Base) L ⟨be,offe+j*1+0,none⟩ (.bool b):=hate
    by_cases c2:b=true
    · subst c2
      rw[if_pos rfl] at hst
      repeat(first|refine GC ?_|refine gV (rr_geq (b:=true) rfl rfl (decide_eq_true (by omega))) ?_|refine gV (rr_load1 (v:= .slice (some ⟨be,offe,none⟩) m.empty.length ce) TyC.ty rfl (at_blk (i:=0) rfl rfl)) ?_|refine gV (rr_idxc Und.eq TyC.ty rfl rfl hj) ?_|refine gV (rr_load1 (v:= .bool true) TyC.ty rfl (hate' _)) ?_|refine gV (rr_load1 (v:= .slice (some ⟨g20,0,none⟩) 1 1) TyC.ty rfl (at_blk (i:=2) rfl rfl)) ?_|refine gV (rr_idxc (j:=0) Und.eq TyC.ty rfl rfl (by decide)) ?_|refine GB ?_)
      refine TL_store1 (i:=5) rfl rfl rfl rfl rfl rfl ?_
      conv=>arg 8;simp only[zA,zB,zC,zD,zE,zF,zG,zH,zI,rowS,ret,id_eq]
      repeat(first|refine GC ?_|refine gV (rr_sub64 (r:=(j:Int) - 1) rfl rfl (by omega) (by omega) rfl) ?_|refine GB ?_)
      exact E_round j (by omega) (by show j<j+1;omega) (by repeat' (first | exact True.intro | refine And.intro rfl ?_)) (by rw[hst];rfl)
    · rw[if_neg c2] at hst
      obtain rfl:=Bool.eq_false_iff.2 c2
      repeat(first|refine GC ?_|refine gV (rr_geq (b:=true) rfl rfl (decide_eq_true (by omega))) ?_|refine gV (rr_load1 (v:= .slice (some ⟨be,offe,none⟩) m.empty.length ce) TyC.ty rfl (at_blk (i:=0) rfl rfl)) ?_|refine gV (rr_idxc Und.eq TyC.ty rfl rfl hj) ?_|refine gV (rr_load1 (v:= .bool false) TyC.ty rfl (hate' _)) ?_|refine gV (rr_sub64 (r:=(j:Int) - 1) rfl rfl (by omega) (by omega) rfl) ?_|refine GB ?_)
      exact E_round j (by omega) (by show j<j+1;omega) (by repeat' (first | exact True.intro | refine And.intro rfl ?_)) (by rw[hst])
  · obtain rfl:k=0:=by omega
    rw[show firstT (m.empty.drop 0) ((0:Nat):Int)=firstT m.empty 0 from rfl]
    have hfin:makeTo m (201 - 0) 0 [] ⟨[],[firstT m.empty 0]⟩=makeD m:=rfl
    generalize firstT m.empty 0=t0 at *
    refine T_reown (i:=5) (intR (.slice (some ⟨g20,0,none⟩) 1 1) [t0]) rfl (fun w h=>one_row h) (fun k h=>h) ?_
    repeat(first|refine GC ?_|refine gV (rr_geq (b:=false) rfl rfl (decide_eq_false (by omega))) ?_|refine GB ?_)
    refine T_nil 138 256 ?_
    refine T_pick [1,2,3,4,5,6] (by decide) rfl ?_
    clear hre
    refine T_loop (ι:=Nat×List Row×DM×Value×Value×Value) (fun (n,R,d,_,_,_)=>R.length=n∧n≤d.S.length+1∧DOk m.ps d∧d.S.length+1≤200∧makeTo m (201 - n) n R d=makeD m) (fun (n,_,_,_,_,_)=>[(2,.pointer (some ⟨g2,0,none⟩)),(5,.pointer (some ⟨g5,0,none⟩)),(7,.int .i64 (n:Int))])
      (fun (_,R,d,vs,vrows,vt)=>[blkO g2 #[.slice none 0 0,.slice none 0 0] 95,blkO g5 (dmC vc vr vf vfol vl (.slice ae m.empty.length ce) vs (.map (some gm)) vrows vt) 135,setsO vs d.S,numO gm d.S,intR vt d.tags,rowO 138 256 vrows R.length (R.flatMap rowC)]) (fun (n,_,_,_,_,_)=>201 - n) (0,[],⟨[],[t0]⟩,.slice (some ⟨gs,0,none⟩) 1 1,.slice none 0 0,.slice (some ⟨g20,0,none⟩) 1 1) ⟨rfl,Nat.zero_le _,⟨List.nodup_nil,rfl⟩,by show 0+1≤200;omega,hfin⟩ (by repeat' (first | exact True.intro | refine And.intro rfl ?_)) rfl ?_
    clear hfin hk c1
    rintro⟨n,R,d,vs,vrows,vt⟩ ⟨i0,i1,i2,i3,i4⟩
    dsimp only at i0 i1 i2 i3 i4 ⊢
    refine T_know (i:=2) rfl row_slm fun hrow => ?_
    obtain⟨ab,cs,rfl,hmS,-⟩:=hrow
    by_cases c1:n<d.S.length+1
    · rw[show 201 - n=(201 - (n+1))+1 by omega,make_step,if_pos c1] at i4
      obtain⟨s1,s2,s3⟩:=rowTo_ok (p:=m.ps) (nextF m d.S n) 256 0 (Vector.replicate 256 0) d i2 i3
      have hcall:=fun w' (hm':Mem (w:Base) [blkO g2 #[.slice none 0 0,.slice none 0 0] 95,blkO g5 (dmC vc vr vf vfol vl (.slice ae m.empty.length ce) (.slice ab (d.S.length+1) cs) (.map (some gm)) vrows vt) 135,setsO (.slice ab (d.S.length+1) cs) d.S,numO gm d.S,intR vt d.tags,rowO 138 256 vrows R.length (R.flatMap rowC)] w') (hb:Mem (Base.on w' (dmL vc vr vf vfol vl (.slice ae m.empty.length ce) vrows g5 gm (.slice ab (d.S.length+1) cs) vt d)) (dmL vc vr vf vfol vl (.slice ae m.empty.length ce) vrows g5 gm (.slice ab (d.S.length+1) cs) vt d) w')=>hrw vrows d g5 gm n (.slice ab (d.S.length+1) cs) vt i2 i3 (by omega) w' _ ((Old.self w).on hm' (by simp[dmL])) hb
      rw[show rowTo m.ps (nextF m d.S n) 256 0 (Vector.replicate 256 0) d=rowP m n d from rfl] at s1 s2 s3
      obtain⟨r',d',hrp⟩:∃ r' d',rowP m n d=(r',d'):=⟨_,_,rfl⟩
      rw[hrp] at i4 s1 s2 s3
      dsimp only at i4 s1 s2 s3
      repeat(first|refine GC ?_|refine gV (rr_load1 (v:= .slice ab (d.S.length+1) cs) TyC.ty rfl (at_blk (i:=1) rfl rfl)) ?_|refine gV (rr_lss (b:=true) rfl rfl (decide_eq_true (by omega))) ?_|refine GB ?_)
      (repeat refine T_seq ?_)
      refine T_midq (ι:=Value×Value×Value) (fun _=>True) (fun _=>[(2,.pointer (some ⟨g2,0,none⟩)),(5,.pointer (some ⟨g5,0,none⟩)),(7,.int .i64 (n:Int))])
        (fun (vs',vrows',vt')=>[blkO g2 #[.slice none 0 0,.slice none 0 0] 95,blkO g5 (dmC vc vr vf vfol vl (.slice ae m.empty.length ce) vs' (.map (some gm)) vrows' vt') 135,setsO vs' d'.S,numO gm d'.S,intR vt' d'.tags,rowO 138 256 vrows' (R++[r']).length ((R++[r']).flatMap rowC)]) ?_ ?_
      · refine T_ord ([]) (.calm 0 (.calm 1 (.calm 2 (.calm 3 (.calm 4 (.calm 6 (.calm 7 (.two 5 (.one 8 (.one 9 (.one 10 (.calm 11 (.calm 12 (.calm 13 (.one 14 (.done)))))))) 8 (.two 5 (.one 9 (.one 10 (.calm 11 (.calm 12 (.calm 13 (.one 14 (.done))))))) 9 (.one 5 (.one 10 (.calm 11 (.calm 12 (.calm 13 (.one 14 (.done)))))))))))))))) (sub_pick [] (by decide) rfl) (by kernel_rfl) (by kernel_rfl) (by intro c a d v w h;cases d <;> exact h) ?_
        try refine GW ?_
        refine TW_two rfl rfl ?_ ?_
        · refine TL_val (rr_load1 (v:=vrows) TyC.ty rfl (at_blk (i:=1) rfl rfl)) rfl rfl rfl (TW_on (sub_pick [] (by decide) rfl) ?_)
          refine TW_one rfl (TL_callB [1,2,3,4] [0,5] (by decide) rfl rfl (he2 EntersC.en rfl rfl rfl) (fun w' hm hb=>hcall w' hm hb) rfl rfl rfl ?_)
          rintro⟨vs',vt'⟩ _
          conv=>arg 8;simp only[zA,zB,zC,zD,zE,zF,zG,zH,zI,rowS,ret,id_eq,rowSp,dmL]
          conv=>arg 7;simp only[rowSp]
          rw[hrp]
          dsimp only
          refine TW_on (sub_pick [] (by decide) rfl) ?_
          refine TW_one rfl (TL_litN (cs:=(rowC r').toArray) [rowV r'] rfl rfl rfl (row_litn r') rfl (row_lit r') rfl fun g62=>(TW_on (sub_pick [] (by decide) rfl) ?_))
          refine TW_one rfl (TL_appSl (i:=1) (e:= 138) (size:=256) (bytes:=512) (m:=R.length) (xs:=R.flatMap rowC) (k:=1) (ys:=rowC r') rfl (sl_blk (i:=6) rfl (fun j u h=>by simpa using h) (Nat.le_refl 1) (by decide)) rfl rfl (by rw[rowC_len]) (fun u hu=>row_one [r'] u (by simpa using hu)) (by omega) (by omega) rfl fun vrows'=>(TW_on (sub_pick [] (by decide) rfl) ?_))
          try refine GW ?_
          refine TW_one rfl (TL_slv (i:=1) rfl fun hv1 hv2=>TL_store1 (i:=2) rfl rfl rfl hv1 hv2 rfl (TW_on (sub_pick [] (by decide) rfl) ?_))
          try refine GW ?_
          refine E_pick [0,2,3,4,5,1] (by decide) rfl ?_
          exact E_mid (vs',vrows',vt') trivial (by repeat' (first | exact True.intro | refine And.intro rfl ?_)) (by dsimp only;rw[row_snocR];rfl)
        · refine TL_callB [1,2,3,4] [0,5] (by decide) rfl rfl (he2 EntersC.en rfl rfl rfl) (fun w' hm hb=>hcall w' hm hb) rfl rfl rfl ?_
          rintro⟨vs',vt'⟩ _
          conv=>arg 8;simp only[zA,zB,zC,zD,zE,zF,zG,zH,zI,rowS,ret,id_eq,rowSp,dmL]
          conv=>arg 7;simp only[rowSp]
          rw[hrp]
          dsimp only
          refine TW_on (sub_pick [] (by decide) rfl) ?_
          refine TW_two rfl rfl ?_ ?_
          · refine TL_val (rr_load1 (v:=vrows) TyC.ty rfl (at_blk (i:=2) rfl rfl)) rfl rfl rfl (TW_on (sub_pick [] (by decide) rfl) ?_)
            refine TW_one rfl (TL_litN (cs:=(rowC r').toArray) [rowV r'] rfl rfl rfl (row_litn r') rfl (row_lit r') rfl fun g62=>(TW_on (sub_pick [] (by decide) rfl) ?_))
            refine TW_one rfl (TL_appSl (i:=1) (e:= 138) (size:=256) (bytes:=512) (m:=R.length) (xs:=R.flatMap rowC) (k:=1) (ys:=rowC r') rfl (sl_blk (i:=6) rfl (fun j u h=>by simpa using h) (Nat.le_refl 1) (by decide)) rfl rfl (by rw[rowC_len]) (fun u hu=>row_one [r'] u (by simpa using hu)) (by omega) (by omega) rfl fun vrows'=>(TW_on (sub_pick [] (by decide) rfl) ?_))
            try refine GW ?_
            refine TW_one rfl (TL_slv (i:=1) rfl fun hv1 hv2=>TL_store1 (i:=2) rfl rfl rfl hv1 hv2 rfl (TW_on (sub_pick [] (by decide) rfl) ?_))
            try refine GW ?_
            refine E_pick [0,2,3,4,5,1] (by decide) rfl ?_
            exact E_mid (vs',vrows',vt') trivial (by repeat' (first | exact True.intro | refine And.intro rfl ?_)) (by dsimp only;rw[row_snocR];rfl)
          · refine TL_litN (cs:=(rowC r').toArray) [rowV r'] rfl rfl rfl (row_litn r') rfl (row_lit r') rfl fun g62=>(TW_on (sub_pick [] (by decide) rfl) ?_)
            refine TW_one rfl (TL_val (rr_load1 (v:=vrows) TyC.ty rfl (at_blk (i:=2) rfl rfl)) rfl rfl rfl (TW_on (sub_pick [] (by decide) rfl) ?_))
            refine TW_one rfl (TL_appSl (i:=1) (e:= 138) (size:=256) (bytes:=512) (m:=R.length) (xs:=R.flatMap rowC) (k:=1) (ys:=rowC r') rfl (sl_blk (i:=6) rfl (fun j u h=>by simpa using h) (Nat.le_refl 1) (by decide)) rfl rfl (by rw[rowC_len]) (fun u hu=>row_one [r'] u (by simpa using hu)) (by omega) (by omega) rfl fun vrows'=>(TW_on (sub_pick [] (by decide) rfl) ?_))
            try refine GW ?_
            refine TW_one rfl (TL_slv (i:=1) rfl fun hv1 hv2=>TL_store1 (i:=2) rfl rfl rfl hv1 hv2 rfl (TW_on (sub_pick [] (by decide) rfl) ?_))
            try refine GW ?_
            refine E_pick [0,2,3,4,5,1] (by decide) rfl ?_
            exact E_mid (vs',vrows',vt') trivial (by repeat' (first | exact True.intro | refine And.intro rfl ?_)) (by dsimp only;rw[row_snocR];rfl)
      clear hcall
      rintro⟨vs',vrows',vt'⟩ _
      dsimp only
      refine T_know (i:=2) rfl row_slm fun hrow => ?_
      obtain⟨ab',cs',rfl,hmS',-⟩:=hrow
      by_cases c2:200<d'.S.length+1
      · rw[if_pos c2] at i4
        have ho:=outD_8 i4.symm
        unfold mkdSp
        rw[ho]
        repeat(first|refine GC ?_|refine gV (rr_load1 (v:= .slice ab' (d'.S.length+1) cs') TyC.ty rfl (at_blk (i:=1) rfl rfl)) ?_|refine gV (rr_gtr (b:=true) rfl rfl (decide_eq_true (by omega))) ?_|refine gV (rr_build rfl hbz) ?_|refine GB ?_)
        refine TL_storeB (i:=0) rfl rfl rfl rfl rfl rfl ?_
        conv=>arg 8;simp only[zA,zB,zC,zD,zE,zF,zG,zH,zI,rowS,ret,id_eq]
        try refine GA ?_
        refine E_nilrow 138 256 (E_nilrow 3 1 ?_)
        exact E_retc2 (i:=0) rfl rfl rfl rfl rfl fun w hm=>hm.meets (S:=⟨fun (_:Value×Value)=>True,fun x=> .tuple #[dfaV x.1 x.2,.int .i64 8],fun x=>[rowO 138 256 x.1 0 [],rowO 3 1 x.2 0 []]⟩) (.slice none 0 0,.slice none 0 0) trivial [6,7] (by decide) rfl
      · rw[if_neg c2] at i4
        repeat(first|refine GC ?_|refine gV (rr_load1 (v:= .slice ab' (d'.S.length+1) cs') TyC.ty rfl (at_blk (i:=1) rfl rfl)) ?_|refine gV (rr_gtr (b:=false) rfl rfl (decide_eq_false (by omega))) ?_|refine GB ?_)
        exact E_round (n+1,R++[r'],d',.slice ab' (d'.S.length+1) cs',vrows',vt') ⟨by rw[List.length_append,i0];rfl,by show n+1≤d'.S.length+1;omega,s1,by show d'.S.length+1≤200;omega,i4⟩ (by show 201 - (n+1)<201 - n;omega) (by repeat' (first | exact True.intro | refine And.intro rfl ?_)) rfl
    · have i5:makeD m=some (R,d):=by
        rw[←i4,show 201 - n=(201 - (n+1))+1 by omega,make_step,if_neg c1]
      have ho:=outD_0 i5
      unfold mkdSp
      rw[ho]
      refine T_know (i:=4) rfl row_slm fun hrow => ?_
      obtain⟨at',ct',rfl,-⟩:=hrow
      refine T_know (i:=5) rfl row_slm fun hrow => ?_
      obtain⟨ar',cr',rfl,-⟩:=hrow
      repeat(first|refine GC ?_|refine gV (rr_load1 (v:= .slice ab (d.S.length+1) cs) TyC.ty rfl (at_blk (i:=1) rfl rfl)) ?_|refine gV (rr_lss (b:=false) rfl rfl (decide_eq_false (by omega))) ?_|refine gV (rr_loadN (cs:=[.slice ar' R.length cr',.slice at' d.tags.length ct']) TyC.ty rfl rfl (fun j v hj=>at_blk (i:=1) rfl (dmc_at hj))) ?_|refine GB ?_)
      refine TL_storeB (i:=0) (cs':=#[.slice ar' R.length cr',.slice at' d.tags.length ct']) rfl rfl rfl rfl rfl rfl ?_
      conv=>arg 8;simp only[zA,zB,zC,zD,zE,zF,zG,zH,zI,rowS,ret,id_eq]
      try refine GA ?_
      exact E_retc2 (i:=0) rfl rfl rfl rfl rfl fun w hm=>hm.meets (S:=⟨fun (_:Value×Value)=>True,fun x=> .tuple #[dfaV x.1 x.2,.int .i64 0],fun x=>[rowO 138 256 x.1 R.length (R.flatMap rowC),intR x.2 d.tags]⟩) (.slice ar' R.length cr',.slice at' d.tags.length ct') trivial [5,4] (by decide) rfl
end Go.Proofs.Ytldiodhdefnlaaa.eng

/- ClassP -/
namespace Go.Proofs.Ytldiodhdefnlaaa.classL
def one (x:C4):List C4:=if x=C4.zero then [] else [x]
structure Parts (S:List C4) (all:List C4):Prop where
  some:∀ x∈all,x≠C4.zero
  apart:all.Pairwise fun x y=>x.meet y=C4.zero
  sum:(all.map cnt).sum=256
  whole:∀ n,n<256→∃ x∈all,x.mem n=true
  each:∀ c∈S,∀ x∈all,x.meet c=x∨x.meet c=C4.zero
  told:all.Pairwise fun x y=>∃ c∈S,decide (x.meet c=x)≠decide (y.meet c=y)
theorem zero_iff {x:C4}:x=C4.zero↔∀ n,n<256→x.mem n=false:=
  ⟨fun h n _=>by rw[h,zero_mem],fun h=>ext_mem fun n hn=>by rw[h n hn,zero_mem]⟩
theorem cnt_zero {x:C4} (h:cnt x=0):x=C4.zero:=by
  have:bytesL x=[]:=List.eq_nil_of_length_eq_zero h
  refine zero_iff.2 fun n hn => ?_
  cases e:x.mem n with
  | false=>rfl
  | true=>exact absurd (mem_bytes.2 ⟨hn,e⟩) (by rw[this];simp)
theorem sum_len:∀ all:List C4,(∀ x∈all,x≠C4.zero)→all.length≤(all.map cnt).sum
  | [],_=>Nat.le_refl _
  | x::all,h=>by
    have ih:=sum_len all fun y hy=>h y (by simp[hy])
    have:cnt x≠0:=fun e=>h x (by simp) (cnt_zero e)
    simp only[List.length_cons,List.map_cons,List.sum_cons]
    omega
theorem Parts.len {S all:List C4} (h:Parts S all):all.length≤256:=by
  have:=sum_len all h.some
  rw[h.sum] at this
  exact this
theorem Parts.more {S S' all:List C4} (h:Parts S all) (h1:∀ c,c∈S'→c∈S) (h2:∀ c,c∈S→c∈S'):Parts S' all:=
  ⟨h.some,h.apart,h.sum,h.whole,fun c hc=>h.each c (h1 c hc),h.told.imp fun ⟨c,hc,h⟩=>⟨c,h2 c hc,h⟩⟩
end Go.Proofs.Ytldiodhdefnlaaa.classL

/- DfQ -/
namespace Go.Proofs.Ytldiodhdefnlaaa.dfaP
open classL rexL placesL smallL
open eng (chk aut row0 ok_chk)
def cellT (p:PS) (S:List C4) (all:C4) (b:Nat):Int:=if toF p all b=C4.zero then -1 else ((idx S (toF p all b)+1:Nat):Int)
def CellOk (p:PS) (S:List C4) (all:C4) (b:Nat) (x:Int):Prop:=x=cellT p S all b∧(toF p all b=C4.zero∨toF p all b∈S)
theorem CellOk.app {p:PS} {S:List C4} {all:C4} {b:Nat} {x:Int} (h:CellOk p S all b x) (E:List C4):CellOk p (S++E) all b x:=by
  obtain⟨h1,h2⟩:=h
  refine⟨?_,h2.imp id fun h=>List.mem_append_left _ h⟩
  rw[h1]
  unfold cellT
  by_cases c:toF p all b=C4.zero
  · rw[if_pos c,if_pos c]
  · rw[if_neg c,if_neg c,idx_pre (h2.resolve_left c)]
def TagsOk (p:PS) (t0:Int) (d:DM):Prop:=d.tags=t0::d.S.map (dfaP.tagF p)
theorem state_law (p:PS) (t0:Int) (d:DM) (s:C4):(∃ E,(stateF p d s).2.S=d.S++E)∧s∈(stateF p d s).2.S∧(stateF p d s).1=idx (stateF p d s).2.S s+1∧(TagsOk p t0 d→TagsOk p t0 (stateF p d s).2):=by
  unfold stateF
  by_cases c:s∈d.S
  · rw[if_pos c]
    exact⟨⟨[],(List.append_nil _).symm⟩,c,rfl,id⟩
  · rw[if_neg c]
    refine⟨⟨[s],rfl⟩,List.mem_append_right _ (List.mem_singleton.2 rfl),?_,fun h => ?_⟩
    · show d.S.length+1=idx (d.S++[s]) s+1
      unfold idx
      rw[List.idxOf_append,if_neg c]
      simp
    · show d.tags++[dfaP.tagF p s]=t0::(d.S++[s]).map (dfaP.tagF p)
      rw[h,List.map_append];rfl
theorem cell_law (p:PS) (t0:Int) (all:C4) (b:Nat) (hb:b<256) (r:Row) (d:DM):(∃ E,(cellF p all b r d).2.S=d.S++E)∧(∀ c (h:c<256),c≠b→(cellF p all b r d).1[c]=r[c])∧CellOk p (cellF p all b r d).2.S all b ((cellF p all b r d).1[b])∧(TagsOk p t0 d→TagsOk p t0 (cellF p all b r d).2):=by
  unfold cellF
  by_cases c:toF p all b=C4.zero
  · rw[if_pos c,dif_pos hb]
    refine⟨⟨[],(List.append_nil _).symm⟩,fun c' h hc => ?_,⟨?_,.inl c⟩,id⟩
    · exact Vector.getElem_set_ne hb h (Ne.symm hc)
    · rw[Vector.getElem_set_self hb];unfold cellT;rw[if_pos c]
  · rw[if_neg c,dif_pos hb]
    obtain⟨h1,h2,h3,h4⟩:=state_law p t0 d (toF p all b)
    refine⟨h1,fun c' h hc => ?_,⟨?_,.inr h2⟩,h4⟩
    · dsimp only
      rw[Vector.getElem_set_ne hb h (Ne.symm hc),Vector.getElem_set_ne hb h (Ne.symm hc)]
    · dsimp only
      rw[Vector.getElem_set_self hb,h3];unfold cellT;rw[if_neg c]
theorem row_law (p:PS) (t0:Int) (all:C4):∀ (f b:Nat) (r:Row) (d:DM),b+f=256→(rowTo p all f b r d).2.S.length+1≤200→
    (∃ E,(rowTo p all f b r d).2.S=d.S++E)∧(∀ c (h:c<256),c<b→(rowTo p all f b r d).1[c]=r[c])∧(∀ c (h:c<256),b≤c→CellOk p (rowTo p all f b r d).2.S all c ((rowTo p all f b r d).1[c]))∧(TagsOk p t0 d→TagsOk p t0 (rowTo p all f b r d).2)
  | 0,b,r,d,hbf,_=>⟨⟨[],(List.append_nil _).symm⟩,fun _ _ _=>rfl,fun c h hc=>by omega,id⟩
  | f + 1,b,r,d,hbf,hl=>by
    obtain⟨⟨E1,h1⟩,h2,h3,h4⟩:=cell_law p t0 all b (by omega) r d
    have e:rowTo p all (f+1) b r d=if 200<(cellF p all b r d).2.S.length+1 then cellF p all b r d else rowTo p all f (b+1) (cellF p all b r d).1 (cellF p all b r d).2:=rfl
    rw[e] at hl ⊢
    by_cases c:200<(cellF p all b r d).2.S.length+1
    · rw[if_pos c] at hl;omega
    · rw[if_neg c] at hl ⊢
      obtain⟨⟨E2,q1⟩,q2,q3,q4⟩:=row_law p t0 all f (b+1) _ _ (by omega) hl
      refine⟨⟨E1++E2,by rw[q1,h1,List.append_assoc]⟩,fun c' h hc => ?_,fun c' h hc => ?_,fun h=>q4 (h4 h)⟩
      · rw[q2 c' h (by omega),h2 c' h (by omega)]
      · by_cases ec:c'=b
        · subst ec
          rw[q2 c' h (by omega),q1]
          exact h3.app E2
        · exact q3 c' h (by omega)
theorem nextF_app (m:MS) (S E:List C4) {n:Nat} (h:n≤S.length):nextF m (S++E) n=nextF m S n:=by
  cases n with
  | zero=>rfl
  | succ n=>
    show nextTo m.ps ((S++E).getD n C4.zero) _=nextTo m.ps (S.getD n C4.zero) _
    rw[getD_left (by omega)]
structure MkI (m:MS) (t0:Int) (n:Nat) (R:List Row) (d:DM):Prop where
  len:R.length=n
  le:n≤d.S.length+1
  few:d.S.length+1≤200
  cell:∀ q,q<n→∀ c (h:c<256),CellOk m.ps d.S (nextF m d.S q) c ((R.getD q row0)[c])
  tags:TagsOk m.ps t0 d
theorem make_law (m:MS) (t0:Int):∀ (f n:Nat) (R:List Row) (d:DM) (R':List Row) (d':DM),makeTo m f n R d=some (R',d')→MkI m t0 n R d→MkI m t0 (d'.S.length+1) R' d'
  | 0,_,_,_,_,_,h,_=>by cases h
  | f + 1,n,R,d,R',d',h,hi=>by
    have e:makeTo m (f+1) n R d=if n<d.S.length+1 then (if 200<(rowP m n d).2.S.length+1 then none else makeTo m f (n+1) (R++[(rowP m n d).1]) (rowP m n d).2) else some (R,d):=rfl
    rw[e] at h
    by_cases c1:n<d.S.length+1
    · rw[if_pos c1] at h
      by_cases c2:200<(rowP m n d).2.S.length+1
      · rw[if_pos c2] at h;cases h
      · rw[if_neg c2] at h
        refine make_law m t0 f (n+1) _ _ R' d' h ?_
        obtain⟨⟨E,q1⟩,_,q3,q4⟩:=row_law m.ps t0 (nextF m d.S n) 256 0 (Vector.replicate 256 0) d rfl (by show (rowP m n d).2.S.length+1≤200;omega)
        have q1:(rowP m n d).2.S=d.S++E:=q1
        have q3:∀ c (h:c<256),0≤c→CellOk m.ps (rowP m n d).2.S (nextF m d.S n) c ((rowP m n d).1[c]):=q3
        have hlen:=congrArg List.length q1
        rw[List.length_append] at hlen
        refine⟨by rw[List.length_append,hi.len];rfl,by omega,by omega,fun q hq c hc => ?_,q4 hi.tags⟩
        by_cases eq:q=n
        · subst eq
          rw[getD_right (by rw[hi.len];exact Nat.le_refl _),hi.len,Nat.sub_self]
          show CellOk m.ps (rowP m q d).2.S (nextF m (rowP m q d).2.S q) c ((rowP m q d).1[c])
          rw[q1,nextF_app m d.S E (by omega),←q1]
          exact q3 c hc (Nat.zero_le _)
        · rw[getD_left (by rw[hi.len];omega),q1,nextF_app m d.S E (by omega)]
          exact (hi.cell q (by omega) c hc).app E
    · rw[if_neg c1] at h
      simp only[Option.some.injEq,Prod.mk.injEq] at h
      obtain⟨rfl,rfl⟩:=h
      have:n=d.S.length+1:=by have:=hi.le;omega
      rw[←this];exact hi
theorem makeD_law {m:MS} {R:List Row} {d:DM} (h:makeD m=some (R,d)):MkI m (firstT m.empty 0) (d.S.length+1) R d:=
  make_law m (firstT m.empty 0) 201 0 [] ⟨[],[firstT m.empty 0]⟩ R d h ⟨rfl,Nat.zero_le _,by show 0+1≤200;decide,fun q hq=>absurd hq (Nat.not_lt_zero q),rfl⟩
theorem row_getD (R:List Row) (q c:Nat) (h:c<256):((R.getD q row0).toList.getD c 0)=(R.getD q row0)[c]:=by
  rw[List.getD_eq_getElem?_getD,List.getElem?_eq_getElem (by simpa using h),Option.getD_some,Vector.getElem_toList]
theorem tag_law {p:PS} {n:Nat} (hr:∀ r∈p.rules,0≤r∧r<n) (hl:p.rules.length=p.classes.length) (s:C4):∀ k,k≤p.classes.length→(tagTo p s k = -1∧∀ i,i<k→s.mem i=true→p.last.getD i false=true→False)∨(∃ i,i<k∧s.mem i=true∧p.last.getD i false=true∧tagTo p s k=p.rules.getD i 0∧0≤tagTo p s k∧tagTo p s k<n∧∀ i,i<k→s.mem i=true→p.last.getD i false=true→tagTo p s k≤p.rules.getD i 0)
  | 0,_=> .inl ⟨rfl,fun i hi=>absurd hi (Nat.not_lt_zero i)⟩
  | k + 1,hk=>by
    have hrk:0≤p.rules.getD k 0∧p.rules.getD k 0<n:=by
      rw[List.getD_eq_getElem?_getD,List.getElem?_eq_getElem (by omega),Option.getD_some]
      exact hr _ (List.getElem_mem _)
    have e:tagTo p s (k+1)=if s.mem k=true∧p.last.getD k false=true∧(tagTo p s k<0∨p.rules.getD k 0<tagTo p s k) then p.rules.getD k 0 else tagTo p s k:=rfl
    rw[e]
    have ih:=tag_law hr hl s k (by omega)
    by_cases c:s.mem k=true∧p.last.getD k false=true∧(tagTo p s k<0∨p.rules.getD k 0<tagTo p s k)
    · rw[if_pos c]
      refine .inr ⟨k,Nat.lt_succ_self k,c.1,c.2.1,rfl,hrk.1,hrk.2,fun i hi h1 h2 => ?_⟩
      by_cases ei:i=k
      · subst ei;exact Int.le_refl _
      · rcases ih with ⟨_,h⟩ | ⟨_,_,_,_,_,h0,_,h⟩
        · exact (h i (by omega) h1 h2).elim
        · have h7:=h i (by omega) h1 h2
          have h8:=c.2.2
          omega
    · rw[if_neg c]
      rcases ih with ⟨h0,h⟩ | ⟨i,hi,h1,h2,h3,h4,h5,h6⟩
      · refine .inl ⟨h0,fun i hi h1 h2 => ?_⟩
        by_cases ei:i=k
        · subst ei;exact c ⟨h1,h2,.inl (by rw[h0];decide)⟩
        · exact h i (by omega) h1 h2
      · refine .inr ⟨i,by omega,h1,h2,h3,h4,h5,fun j hj g1 g2 => ?_⟩
        by_cases ej:j=k
        · subst ej
          have h9:¬ (tagTo p s j<0∨p.rules.getD j 0<tagTo p s j):=fun h=>c ⟨g1,g2,h⟩
          omega
        · exact h6 j (by omega) g1 g2
theorem firstT_law:∀ (l:List Bool) (k:Nat),(firstT l k = -1∧∀ i,i<l.length→l.getD i false=false)∨(∃ i,i<l.length∧firstT l k=((k+i:Nat):Int)∧l.getD i false=true∧∀ j,j<i→l.getD j false=false)
  | [],_=> .inl ⟨rfl,fun _ _=>rfl⟩
  | true::l,k=> .inr ⟨0,Nat.zero_lt_succ _,rfl,rfl,fun j hj=>absurd hj (Nat.not_lt_zero j)⟩
  | false::l,k=>by
    have e:firstT (false::l) (k:Int)=firstT l ((k+1:Nat):Int):=rfl
    rw[e]
    rcases firstT_law l (k+1) with ⟨h1,h2⟩ | ⟨i,h1,h2,h3,h4⟩
    · refine .inl ⟨h1,fun i hi => ?_⟩
      cases i with
      | zero=>rfl
      | succ i=>exact h2 i (by simpa using hi)
    · refine .inr ⟨i+1,by simpa using h1,by rw[h2];congr 1;omega,h3,fun j hj => ?_⟩
      cases j with
      | zero=>rfl
      | succ j=>exact h4 j (by omega)
theorem firstT_lt {l:List Bool} : -1≤firstT l 0∧firstT l 0<(l.length:Int):=by
  rcases firstT_law l 0 with ⟨h1,_⟩ | ⟨i,h1,h2,_⟩
  · have h1:firstT l 0 = -1:=h1
    rw[h1];omega
  · have h2:firstT l 0=((0+i:Nat):Int):=h2
    rw[h2];omega
section
variable {es:List Re} {m:MS} {R:List Row} {d:DM}
theorem mk_tags (hm:MOkP m) (hi:MkI m (firstT m.empty 0) (d.S.length+1) R d) {k:Nat} (hk:k<d.S.length+1):d.tags.getD k 0=(if h:k=0 then firstT m.empty 0 else dfaP.tagF m.ps (d.S[k - 1]'(by omega)))∧ -1≤d.tags.getD k 0∧d.tags.getD k 0<20:=by
  have h:=hi.tags
  unfold TagsOk at h
  rw[h]
  have h20:=hm.most
  cases k with
  | zero=>
    have:=firstT_lt (l:=m.empty)
    refine⟨rfl,this.1,?_⟩
    have e:(firstT m.empty 0::d.S.map (dfaP.tagF m.ps)).getD 0 0=firstT m.empty 0:=rfl
    rw[e];omega
  | succ k=>
    have hk:k<d.S.length:=by omega
    have e:(firstT m.empty 0::d.S.map (dfaP.tagF m.ps)).getD (k+1) 0=dfaP.tagF m.ps d.S[k]:=by
      rw[List.getD_cons_succ,List.getD_eq_getElem?_getD,List.getElem?_map,List.getElem?_eq_getElem hk];rfl
    rw[e]
    refine⟨rfl,?_⟩
    unfold dfaP.tagF
    rcases tag_law hm.rules hm.ok.ps.rules d.S[k] m.ps.classes.length (Nat.le_refl _) with ⟨h1,_⟩ | ⟨_,_,_,_,_,h1,h2,_⟩
    · rw[h1];omega
    · omega
theorem mk_chk (hm:MOkP m) (hi:MkI m (firstT m.empty 0) (d.S.length+1) R d):chk R d.tags=0:=by
  have hl:=hi.len
  have hf:=hi.few
  refine ok_chk ⟨?_,?_,fun q hq b hb => ?_,fun q hq => ?_⟩ ?_
  · show 0<R.length;omega
  · show R.length≤200;omega
  · have hq:q<R.length:=hq
    show -1≤(R.getD q row0).toList.getD b 0∧(R.getD q row0).toList.getD b 0<(R.length:Int)
    rw[row_getD R q b hb,(hi.cell q (by omega) b hb).1]
    unfold cellT
    by_cases c:toF m.ps (nextF m d.S q) b=C4.zero
    · rw[if_pos c];omega
    · rw[if_neg c]
      have:=idx_lt ((hi.cell q (by omega) b hb).2.resolve_left c)
      omega
  · have hq:q<R.length:=hq
    exact (mk_tags hm hi (by omega)).2
  · have h:=hi.tags
    unfold TagsOk at h
    rw[h,hl,List.length_cons,List.length_map]
end
end Go.Proofs.Ytldiodhdefnlaaa.dfaP

/- SmPL -/
namespace Go.Proofs.Ytldiodhdefnlaaa.eng
open Go.RowKit kit mix dfaL smallL
def cellF (R:List Row) (i b:Nat):Int:=(R.getD i row0).toList.getD b 0
theorem cell_get {R:List Row} {i b:Nat} (h:i<R.length) (hb:b<256):cellF R i b=(R[i])[b]:=aut_d (tags:=[]) h hb
def colS (R:List Row) (b k:Nat):Col:=Vector.ofFn fun i:Fin 200=>if i<k then cellF R i b else 0
def colF (R:List Row) (b:Nat):Col:=colS R b R.length
theorem colS_0 (R:List Row) (b:Nat):colS R b 0=Vector.replicate 200 0:=by
  refine Vector.ext fun i hi => ?_
  unfold colS;simp
theorem colS_set (R:List Row) (b k:Nat) (h:k<200):(colS R b k).set k (cellF R k b)=colS R b (k+1):=by
  refine Vector.ext fun i hi => ?_
  unfold colS
  rw[Vector.getElem_set,Vector.getElem_ofFn,Vector.getElem_ofFn]
  split
  · rename_i e;subst e;simp
  · have:i<k↔i<k+1:=by omega
    simp only[this]
theorem col_set (c:Col) {i:Nat} (h:i<200) (x:Int):(colC c).toArray.setIfInBounds i (.int .i16 x)=(colC (c.set i x)).toArray:=by
  unfold colC
  rw[Vector.toList_set,List.map_set];simp
theorem zero_col:(List.replicate 200 (Value.int .i16 0)).toArray=(colC (Vector.replicate 200 0)).toArray:=by
  unfold colC
  rw[Vector.toList_replicate,List.map_replicate]
theorem colF_get (R:List Row) (b i:Nat) (h:i<R.length) (h2:R.length≤200):(colF R b).toList.getD i 0=cellF R i b:=by
  unfold colF colS
  rw[List.getD_eq_getElem?_getD,List.getElem?_eq_getElem (by simp;omega),Option.getD_some,Vector.getElem_toList,Vector.getElem_ofFn]
  simp[h]
theorem colF_ok {R:List Row} (hr:∀ r∈R,∀ x∈r.toList,-32768≤x∧x≤32767) {b:Nat} (hb:b<256):colOk (colF R b):=by
  intro i hi
  unfold colF colS
  rw[Vector.getElem_ofFn]
  dsimp only
  split
  · rename_i h
    rw[cell_get h hb]
    exact hr R[i] (List.getElem_mem h) _ (by rw[←Vector.getElem_toList (h:=by simpa using hb)];exact List.getElem_mem _)
  · omega
def pkD (R:List Row) (k:Nat):List Col:=firsts [] ((List.range k).map (colF R))
theorem pkD_next (R:List Row) (k:Nat):pkD R (k+1)=more (pkD R k) (colF R k):=by
  unfold pkD
  rw[List.range_succ,List.map_append,List.map_singleton,firsts_snoc]
theorem pkD_old {R:List Row} {k:Nat} (h:colF R k∈pkD R k):pkD R (k+1)=pkD R k:=by
  rw[pkD_next];exact if_pos h
theorem pkD_new {R:List Row} {k:Nat} (h:colF R k∉pkD R k):pkD R (k+1)=pkD R k++[colF R k]:=by
  rw[pkD_next];exact if_neg h
theorem pkD_len (R:List Row):∀ k,(pkD R k).length≤k
  | 0=>Nat.le_refl _
  | k+1=>by
    have:=pkD_len R k
    by_cases c:colF R k∈pkD R k
    · rw[pkD_old c];omega
    · rw[pkD_new c,List.length_append,List.length_singleton];omega
theorem pkD_pre (R:List Row) (k:Nat):∀ j,k≤j→∃ E,pkD R j=pkD R k++E
  | 0,h=>⟨[],by obtain rfl:k=0:=(by omega);rw[List.append_nil]⟩
  | j + 1,h=>by
    by_cases c:k=j+1
    · subst c;exact⟨[],by rw[List.append_nil]⟩
    · obtain⟨E,hE⟩:=pkD_pre R k j (by omega)
      obtain⟨E',hE'⟩:=more_pre (pkD R j) (colF R j)
      exact⟨E++E',by rw[pkD_next,hE',hE,List.append_assoc]⟩
theorem pkD_mem (R:List Row) {b k:Nat} (h:b<k):colF R b∈pkD R k:=mem_firsts.2 (.inr (List.mem_map.2 ⟨b,by simpa using h,rfl⟩))
def pkN (R:List Row) (b:Nat):Nat:=idx (pkD R 256) (colF R b)
theorem pkN_at {R:List Row} {k:Nat} (h:k<256):pkN R k=if colF R k∈pkD R k then idx (pkD R k) (colF R k) else (pkD R k).length:=by
  obtain⟨E,hE⟩:=pkD_pre R (k+1) 256 (by omega)
  unfold pkN
  rw[hE,idx_pre (pkD_mem R (Nat.lt_succ_self k)),pkD_next,idx_more]
  by_cases c:colF R k∈pkD R k
  · rw[if_pos c,if_pos c]
  · rw[if_neg c,if_neg c]
theorem pkN_lt (R:List Row) {b:Nat} (h:b<256):pkN R b<(pkD R 256).length:=idx_lt (pkD_mem R h)
theorem pkN_256 (R:List Row) {b:Nat} (h:b<256):pkN R b<256:=Nat.lt_of_lt_of_le (pkN_lt R h) (pkD_len R 256)
abbrev Of:=Vector Nat 256
def ofP (R:List Row) (k:Nat):Of:=Vector.ofFn fun b:Fin 256=>if b<k then pkN R b else 0
theorem ofS_0 (R:List Row):ofP R 0=Vector.replicate 256 0:=by
  refine Vector.ext fun i hi => ?_
  unfold ofP;simp
theorem ofS_set (R:List Row) (k:Nat) (h:k<256):(ofP R k).set k (pkN R k)=ofP R (k+1):=by
  refine Vector.ext fun i hi => ?_
  unfold ofP
  rw[Vector.getElem_set,Vector.getElem_ofFn,Vector.getElem_ofFn]
  split
  · rename_i e;subst e;simp
  · have:i<k↔i<k+1:=by omega
    simp only[this]
def nxL (D:List Col) (i:Nat):List Int:=D.map fun c=>c.toList.getD i 0
def pkC (o:Of) (vn vt:Value):List Value:=o.toList.map (fun n:Nat=> .int .u8 (n:Int))++[vn,vt]
def pkV (o:Of) (vn vt:Value):Value:= .agg (pkC o vn vt).toArray
theorem pkC_len (o:Of) (vn vt:Value):(pkC o vn vt).length=258:=by simp[pkC]
theorem pk_size (o:Of) (vn vt:Value):(pkC o vn vt).toArray.size=258:=by rw[List.size_toArray,pkC_len]
theorem pk_next (o:Of) (vn vt:Value):(pkC o vn vt).toArray[256]?=some vn:=by
  rw[List.getElem?_toArray]
  unfold pkC
  rw[List.getElem?_append_right (by simp)];simp
theorem pk_one (o:Of) {vn vt:Value} (h1:vn.oneCell'=true) (h2:vt.oneCell'=true):(pkC o vn vt).toArray.toList.all Value.oneCell'=true:=by
  refine List.all_eq_true.2 fun u hu => ?_
  unfold pkC at hu
  simp only[List.mem_append,List.mem_map,List.mem_cons,List.not_mem_nil,or_false] at hu
  rcases hu with ⟨n,_,rfl⟩ | rfl | rfl
  · rfl
  · exact h1
  · exact h2
theorem pk_set (o:Of) (vn vt:Value) {b:Nat} (h:b<256) (x:Nat):(pkC o vn vt).toArray.setIfInBounds b (.int .u8 (x:Int))=(pkC (o.set b x) vn vt).toArray:=by
  unfold pkC
  rw[Vector.toList_set,List.map_set]
  simp[List.set_append,h]
theorem zero_pk:(List.replicate 256 (Value.int .u8 0)++([.slice none 0 0,.slice none 0 0]:List Value)).toArray=(pkC (Vector.replicate 256 0) (.slice none 0 0) (.slice none 0 0)).toArray:=by
  unfold pkC
  rw[Vector.toList_replicate,List.map_replicate];rfl
theorem build_pk0 (w:World):(Instr.build 30 #[]).run Try.prog w = .ok (pkV (Vector.replicate 256 0) (.slice none 0 0) (.slice none 0 0)) w:=by kernel_rfl
theorem build_pk (g h n m cap:Nat) (w:World):(Instr.build 30 #[(1,.slice (some ⟨g,0,none⟩) n n),(2,.slice (some ⟨h,0,none⟩) m cap)]).run Try.prog w = .ok (pkV (Vector.replicate 256 0) (.slice (some ⟨g,0,none⟩) n n) (.slice (some ⟨h,0,none⟩) m cap)) w:=by kernel_rfl
end Go.Proofs.Ytldiodhdefnlaaa.eng

/- SpecN -/
namespace Go.Proofs.Ytldiodhdefnlaaa.specL
open classL rexL
open gramL (Sym Prod Gram)
abbrev Num:=Bs→Option Sym
def putN (m:Num) (x:Bs) (s:Sym):Num:=fun y=>if y=x then some s else m y
abbrev WS:=List Int×Int×Num
def stepW (s:WS) (w:Wd):WS:=if w.1=[] then (s.1++[-1],s.2) else (s.1++[s.2.1],s.2.1+1,putN s.2.2 w.1 (1,s.2.1))
abbrev HS:=Int×Num
def stepH (s:HS) (r:Rl):HS:=if (s.2 r.1).isSome then s else (s.1+1,putN s.2 r.1 (2,s.1))
def symN (m:Num) (x:Bs):Sym:=(m x).getD (0,0)
def prodN (m:Num) (r:Rl):Prod:=((symN m r.1).2,r.2.map (symN m))
def ws0:WS:=([],0,fun _=>none)
def wsN (l:List Wd):WS:=l.foldl stepW ws0
def hsN (s:Sp):HS:=s.rules.foldl stepH (0,(wsN s.words).2.2)
def gramN (s:Sp):Gram:=⟨(wsN s.words).2.1,(hsN s).1,s.rules.map (prodN (hsN s).2)⟩
def numE (s:Sp):Int:=if gramL.checkG (gramN s)≠0 then 2 else 0
def Small (m:Num):Prop:=∀ y s,m y=some s→0≤s.1∧s.1≤2∧0≤s.2∧s.2≤1000
theorem small_nil:Small fun _=>none:=fun _ _ h=>by cases h
theorem small_put {m:Num} (h:Small m) {x:Bs} {s:Sym} (h1:0≤s.1∧s.1≤2∧0≤s.2∧s.2≤1000):Small (putN m x s):=fun y z hz=>by
  unfold putN at hz
  split at hz
  · cases hz;exact h1
  · exact h y z hz
theorem small_sym {m:Num} (h:Small m) (x:Bs):0≤(symN m x).1∧(symN m x).1≤2∧0≤(symN m x).2∧(symN m x).2≤1000:=by
  unfold symN
  cases hx:m x with
  | none=>exact⟨by decide,by decide,by decide,by decide⟩
  | some s=>exact h x s hx
theorem step_take {α σ:Type} (f:σ→α→σ) (s:σ) (l:List α) {k:Nat} (h:k<l.length):(l.take (k+1)).foldl f s=f ((l.take k).foldl f s) l[k]:=by
  rw[List.take_succ_eq_append_getElem h,List.foldl_append];rfl
theorem stepW_ok (s:WS) (w:Wd) (k:Nat) (h:k<60) (a1:s.1.length=k) (a2:0≤s.2.1) (a3:s.2.1≤k) (a4:Small s.2.2) :
    (stepW s w).1.length=k+1∧0≤(stepW s w).2.1∧(stepW s w).2.1≤((k+1:Nat):Int)∧Small (stepW s w).2.2:=by
  unfold stepW
  split
  · exact⟨by rw[List.length_append,a1];rfl,a2,by show s.2.1≤_;omega,a4⟩
  · exact⟨by rw[List.length_append,a1];rfl,by show 0≤s.2.1+1;omega,by show s.2.1+1≤((k+1:Nat):Int);omega,small_put a4 ⟨(by decide:(0:Int)≤1),(by decide:(1:Int)≤2),a2,by show s.2.1≤1000;omega⟩⟩
theorem ws_ok (l:List Wd):∀ k,k≤l.length→k≤60→((l.take k).foldl stepW ws0).1.length=k∧0≤((l.take k).foldl stepW ws0).2.1∧((l.take k).foldl stepW ws0).2.1≤k∧Small ((l.take k).foldl stepW ws0).2.2
  | 0,_,_=>⟨rfl,Int.le_refl _,Int.le_refl _,small_nil⟩
  | k+1,h,h60=>by
    obtain⟨a1,a2,a3,a4⟩:=ws_ok l k (by omega) (by omega)
    rw[step_take _ _ _ (show k<l.length by omega)]
    exact stepW_ok _ _ k (by omega) a1 a2 a3 a4
theorem stepH_ok (s:HS) (r:Rl) (k:Nat) (h:k<60) (a2:0≤s.1) (a3:s.1≤k) (a4:Small s.2) :
    0≤(stepH s r).1∧(stepH s r).1≤((k+1:Nat):Int)∧Small (stepH s r).2:=by
  unfold stepH
  split
  · exact⟨a2,by show s.1≤_;omega,a4⟩
  · exact⟨by show 0≤s.1+1;omega,by show s.1+1≤((k+1:Nat):Int);omega,small_put a4 ⟨(by decide:(0:Int)≤2),(by decide:(2:Int)≤2),a2,by show s.1≤1000;omega⟩⟩
theorem hs_ok (l:List Rl) (m:Num) (hm:Small m):∀ k,k≤l.length→k≤60→0≤((l.take k).foldl stepH (0,m)).1∧((l.take k).foldl stepH (0,m)).1≤k∧Small ((l.take k).foldl stepH (0,m)).2
  | 0,_,_=>⟨Int.le_refl _,Int.le_refl _,hm⟩
  | k+1,h,h60=>by
    obtain⟨a2,a3,a4⟩:=hs_ok l m hm k (by omega) (by omega)
    rw[step_take _ _ _ (show k<l.length by omega)]
    exact stepH_ok _ _ k (by omega) a2 a3 a4
end Go.Proofs.Ytldiodhdefnlaaa.specL
namespace Go.Proofs.Ytldiodhdefnlaaa.eng
open Go.RowKit kit mix specL
def mdC (vo:Value) (pk tl:List Value):List Value:=vo::(pk++tl)
def mdT (t n:Int) (vp:Value) (mode:Int) (rows acts gt:Value):List Value:=[.int .i64 t,.int .i64 n,vp,.int .i64 mode,rows,acts,gt]
def pk0:List Value:=pkC (Vector.replicate 256 0) (.slice none 0 0) (.slice none 0 0)
theorem pk0_len:pk0.length=258:=pkC_len _ _ _
def md0:List Value:=mdC (.slice none 0 0) pk0 (mdT 0 0 (.slice none 0 0) 0 (.slice none 0 0) (.slice none 0 0) (.slice none 0 0))
theorem zero_md:(([.slice none 0 0]:List Value)++List.replicate 256 (Value.int .u8 0)++([.slice none 0 0,.slice none 0 0,.int .i64 0,.int .i64 0,.slice none 0 0,.int .i64 0,.slice none 0 0,.slice none 0 0,.slice none 0 0]:List Value)).toArray=md0.toArray:=by
  have e:∀ z:List Value,(([.slice none 0 0]:List Value)++z++([.slice none 0 0,.slice none 0 0,.int .i64 0,.int .i64 0,.slice none 0 0,.int .i64 0,.slice none 0 0,.slice none 0 0,.slice none 0 0]:List Value)).toArray=((.slice none 0 0:Value)::((z++[.slice none 0 0,.slice none 0 0])++mdT 0 0 (.slice none 0 0) 0 (.slice none 0 0) (.slice none 0 0) (.slice none 0 0))).toArray:=fun z=>by simp[mdT]
  unfold md0 mdC pk0 pkC
  rw[Vector.toList_replicate,List.map_replicate]
  exact e _
theorem build_md0 (w:World):(Instr.build 38 #[]).run Try.prog w = .ok (.agg md0.toArray) w:=by
  rw[←zero_md];kernel_rfl
theorem md_at {vo:Value} {pk tl:List Value} (j:Nat) (hp:pk.length=258) {k:Nat} {v:Value} (h:tl[j]?=some v) (hk:k=j+259):(mdC vo pk tl).toArray[k]?=some v:=by
  subst hk
  rw[List.getElem?_toArray,mdC,List.getElem?_cons_succ,List.getElem?_append_right (by omega),show j+258 - pk.length=j by omega];exact h
theorem md_set {vo:Value} {pk tl:List Value} (j:Nat) (hp:pk.length=258) {k:Nat} (v:Value) (hk:k=j+259):(mdC vo pk tl).toArray.setIfInBounds k v=(mdC vo pk (tl.set j v)).toArray:=by
  subst hk
  rw[List.setIfInBounds_toArray,mdC,List.set_cons_succ,List.set_append,if_neg (by omega),show j+258 - pk.length=j by omega];rfl
theorem md_size {vo:Value} {pk tl:List Value} (hp:pk.length=258) (ht:tl.length=7):(mdC vo pk tl).toArray.size=266:=by
  rw[List.size_toArray,mdC,List.length_cons,List.length_append];omega
theorem md_one {vo:Value} {pk tl:List Value} (h1:vo.oneCell'=true) (h2:pk.all Value.oneCell'=true) (h3:tl.all Value.oneCell'=true):(mdC vo pk tl).toArray.toList.all Value.oneCell'=true:=by
  rw[mdC,List.all_cons,List.all_append,h1,h2,h3];rfl
theorem pk0_one:pk0.all Value.oneCell'=true:=by
  have:=pk_one (Vector.replicate 256 0) (vn:= .slice none 0 0) (vt:= .slice none 0 0) rfl rfl
  simpa[pk0] using this
section
variable {P:Program} {n:Nat} {W:Base} {fr:Fr} {L:List Own} {Q:Exit→Act→World→Prop} {ops:Array Oper} {rest:List Oper} {ty:TypeId} {pos:String} {after:Array Edge} {t:TypeId} {p x:Operand} {i g k:Nat} {vo:Value} {pk tl:List Value} {T:TypeId} {agg:Bool} {v:Value}
theorem TL_storeMd (j:Nat) [hT:TyC P t agg 1] (hi:L[i]?=some (blkO g (mdC vo pk tl).toArray T)) (hp:ev fr p=some (.pointer (some ⟨g,k,none⟩))) (hx:ev fr x=some v) (hv:v.cells=#[v]) (h1:v.oneCell'=true) (hk:k=j+259) (hpk:pk.length=258) (hj:Nat.blt j tl.length=true)
    (h:TL P n W ops Q rest fr (L.set i (blkO g (mdC vo pk (tl.set j v)).toArray T))):TL P n W ops Q (⟨none,.store t p x,ty,pos,after,none⟩::rest) fr L:=by
  have hj:j<tl.length:=Nat.le_of_ble_eq_true hj
  refine TL_store1 hi hp hx hv h1 ?_ ?_
  · rw[List.size_toArray,mdC,List.length_cons,List.length_append]
    exact Nat.ble_eq_true_of_le (by omega)
  · rw[md_set j hpk v hk];exact h
theorem TL_storeMo [hT:TyC P t agg 1] (hi:L[i]?=some (blkO g (mdC vo pk tl).toArray T)) (hp:ev fr p=some (.pointer (some ⟨g,k,none⟩))) (hx:ev fr x=some v) (hv:v.cells=#[v]) (h1:v.oneCell'=true) (hk:k=0)
    (h:TL P n W ops Q rest fr (L.set i (blkO g (mdC v pk tl).toArray T))):TL P n W ops Q (⟨none,.store t p x,ty,pos,after,none⟩::rest) fr L:=by
  subst hk
  refine TL_store1 hi hp hx hv h1 rfl ?_
  exact h
theorem TL_storeMp {pk':List Value} [hT:TyC P t agg 258] (hi:L[i]?=some (blkO g (mdC vo pk tl).toArray T)) (hp:ev fr p=some (.pointer (some ⟨g,k,none⟩))) (hx:ev fr x=some (.agg pk'.toArray)) (h1:pk'.all Value.oneCell'=true) (hk:k=1) (hpk:pk.length=258) (hpk':pk'.length=258)
    (h:TL P n W ops Q rest fr (L.set i (blkO g (mdC vo pk' tl).toArray T))):TL P n W ops Q (⟨none,.store t p x,ty,pos,after,none⟩::rest) fr L:=by
  subst hk
  refine TL_store hT.ty hi hp hx (by simpa[Value.cells] using hpk') (by simpa[Value.cells] using h1) (by rw[List.size_toArray,mdC,List.length_cons,List.length_append];omega) ?_ h
  apply Array.ext'
  show vo::(pk'++tl)=List.take 1 (vo::(pk++tl))++pk'++List.drop (1+258) (vo::(pk++tl))
  rw[List.take_succ_cons,List.take_zero,show 1+258=258+1 from rfl,List.drop_succ_cons,List.drop_append_of_le_length (by omega),List.drop_of_length_le (by omega)];rfl
theorem TL_storeMt {a b c d e f f' u u':Value} [hT:TyC P t agg 2] (hi:L[i]?=some (blkO g (mdC vo pk [a,b,c,d,e,f,f']).toArray T)) (hp:ev fr p=some (.pointer (some ⟨g,k,none⟩))) (hx:ev fr x=some (.agg #[u,u'])) (h1:u.oneCell'=true) (h2:u'.oneCell'=true) (hk:k=264) (hpk:pk.length=258)
    (h:TL P n W ops Q rest fr (L.set i (blkO g (mdC vo pk [a,b,c,d,e,u,u']).toArray T))):TL P n W ops Q (⟨none,.store t p x,ty,pos,after,none⟩::rest) fr L:=by
  subst hk
  refine TL_store hT.ty hi hp hx rfl (by simp[Value.cells,h1,h2]) (by rw[List.size_toArray,mdC,List.length_cons,List.length_append];simp[hpk]) ?_ h
  apply Array.ext'
  show vo::(pk++[a,b,c,d,e,u,u'])=List.take (263+1) (vo::(pk++[a,b,c,d,e,f,f']))++[u,u']++List.drop (265+1) (vo::(pk++[a,b,c,d,e,f,f']))
  rw[List.take_succ_cons,List.drop_succ_cons,show 263=pk.length+5 by omega,List.take_append,List.take_of_length_le (by omega),show 265=pk.length+7 by omega,List.drop_append,List.drop_of_length_le (by omega)]
  simp
end
end Go.Proofs.Ytldiodhdefnlaaa.eng

/- SpecP -/
namespace Go.Proofs.Ytldiodhdefnlaaa.eng
open Go.RowKit kit mix classL rexL specL gramL
def symV' (s:Sym):Value:= .agg (symC s).toArray
theorem zero_sym1 (w:World):(zeroValue 112).run Try.prog w = .ok (symV' (0,0)) w:=by kernel_rfl
theorem field_sym1 (s:Sym) (w:World):(Instr.field 112 (symV' s) 1).run Try.prog w = .ok (.int .i64 s.2) w:=by
  obtain⟨a,b⟩:=s
  kernel_rfl
theorem rr_lookV {P:Program} {k:TypeId} {κ:Type} {K:KeyT P k κ} {W:Base} {fr:Fr} {L:List Own} {n:Nat} {dst:Option Tmp} {ty:TypeId} {pos:String} {after:Array Edge} {guard:Option (Nat×Bool)} {i g c:Nat} {t e:TypeId} {m:κ→Option Value} {x:κ} {z v:Value} {xm xk:Operand} (ht:P.underlying t=some (.map k e)) (hz:∀ w,(zeroValue e).run P w = .ok z w) (hi:L[i]?=some (mapO K g m c)) (hm:ev fr xm=some (.map (some g))) (hk:ev fr xk=some (K.kv x)) (hx:K.ok x) (hv:(m x).getD z=v):RR P n W ⟨dst,.lookup t xm xk false,ty,pos,after,guard⟩ fr L v:=by
  subst hv;exact rr_look K ht hz hi hm hk hx
def Tells (m:Bs→Option Value) (M:Num):Prop:=∀ y,m y=(M y).map symV'
theorem tells_nil:Tells (fun _=>none) (fun _=>none):=fun _=>rfl
theorem tells_put {m:Bs→Option Value} {M:Num} (h:Tells m M) {x:Bs} {s:Sym} {v:Value} (hv:v=symV' s):Tells (fun y=>if y=x then some v else m y) (putN M x s):=fun y=>by
  unfold putN
  dsimp only
  subst hv
  by_cases e:y=x
  · rw[if_pos e,if_pos e];rfl
  · rw[if_neg e,if_neg e];exact h y
theorem tells_get {m:Bs→Option Value} {M:Num} (h:Tells m M) (x:Bs):(m x).getD (symV' (0,0))=symV' (symN M x):=by
  rw[h x];unfold symN
  cases M x <;> rfl
theorem tells_none {m:Bs→Option Value} {M:Num} (h:Tells m M) {x:Bs} (hx:M x=none):m x=none:=by rw[h x,hx];rfl
theorem tells_some {m:Bs→Option Value} {M:Num} (h:Tells m M) {x:Bs} {s:Sym} (hx:M x=some s):m x=some (symV' s):=by rw[h x,hx];rfl
theorem md_gram {vo:Value} {pk:List Value} (hp:pk.length=258) {t n mode:Int} {vp rows acts gt v:Value} {j:Nat} (h:[.int .i64 t,.int .i64 n,vp][j]?=some v):(mdC vo pk (mdT t n vp mode rows acts gt)).toArray[0+259+j]?=some v:=by
  match j,h with
  | 0,h=>exact md_at 0 hp h rfl
  | 1,h=>exact md_at 1 hp h rfl
  | 2,h=>exact md_at 2 hp h rfl
  | n+3,h=>cases h
def numsX (gp:Nat) (e:Int) (len:Nat) (of:List Int) (g:Gram):Spec (Value×Value×(Nat→Prop)):=
  ⟨fun x=>x.1.oneCell'=true∧x.2.1.oneCell'=true,fun _=> .int .i64 e,fun x=>[blkO gp (mdC x.1 pk0 (mdT g.terms g.nons x.2.1 0 (.slice none 0 0) (.slice none 0 0) (.slice none 0 0))).toArray 38,rowO 3 1 x.1 len (of.map (Value.int .i64)),prodsO x.2.2 x.2.1 g.prods]⟩
def numsSp (gp:Nat) (s:Sp):Spec (Value×Value×(Nat→Prop)):=numsX gp (numE s) s.words.length (wsN s.words).1 (gramN s)
set_option maxHeartbeats 16000000 in
theorem numbers_calls (vw vr:Value) (s:Sp) (gp:Nat) (w0:World) (hv:SpR (Low w0) w0 (.agg #[vw,vr]) s) (hlw:s.words.length≤60) (hlr:s.rules.length≤60) (hbd:∀ r∈s.rules,r.2.length≤8796093021952) (w:World) (B:Base) (ho:Old w0 B) (hm:Mem B [blkO gp md0.toArray 38] w) :
    Calls Try.prog 22 #[.agg #[vw,vr],.pointer (some ⟨gp,0,none⟩)] w (MeetsB (numsSp gp s) B):=by
  obtain⟨vw',vr',hvv,hw,hr⟩:=hv
  obtain⟨rfl,rfl⟩:vw=vw'∧vr=vr':=by simpa using hvv
  clear hvv
  obtain⟨words,rules⟩:=s
  dsimp only at *
  obtain⟨bw,cw,rfl,-,-,hrdw⟩:=hw
  obtain⟨br,cr,rfl,-,-,hrdr⟩:=hr
  refine enterB hm (args:=[.agg #[.slice bw words.length cw,.slice br rules.length cr],.pointer (some ⟨gp,0,none⟩)]) (n:=153) Try.func22 rfl rfl rfl ?_
  refine T_seq (T_region (TL_box rfl rfl rfl fun g2 => ?_))
  conv=>arg 8;simp only[zA,zB,zC,zD,zE,zF,zG,zH,zI,rowS,ret,id_eq]
  try refine GA ?_
  refine TL_map strK rfl fun gm => ?_
  conv=>arg 8;simp only[zA,zB,zC,zD,zE,zF,zG,zH,zI,rowS,ret,id_eq]
  repeat(first|refine GA ?_|refine gV (rr_load1 (v:= .slice bw words.length cw) TyC.ty rfl (at_blk (i:=1) rfl rfl)) ?_)
  refine T_nil 3 1 ?_
  refine T_loop (ι:=Nat×List Int×Int×Num×Value×(Bs→Option Value)×Nat)
    (fun (k,of,t,M,vo,m,n)=>k≤words.length∧n≤k∧(words.take k).foldl stepW ws0=(of,t,M)∧Tells m M∧vo.oneCell'=true)
    (fun (k,_,_,_,_,_,_)=>[(1,.pointer (some ⟨gp,0,none⟩)),(2,.pointer (some ⟨g2,0,none⟩)),(5,.map (some gm)),(19,.slice bw words.length cw),(20,.int .i64 words.length),(21,.int .i64 (k:Int))])
    (fun (k,of,t,_,vo,m,n)=>[blkO gp (mdC vo pk0 (mdT t 0 (.slice none 0 0) 0 (.slice none 0 0) (.slice none 0 0) (.slice none 0 0))).toArray 38,blkO g2 #[.slice bw words.length cw,.slice br rules.length cr] 25,mapO strK gm m n,rowO 3 1 vo k (of.map (Value.int .i64))])
    (fun (k,_,_,_,_,_,_)=>words.length - k) (0,[],0,fun _=>none,.slice none 0 0,fun _=>none,0) ⟨Nat.zero_le _,Nat.le_refl _,rfl,tells_nil,rfl⟩ (by repeat' (first | exact True.intro | refine And.intro rfl ?_)) rfl ?_
  clear hm
  rintro⟨k,of,t,M,vo,m,n⟩ ⟨i1,i2,i3,i4,i5⟩
  dsimp only at i1 i2 i3 i4 i5 ⊢
  have hws:=ws_ok words k i1 (by omega)
  rw[i3] at hws
  obtain⟨s1,s2,s3,s4⟩:=hws
  dsimp only at s1 s2 s3 s4
  by_cases c1:k<words.length
  · obtain⟨b,off,rfl,_,hr⟩:=hrdw (by omega)
    obtain⟨bk,ck,q1,q2,q3⟩:=word_at hr c1
    have hst:=step_take stepW ws0 words c1
    rw[i3] at hst
    have hat:∀ (L:List Own) (j:Nat) (u:Value),(wdC words[k].1 words[k].2.kind words[k].2.cls (.slice bk words[k].2.kids.length ck))[j]?=some u→At B L ⟨b,off+k*7+j,none⟩ u:=fun L j u hj=>at_old0 ho (q1 j u hj)
    clear hr hrdw hrdr q1 q2
    generalize words[k]=wd at *
    obtain⟨nm,r⟩:=wd
    dsimp only at *
    generalize r.kind=rk at *
    generalize r.cls=rc at *
    generalize r.kids.length=rn at *
    repeat(first|refine GA ?_|refine gV (rr_idxc Und.eq TyC.ty rfl rfl c1) ?_|refine gV (rr_loadN (cs:=wdC nm rk rc (.slice bk rn ck)) TyC.ty rfl rfl (hat _)) ?_)
    clear hat
    refine TL_new rfl fun g7 => ?_
    conv=>arg 8;simp only[zA,zB,zC,zD,zE,zF,zG,zH,zI,rowS,ret,id_eq]
    refine TL_storeB (i:=4) (cs':=(wdC nm rk rc (.slice bk rn ck)).toArray) rfl rfl rfl rfl rfl rfl ?_
    conv=>arg 8;simp only[zA,zB,zC,zD,zE,zF,zG,zH,zI,rowS,ret,id_eq]
    by_cases e0:nm=[]
    · subst e0
      repeat(first|refine GC ?_|refine gV (rr_load1 (v:=str []) TyC.ty rfl (at_blk (i:=4) rfl rfl)) ?_|refine gV (rr_streq (b:=true) rfl rfl rfl) ?_|refine gV (rr_load1 (v:=vo) TyC.ty rfl (at_blk (i:=0) rfl rfl)) ?_|refine GB ?_)
      refine TL_push1 (i:=3) rfl rfl rfl rfl rfl rfl (fun z h=>by cases h;rfl) (by omega) (by omega) rfl fun z' v' => ?_
      conv=>arg 8;simp only[zA,zB,zC,zD,zE,zF,zG,zH,zI,rowS,ret,id_eq]
      try refine GA ?_
      refine TL_slv (i:=3) rfl fun hc1 ho1 => ?_
      refine TL_storeMo (i:=0) rfl rfl rfl hc1 ho1 rfl ?_
      conv=>arg 8;simp only[zA,zB,zC,zD,zE,zF,zG,zH,zI,rowS,ret,id_eq]
      try refine GA ?_
      refine E_pick [0,1,2,3] (by decide) rfl ?_
      exact E_round (k+1,of++[-1],t,M,v',m,n) ⟨by omega,by show n≤k+1;omega,hst,i4,ho1⟩ (by show words.length - (k+1)<words.length - k;omega) (by repeat' (first | exact True.intro | refine And.intro rfl ?_)) (by dsimp only;rw[List.map_append];rfl)
    · rw[show stepW (of,t,M) (nm,r)=(of++[t],t+1,putN M nm (1,t)) from if_neg e0] at hst
      repeat(first|refine GC ?_|refine gV (rr_load1 (v:=str nm) TyC.ty rfl (at_blk (i:=4) rfl rfl)) ?_|refine gV (rr_streq (b:=false) rfl rfl (decide_eq_false e0)) ?_|refine GB ?_)
      (repeat refine T_seq ?_)
      refine T_ord ([blkO gp (mdC vo pk0 (mdT t 0 (.slice none 0 0) 0 (.slice none 0 0) (.slice none 0 0) (.slice none 0 0))).toArray 38,blkO g7 (wdC nm rk rc (.slice bk rn ck)).toArray 87]) (.calm 0 (.calm 1 (.calm 2 (.calm 3 (.calm 4 (.calm 5 (.calm 6 (.calm 7 (.calm 8 (.one 9 (.done))))))))))) (sub_pick [0,4] (by decide) rfl) (by kernel_rfl) (by kernel_rfl) (by intro c a d v w h;cases d <;> exact h) ?_
      repeat(first|refine GW ?_|(refine GN ?_;first|refine QW (rr_load1 (v:=str nm) TyC.ty rfl (at_blk (i:=1) rfl rfl)) ?_|refine QW (rr_load1 (v:= .int .i64 t) TyC.ty rfl (at_blk (i:=0) rfl (md_at 0 pk0_len rfl rfl))) ?_|refine QW (rr_build rfl (build_sy _ _)) ?_))
      refine TW_one rfl (TL_mapSet (i:=2) (x:=nm) (v:=symV' (1,t)) strK Und.eq rfl rfl rfl rfl q3 (by omega) (TW_on (sub_pick [0,4] (by decide) rfl) ?_))
      conv=>arg 8;simp only[zA,zB,zC,zD,zE,zF,zG,zH,zI,rowS,ret,id_eq]
      try refine GW ?_
      try refine GA ?_
      (repeat refine T_seq ?_)
      refine T_ord ([]) (.calm 0 (.calm 1 (.calm 2 (.calm 3 (.calm 5 (.calm 6 (.calm 7 (.calm 8 (.two 4 (.one 9 (.one 10 (.one 11 (.calm 12 (.calm 13 (.one 14 (.done))))))) 9 (.two 4 (.one 10 (.one 11 (.calm 12 (.calm 13 (.one 14 (.done)))))) 10 (.one 4 (.one 11 (.calm 12 (.calm 13 (.one 14 (.done)))))))))))))))) (sub_pick [] (by decide) rfl) (by kernel_rfl) (by kernel_rfl) (by intro c a d v w h;cases d <;> exact h) ?_
      try refine GW ?_
      refine TW_two rfl rfl ?a1 ?a2
      case' a2=>
        refine TL_val (rr_load1 (v:= .int .i64 t) TyC.ty rfl (at_blk (i:=0) rfl (md_at 0 pk0_len rfl rfl))) rfl rfl rfl (TW_on (sub_pick [] (by decide) rfl) ?_)
        refine TW_two rfl rfl ?a3 ?a4
      case' a4=>
        refine TL_one (cs:=#[.int .i64 t]) rfl rfl rfl rfl rfl fun g56=>TW_on (sub_pick [] (by decide) rfl) ?_
        refine TW_one rfl (TL_val (rr_load1 (v:=vo) TyC.ty rfl (at_blk (i:=0) rfl rfl)) rfl rfl rfl (TW_on (sub_pick [] (by decide) rfl) ?_))
      case' a3=>
        refine TL_val (rr_load1 (v:=vo) TyC.ty rfl (at_blk (i:=0) rfl rfl)) rfl rfl rfl (TW_on (sub_pick [] (by decide) rfl) ?_)
        refine TW_one rfl (TL_one (cs:=#[.int .i64 t]) rfl rfl rfl rfl rfl fun g56=>TW_on (sub_pick [] (by decide) rfl) ?_)
      case' a1=>
        refine TL_val (rr_load1 (v:=vo) TyC.ty rfl (at_blk (i:=0) rfl rfl)) rfl rfl rfl (TW_on (sub_pick [] (by decide) rfl) ?_)
        refine TW_one rfl (TL_val (rr_load1 (v:= .int .i64 t) TyC.ty rfl (at_blk (i:=0) rfl (md_at 0 pk0_len rfl rfl))) rfl rfl rfl (TW_on (sub_pick [] (by decide) rfl) ?_))
        refine TW_one rfl (TL_one (cs:=#[.int .i64 t]) rfl rfl rfl rfl rfl fun g56=>TW_on (sub_pick [] (by decide) rfl) ?_)
      all_goals
        conv=>arg 8;simp only[zA,zB,zC,zD,zE,zF,zG,zH,zI,rowS,ret,id_eq]
        refine TW_one rfl (TL_app11 (i:=3) (q:=5) rfl rfl rfl rfl rfl rfl (by omega) (by omega) rfl fun v'=>TW_on (sub_pick [] (by decide) rfl) ?_)
        conv=>arg 8;simp only[zA,zB,zC,zD,zE,zF,zG,zH,zI,rowS,ret,id_eq]
        try refine GW ?_
        refine TW_one rfl (TL_slv (i:=3) rfl fun hc1 ho1=>TL_storeMo (i:=0) rfl rfl rfl hc1 ho1 rfl (TW_on (sub_pick [] (by decide) rfl) ?_))
        conv=>arg 8;simp only[zA,zB,zC,zD,zE,zF,zG,zH,zI,rowS,ret,id_eq]
        try refine GW ?_
        repeat(first|refine GA ?_|refine gV (rr_load1 (v:= .int .i64 t) TyC.ty rfl (at_blk (i:=0) rfl (md_at 0 pk0_len rfl rfl))) ?_)
        refine TL_storeMd 0 (i:=0) rfl rfl rfl rfl rfl rfl pk0_len rfl ?_
        conv=>arg 8;simp only[zA,zB,zC,zD,zE,zF,zG,zH,zI,rowS,ret,id_eq]
        try refine GA ?_
        refine E_pick [0,1,2,3] (by decide) rfl ?_
        exact E_round (k+1,of++[t],t+1,putN M nm (1,t),v',_,_) ⟨by omega,by show (if (m nm).isSome then n else n+1)≤k+1;split <;> omega,hst,tells_put i4 rfl,ho1⟩ (by show words.length - (k+1)<words.length - k;omega) (by repeat' (first | exact True.intro | refine And.intro rfl ?_)) (by dsimp only;rw[List.map_append];rfl)
  · obtain rfl:k=words.length:=by omega
    rw[List.take_length] at i3
    have hW:wsN words=(of,t,M):=i3
    clear hrdw
    repeat(first|refine GA ?_|refine gV (rr_load1 (v:= .slice br rules.length cr) TyC.ty rfl (at_blk (i:=1) rfl rfl)) ?_)
    refine T_loop (ι:=Nat×Int×Num×(Bs→Option Value)×Nat)
      (fun (j,N,M2,m2,n2)=>j≤rules.length∧n2≤60+j∧(rules.take j).foldl stepH (0,M)=(N,M2)∧Tells m2 M2)
      (fun (j,_,_,_,_)=>[(1,.pointer (some ⟨gp,0,none⟩)),(2,.pointer (some ⟨g2,0,none⟩)),(5,.map (some gm)),(71,.slice br rules.length cr),(72,.int .i64 rules.length),(73,.int .i64 (j:Int))])
      (fun (_,N,_,m2,n2)=>[blkO gp (mdC vo pk0 (mdT t N (.slice none 0 0) 0 (.slice none 0 0) (.slice none 0 0) (.slice none 0 0))).toArray 38,blkO g2 #[.slice bw words.length cw,.slice br rules.length cr] 25,mapO strK gm m2 n2,rowO 3 1 vo words.length (of.map (Value.int .i64))])
      (fun (j,_,_,_,_)=>rules.length - j) (0,0,M,m,n) ⟨Nat.zero_le _,by omega,rfl,i4⟩ (by repeat' (first | exact True.intro | refine And.intro rfl ?_)) rfl ?_
    clear i4
    rintro⟨j,N,M2,m2,n2⟩ ⟨j1,j2,j3,j4⟩
    dsimp only at j1 j2 j3 j4 ⊢
    have hhs:=hs_ok rules M s4 j j1 (by omega)
    rw[j3] at hhs
    obtain⟨u1,u2,u3⟩:=hhs
    dsimp only at u1 u2 u3
    by_cases c2:j<rules.length
    · obtain⟨b,off,rfl,_,hrd⟩:=hrdr (by omega)
      obtain⟨bk,ck,q1,-,q3⟩:=rule_at hrd c2
      have hst:=step_take stepH (0,M) rules c2
      rw[j3] at hst
      have hat:∀ (L:List Own) (j':Nat) (u:Value),([str rules[j].1,.slice bk rules[j].2.length ck]:List Value)[j']?=some u→At B L ⟨b,off+j*2+j',none⟩ u:=fun L j' u hj=>at_old0 ho (q1 j' u hj)
      clear hrd q1 hrdr
      generalize rules[j]=r at *
      obtain⟨nm,bd⟩:=r
      dsimp only at *
      generalize bd.length=bn at *
      repeat(first|refine GA ?_|refine gV (rr_idxc Und.eq TyC.ty rfl rfl c2) ?_|refine gV (rr_loadN (cs:=[str nm,.slice bk bn ck]) TyC.ty rfl rfl (hat _)) ?_)
      clear hat
      refine TL_new rfl fun g9 => ?_
      conv=>arg 8;simp only[zA,zB,zC,zD,zE,zF,zG,zH,zI,rowS,ret,id_eq]
      refine TL_storeB (i:=4) (cs':=#[str nm,.slice bk bn ck]) rfl rfl rfl rfl rfl rfl ?_
      conv=>arg 8;simp only[zA,zB,zC,zD,zE,zF,zG,zH,zI,rowS,ret,id_eq]
      cases hM:M2 nm with
      | some x=>
        rw[show stepH (N,M2) (nm,bd)=(N,M2) from if_pos (by show (M2 nm).isSome=true;rw[hM];rfl)] at hst
        repeat(first|refine GA ?_|refine gV (rr_load1 (v:=str nm) TyC.ty rfl (at_blk (i:=4) rfl rfl)) ?_|refine gV (rr_lookOkS strK (x:=nm) Und.eq zero_sym1 (i:=2) rfl rfl rfl q3 (tells_some j4 hM)) ?_)
        refine TL_new rfl fun g10 => ?_
        conv=>arg 8;simp only[zA,zB,zC,zD,zE,zF,zG,zH,zI,rowS,ret,id_eq]
        refine TL_storeB (i:=5) (cs':=(symC x).toArray) rfl rfl rfl rfl rfl rfl ?_
        conv=>arg 8;simp only[zA,zB,zC,zD,zE,zF,zG,zH,zI,rowS,ret,id_eq]
        try refine GA ?_
        refine E_pick [0,1,2,3] (by decide) rfl ?_
        exact E_round (j+1,N,M2,m2,n2) ⟨by omega,by show n2≤60+(j+1);omega,hst,j4⟩ (by show rules.length - (j+1)<rules.length - j;omega) (by repeat' (first | exact True.intro | refine And.intro rfl ?_)) rfl
      | none=>
        rw[show stepH (N,M2) (nm,bd)=(N+1,putN M2 nm (2,N)) from if_neg (by show ¬ (M2 nm).isSome=true;rw[hM];decide)] at hst
        repeat(first|refine GA ?_|refine gV (rr_load1 (v:=str nm) TyC.ty rfl (at_blk (i:=4) rfl rfl)) ?_|refine gV (rr_lookOkN strK (x:=nm) Und.eq zero_sym1 (i:=2) rfl rfl rfl q3 (tells_none j4 hM)) ?_)
        refine TL_new rfl fun g10 => ?_
        conv=>arg 8;simp only[zA,zB,zC,zD,zE,zF,zG,zH,zI,rowS,ret,id_eq]
        refine TL_storeB (i:=5) (cs':=(symC (0,0)).toArray) rfl rfl rfl rfl rfl rfl ?_
        conv=>arg 8;simp only[zA,zB,zC,zD,zE,zF,zG,zH,zI,rowS,ret,id_eq]
        try refine GA ?_
        (repeat refine T_seq ?_)
        refine T_ord ([blkO gp (mdC vo pk0 (mdT t N (.slice none 0 0) 0 (.slice none 0 0) (.slice none 0 0) (.slice none 0 0))).toArray 38,blkO g9 #[str nm,.slice bk bn ck] 78]) (.calm 0 (.calm 1 (.calm 2 (.calm 3 (.calm 4 (.calm 5 (.calm 6 (.calm 7 (.calm 8 (.one 9 (.done))))))))))) (sub_pick [0,4] (by decide) rfl) (by kernel_rfl) (by kernel_rfl) (by intro c a d v w h;cases d <;> exact h) ?_
        repeat(first|refine GW ?_|(refine GN ?_;first|refine QW (rr_load1 (v:=str nm) TyC.ty rfl (at_blk (i:=1) rfl rfl)) ?_|refine QW (rr_load1 (v:= .int .i64 N) TyC.ty rfl (at_blk (i:=0) rfl (md_at 1 pk0_len rfl rfl))) ?_|refine QW (rr_build rfl (build_sy _ _)) ?_))
        refine TW_one rfl (TL_mapSet (i:=2) (x:=nm) (v:=symV' (2,N)) strK Und.eq rfl rfl rfl rfl q3 (by omega) (TW_on (sub_pick [0,4] (by decide) rfl) ?_))
        conv=>arg 8;simp only[zA,zB,zC,zD,zE,zF,zG,zH,zI,rowS,ret,id_eq]
        try refine GW ?_
        repeat(first|refine GA ?_|refine gV (rr_load1 (v:= .int .i64 N) TyC.ty rfl (at_blk (i:=0) rfl (md_at 1 pk0_len rfl rfl))) ?_)
        refine TL_storeMd 1 (i:=0) rfl rfl rfl rfl rfl rfl pk0_len rfl ?_
        conv=>arg 8;simp only[zA,zB,zC,zD,zE,zF,zG,zH,zI,rowS,ret,id_eq]
        try refine GA ?_
        refine E_pick [0,1,2,3] (by decide) rfl ?_
        exact E_round (j+1,N+1,putN M2 nm (2,N),_,_) ⟨by omega,by show (if (m2 nm).isSome then n2 else n2+1)≤60+(j+1);split <;> omega,hst,tells_put j4 rfl⟩ (by show rules.length - (j+1)<rules.length - j;omega) (by repeat' (first | exact True.intro | refine And.intro rfl ?_)) rfl
    · obtain rfl:j=rules.length:=by omega
      rw[List.take_length] at j3
      have hH:hsN ⟨words,rules⟩=(N,M2):=by unfold hsN;rw[hW];exact j3
      repeat(first|refine GA ?_|refine gV (rr_load1 (v:= .slice br rules.length cr) TyC.ty rfl (at_blk (i:=1) rfl rfl)) ?_)
      refine T_nil 63 2 (T_extra (elsO prodS (fun _=>False) [] []) (fun k hk=>hk.elim (fun h=>by cases h) id) (fun w=>els_nil) ?_)
      refine T_pick [0,2,3,4,5] (by decide) rfl ?_
      refine T_loop (ι:=Nat×List gramL.Prod×Value×List (List Value)×(Nat→Prop))
        (fun (j,ps,vp,css,F)=>j≤rules.length∧ps=(rules.take j).map (prodN M2)∧vp.oneCell'=true)
        (fun (j,_,_,_,_)=>[(1,.pointer (some ⟨gp,0,none⟩)),(5,.map (some gm)),(106,.slice br rules.length cr),(107,.int .i64 rules.length),(108,.int .i64 (j:Int))])
        (fun (j,ps,vp,css,F)=>[blkO gp (mdC vo pk0 (mdT t N vp 0 (.slice none 0 0) (.slice none 0 0) (.slice none 0 0))).toArray 38,mapO strK gm m2 n2,rowO 3 1 vo words.length (of.map (Value.int .i64)),rowO 63 2 vp ps.length css.flatten,elsO prodS F css ps])
        (fun (j,_,_,_,_)=>rules.length - j) (0,[],.slice none 0 0,[],fun _=>False) ⟨Nat.zero_le _,rfl,rfl⟩ (by repeat' (first | exact True.intro | refine And.intro rfl ?_)) rfl ?_
      rintro⟨j,ps,vp,css,F⟩ ⟨k1,k2,k3⟩
      dsimp only at k1 k2 k3 ⊢
      by_cases c3:j<rules.length
      · obtain⟨b,off,rfl,_,hrd⟩:=hrdr (by omega)
        obtain⟨bk,ck,q1,q2,q3⟩:=rule_at hrd c3
        have hps:(rules.take (j+1)).map (prodN M2)=ps++[prodN M2 rules[j]]:=by rw[List.take_succ_eq_append_getElem c3,List.map_append,←k2];rfl
        have hpl:ps.length=j:=by rw[k2,List.length_map,List.length_take];omega
        have hat:∀ (L:List Own) (j':Nat) (u:Value),([str rules[j].1,.slice bk rules[j].2.length ck]:List Value)[j']?=some u→At B L ⟨b,off+j*2+j',none⟩ u:=fun L j' u hj=>at_old0 ho (q1 j' u hj)
        have hsl:=q2.flat (by decide)
        have hok:=q2.okp
        have hb6:=hbd _ (List.getElem_mem c3)
        clear hrd q1 q2 hrdr
        generalize rules[j]=r at *
        obtain⟨nm,bd⟩:=r
        dsimp only at *
        obtain⟨b2,c2',hv2,hc2,hm2,hrd2⟩:=hsl
        cases hv2
        unfold maxLen at hm2
        have hsm:=small_sym u3 nm
        repeat(first|refine GA ?_|refine gV (rr_idxc Und.eq TyC.ty rfl rfl c3) ?_|refine gV (rr_loadN (cs:=[str nm,.slice bk bd.length ck]) TyC.ty rfl rfl (hat _)) ?_)
        clear hat
        refine TL_new rfl fun g13 => ?_
        conv=>arg 8;simp only[zA,zB,zC,zD,zE,zF,zG,zH,zI,rowS,ret,id_eq]
        refine TL_storeB (i:=5) (cs':=#[str nm,.slice bk bd.length ck]) rfl rfl rfl rfl rfl rfl ?_
        conv=>arg 8;simp only[zA,zB,zC,zD,zE,zF,zG,zH,zI,rowS,ret,id_eq]
        repeat(first|refine GA ?_|refine gV (rr_load1 (v:=str nm) TyC.ty rfl (at_blk (i:=5) rfl rfl)) ?_|refine gV (rr_lookV (K:=strK) (x:=nm) Und.eq zero_sym1 (i:=1) rfl rfl rfl q3 (tells_get j4 nm)) ?_|refine gV (rr_vfld rfl (field_sym1 _)) ?_|refine gV (rr_build rfl (build_prdh _)) ?_)
        refine TL_new rfl fun g14 => ?_
        conv=>arg 8;simp only[zA,zB,zC,zD,zE,zF,zG,zH,zI,rowS,ret,id_eq]
        refine TL_storeB (i:=6) (cs':=#[.int .i64 (symN M2 nm).2,.slice none 0 0]) rfl rfl rfl rfl rfl rfl ?_
        conv=>arg 8;simp only[zA,zB,zC,zD,zE,zF,zG,zH,zI,rowS,ret,id_eq]
        repeat(first|refine GA ?_|refine gV (rr_load1 (v:= .slice bk bd.length ck) TyC.ty rfl (at_blk (i:=5) rfl rfl)) ?_)
        refine T_nil 112 2 ?_
        refine T_pick [0,1,2,3,4,6,7] (by decide) rfl ?_
        refine T_loop (ι:=Nat×Value) (fun (i,vb)=>i≤bd.length∧vb.oneCell'=true)
          (fun (i,vb)=>[(1,.pointer (some ⟨gp,0,none⟩)),(5,.map (some gm)),(14,.pointer (some ⟨g14,0,none⟩)),(106,.slice (some ⟨b,off,none⟩) rules.length cr),(107,.int .i64 rules.length),(108,.int .i64 (j:Int)),(119,.slice bk bd.length ck),(120,.int .i64 bd.length),(121,.int .i64 (i:Int))])
          (fun (i,vb)=>[blkO gp (mdC vo pk0 (mdT t N vp 0 (.slice none 0 0) (.slice none 0 0) (.slice none 0 0))).toArray 38,mapO strK gm m2 n2,rowO 3 1 vo words.length (of.map (Value.int .i64)),rowO 63 2 vp ps.length css.flatten,elsO prodS F css ps,blkO g14 #[.int .i64 (symN M2 nm).2,vb] 63,rowO 112 2 vb i (((bd.take i).map (symN M2)).flatMap symC)])
          (fun (i,_)=>bd.length - i) (0,.slice none 0 0) ⟨Nat.zero_le _,rfl⟩ (by repeat' (first | exact True.intro | refine And.intro rfl ?_)) rfl ?_
        rintro⟨i,vb⟩ ⟨l1,l2⟩
        dsimp only at l1 l2 ⊢
        by_cases c4:i<bd.length
        · obtain⟨b3,off3,rfl,hr3⟩:=hrd2 (by omega)
          have hat:=fun L=>at_elL (W:=B) (L:=L) bsC_len (fun j u hj=>at_old0 ho (hr3 j u hj)) c4 0 _ rfl
          have hlen:=hok bd[i] (List.getElem_mem c4)
          have htk:((bd.take (i+1)).map (symN M2)).flatMap symC=((bd.take i).map (symN M2)).flatMap symC++symC (symN M2 bd[i]):=by
            rw[List.take_succ_eq_append_getElem c4,List.map_append,List.flatMap_append];simp
          clear hr3 hrd2
          generalize bd[i]=x at *
          repeat(first|refine GA ?_|refine gV (rr_idxc Und.eq TyC.ty rfl rfl c4) ?_|refine gV (rr_load1 (v:=str x) TyC.ty rfl (hat _)) ?_|refine gV (rr_load1 (v:=vb) TyC.ty rfl (at_blk (i:=5) rfl rfl)) ?_|refine gV (rr_lookV (K:=strK) (x:=x) Und.eq zero_sym1 (i:=1) rfl rfl rfl hlen (tells_get j4 x)) ?_)
          refine TL_pushN (i:=6) (cs:=(symC (symN M2 x)).toArray) rfl rfl rfl rfl rfl rfl rfl (fun z h=>by cases h;rfl) (by omega) (by omega) rfl fun z vb' => ?_
          conv=>arg 8;simp only[zA,zB,zC,zD,zE,zF,zG,zH,zI,rowS,ret,id_eq]
          try refine GA ?_
          refine TL_slv (i:=6) rfl fun hc1 ho1 => ?_
          refine TL_store1 (i:=5) rfl rfl rfl hc1 ho1 rfl ?_
          conv=>arg 8;simp only[zA,zB,zC,zD,zE,zF,zG,zH,zI,rowS,ret,id_eq]
          try refine GA ?_
          exact E_round (i+1,vb') ⟨by omega,ho1⟩ (by show bd.length - (i+1)<bd.length - i;omega) (by repeat' (first | exact True.intro | refine And.intro rfl ?_)) (by dsimp only;rw[htk];rfl)
        · obtain rfl:i=bd.length:=by omega
          rw[List.take_length]
          clear hrd2
          have hbl:(bd.map (symN M2)).length=bd.length:=List.length_map ..
          rw[←hbl]
          have hbd2:prodN M2 (nm,bd)=((symN M2 nm).2,bd.map (symN M2)):=rfl
          have hsy:∀ x∈bd.map (symN M2),okSym x:=fun x hx=>by
            obtain⟨y,-,rfl⟩:=List.mem_map.1 hx
            have:=small_sym u3 y
            exact⟨gok ⟨this.1,by omega⟩,gok ⟨this.2.2.1,by omega⟩⟩
          generalize symN M2 nm=hd at *
          generalize bd.map (symN M2)=body at *
          try refine GA ?_
          (repeat refine T_seq ?_)
          refine T_ord ([blkO g14 #[.int .i64 hd.2,vb] 63]) (.calm 0 (.calm 1 (.calm 2 (.calm 3 (.calm 4 (.calm 6 (.two 5 (.one 7 (.one 8 (.calm 9 (.calm 10 (.calm 11 (.one 12 (.done))))))) 7 (.one 5 (.one 8 (.calm 9 (.calm 10 (.calm 11 (.one 12 (.done)))))))))))))) (sub_pick [5] (by decide) rfl) (by kernel_rfl) (by kernel_rfl) (by intro c a d v w h;cases d <;> exact h) ?_
          repeat(first|refine GW ?_|(refine GN ?_;first|refine QW (rr_loadB (i:=0) TyC.ty rfl rfl rfl) ?_))
          refine TW_two rfl rfl ?b1 ?b2
          case' b1=>
            refine TL_val (rr_load1 (v:=vp) TyC.ty rfl (at_blk (i:=0) rfl (md_at 2 pk0_len rfl rfl))) rfl rfl rfl (TW_on (sub_pick [5] (by decide) rfl) ?_)
            refine TW_one rfl (TL_one (cs:=#[.int .i64 hd.2,vb]) rfl rfl rfl rfl rfl fun g15=>TW_on (sub_pick [5] (by decide) rfl) ?_)
          case' b2=>
            refine TL_one (cs:=#[.int .i64 hd.2,vb]) rfl rfl rfl rfl rfl fun g15=>TW_on (sub_pick [5] (by decide) rfl) ?_
            refine TW_one rfl (TL_val (rr_load1 (v:=vp) TyC.ty rfl (at_blk (i:=0) rfl (md_at 2 pk0_len rfl rfl))) rfl rfl rfl (TW_on (sub_pick [5] (by decide) rfl) ?_))
          all_goals
            conv=>arg 8;simp only[zA,zB,zC,zD,zE,zF,zG,zH,zI,rowS,ret,id_eq]
            refine TW_one rfl (TL_app1 (i:=3) (q:=7) rfl rfl rfl rfl rfl (by simp only[List.all_cons,List.all_nil,l2];rfl) (by omega) (by omega) rfl fun v'=>TW_on (sub_pick [5] (by decide) rfl) ?_)
            conv=>arg 8;simp only[zA,zB,zC,zD,zE,zF,zG,zH,zI,rowS,ret,id_eq]
            try refine GW ?_
            refine TW_one rfl (TL_slv (i:=3) rfl fun hc1 ho1=>TL_storeMd 2 (i:=0) rfl rfl rfl hc1 ho1 rfl pk0_len rfl (TW_on (sub_pick [5] (by decide) rfl) ?_))
            conv=>arg 8;simp only[zA,zB,zC,zD,zE,zF,zG,zH,zI,rowS,ret,id_eq]
            try refine GW ?_
            refine E_merge (elsO prodS (fun k=>F k∨vb.ownBlock=some k) (css++[[.int .i64 hd.2,vb]]) (ps++[(hd.2,body)])) 6 4 [0,1,2,3] (by decide) rfl rfl rfl (fun k hk=>hk.elim (fun h=>by cases h) fun h=>h.elim (fun h=> .inr (.inr h)) fun h=> .inl (.inl h)) (fun w hr he => ?_) ?_
            · exact els_snoc he (prod_of_row (gok ⟨hsm.2.2.1,by omega⟩) hsy hr) fun k hk=>(rowO 112 2 vb body.length (body.flatMap symC)).lt w hr k (.inl hk)
            try refine GA ?_
            exact E_round (j+1,ps++[(hd.2,body)],v',css++[[.int .i64 hd.2,vb]],fun k=>F k∨vb.ownBlock=some k) ⟨by omega,by rw[hps,hbd2],ho1⟩ (by show rules.length - (j+1)<rules.length - j;omega) (by repeat' (first | exact True.intro | refine And.intro rfl ?_)) (by rw[List.length_append,List.flatten_append];rfl)
      · obtain rfl:j=rules.length:=by omega
        rw[List.take_length] at k2
        subst k2
        have hG:gramN ⟨words,rules⟩=⟨t,N,rules.map (prodN M2)⟩:=by unfold gramN;rw[hW,hH]
        have hE:numE ⟨words,rules⟩=if checkG ⟨t,N,rules.map (prodN M2)⟩≠0 then 2 else 0:=by unfold numE;rw[hG]
        have hS:∀ e,numE ⟨words,rules⟩=e→numsSp gp ⟨words,rules⟩=numsX gp e words.length of ⟨t,N,rules.map (prodN M2)⟩:=fun e he=>by
          show numsX gp (numE _) words.length (wsN words).1 (gramN _)=_
          rw[hW,hG,he]
        clear hG
        generalize rules.map (prodN M2)=ps at *
        repeat(first|refine GA ?_|refine gV (rr_loadN (cs:=[.int .i64 t,.int .i64 N,vp]) TyC.ty rfl rfl (fun j v h=>at_blk (i:=0) rfl (md_gram pk0_len h))) ?_)
        refine TL_merge (prodsO (Or1 F vp) vp ps) 3 4 [0,2] (by decide) rfl rfl rfl (fun k hk=>hk.elim (fun h=>by cases h) fun h=>h.elim (fun h=> .inr (.inr h)) fun h=> .inl (.inl h)) (fun w hr he=>⟨⟨vp,rfl,slf_of hr he (by decide)⟩,slO_lt hr he⟩) ?_
        conv=>arg 8;simp only[zA,zB,zC,zD,zE,zF,zG,zH,zI,rowS,ret,id_eq]
        refine TL_call (he1 EntersC.en rfl rfl) (fun w hm=>checkG_calls _ ⟨t,N,ps⟩ w (gprods_gra (gok ⟨s2,by omega⟩) (gok ⟨u1,by omega⟩) (hm.get (i:=2) rfl))) rfl rfl rfl ?_
        intro _ _
        conv=>arg 8;simp only[zA,zB,zC,zD,zE,zF,zG,zH,zI,rowS,ret,id_eq]
        generalize checkG ⟨t,N,ps⟩=e at *
        by_cases c:e≠0
        · rw[if_pos c] at hE
          rw[hS _ hE]
          repeat(first|refine GC ?_|refine gV (rr_neq (b:=true) rfl rfl (decide_eq_true c)) ?_|refine GB ?_)
          exact E_ret1 rfl rfl fun w hm=>hm.meetsB (S:=numsX gp 2 words.length of ⟨t,N,ps⟩) (vo,vp,Or1 F vp) ⟨i5,k3⟩ [0,1,2] (by decide) rfl
        · rw[if_neg c] at hE
          rw[hS _ hE]
          repeat(first|refine GC ?_|refine gV (rr_neq (b:=false) rfl rfl (decide_eq_false c)) ?_|refine GB ?_)
          exact E_ret1 rfl rfl fun w hm=>hm.meetsB (S:=numsX gp 0 words.length of ⟨t,N,ps⟩) (vo,vp,Or1 F vp) ⟨i5,k3⟩ [0,1,2] (by decide) rfl
end Go.Proofs.Ytldiodhdefnlaaa.eng

/- SmA -/
namespace Go.Proofs.Ytldiodhdefnlaaa.eng
open Go.RowKit kit mix dfaL smallL
section
end
theorem wrapU8 {k:Nat} (h:k<256):IntKind.u8.wrap (k:Int)=(k:Int):=by
  rw[IntKind.wrap_u8];omega
end Go.Proofs.Ytldiodhdefnlaaa.eng

/- SmPk -/
namespace Go.Proofs.Ytldiodhdefnlaaa.eng
open Go.RowKit kit mix dfaL smallL
def cant:Nat→Nat×Nat
  | 0=>(0,0)
  | n+1=>match cant n with
    | (a,0)=>(0,a+1)
    | (a,b+1)=>(a+1,b)
theorem cant_all:∀ (s a b:Nat),a+b=s→∃ n,cant n=(a,b)
  | 0,a,b,h=>⟨0,by obtain rfl:a=0:=(by omega);obtain rfl:b=0:=(by omega);rfl⟩
  | s+1,0,b,h=>by
    obtain rfl:b=s+1:=by omega
    obtain⟨n,hn⟩:=cant_all s s 0 (by omega)
    exact⟨n+1,by simp[cant,hn]⟩
  | s+1,a+1,b,h=>by
    obtain⟨n,hn⟩:=cant_all (s+1) a (b+1) (by omega)
    exact⟨n+1,by simp[cant,hn]⟩
def slCant (m x:Nat):Value:= .slice (some ⟨(cant x).1,0,none⟩) m (cant x).2
section
variable {P:Program} {n:Nat} {W:Base} {fr:Fr} {ops:Array Oper}
theorem makes_A {i d:Nat} {α:Type} (val:α→Value) (z:α) {t e ty:TypeId} {pos:String} {after:Array Edge} {x y:Operand} {bytes m:Nat} {k k':IntKind} [ElC P t e 1 bytes] [ZeroC P e #[val z]] (ho:ops[i]?=some ⟨some d,.makeSlice t x y,ty,pos,after,none⟩) (hx:ev fr x=some (.int k (m:Int))) (hy:ev fr y=some (.int k' (m:Int))) (hb:bytes*m≤281474976710656) (h63:m≤9223372036854775807) (hn:Nat.blt d n=true) :
    Makes P n W ops fr ⟨i,d,fun g=> .slice (some ⟨g,0,none⟩) m m,fun g=>rowA e val g m fun _=>z⟩:=
  ⟨_,ho,fun _ _ _ hl h=>TL_makeA val z (ev_mono hl hx) (ev_mono hl hy) hb h63 hn h⟩
theorem makes_rowP {i d:Nat} {o:Oper} {f:FuncId} {args:Array Value} {e:TypeId} {size m:Nat} {xs:List Value} (ho:ops[i]?=some o) (he:∀ fr',(∀ q v,look fr q=some v→look fr' q=some v)→∀ a w,Rep n a fr'→(execOp a.eval o).run P w = .ok (.enter f args) w)
    (hc:∀ (L:List Own) w,Mem W L w→Calls P f args w (Meets (rowS e size m xs id) w)) (hm:0<m) (hg:o.guard=none) (hd:o.dst=some d) (hn:Nat.blt d n=true) :
    Makes P n W ops fr ⟨i,d,slCant m,fun x=>rowO e size (slCant m x) m xs⟩:=
  ⟨o, ho,fun Q fr' L hl h=>TL_call (he fr' hl) (fun w hw=>hc L w hw) hg hd hn fun v _=> .mk fun a w hr hw=>by
    have hw':(rowO e size v m xs).holds w:=hw.get (i:=L.length) (by simp[rowS])
    obtain⟨G,cap,hv,_,_,_⟩:=row_form hw'
    cases G with
    | none=>
      rcases hw'.2 with ⟨_,h0⟩ | ⟨g,cap',cur,hv',_⟩
      · omega
      · rw[hv'] at hv;cases hv
    | some g=>
      obtain⟨x,hx⟩:=cant_all _ g cap rfl
      have e:v=slCant m x:=by rw[hv];unfold slCant;rw[hx];rfl
      have:=h x
      dsimp only at this
      rw[←e] at this
      exact this.go a w hr hw⟩
end
theorem TL_storeCol {P:Program} {n:Nat} {W:Base} {fr:Fr} {L:List Own} {Q:Exit→Act→World→Prop} {ops:Array Oper} {rest:List Oper} {ty:TypeId} {pos:String} {after:Array Edge} {t:TypeId} {p x:Operand} {i g b:Nat} {c:Col} {T:TypeId} {agg:Bool} {z:Int} [hT:TyC P t agg 1] (hi:L[i]?=some (blkO g (colC c).toArray T)) (hp:ev fr p=some (.pointer (some ⟨g,0+b,none⟩))) (hx:ev fr x=some (.int .i16 z)) (hb:b<200)
    (h:TL P n W ops Q rest fr (L.set i (blkO g (colC (c.set b z)).toArray T))):TL P n W ops Q (⟨none,.store t p x,ty,pos,after,none⟩::rest) fr L:=by
  rw[Nat.zero_add] at hp
  refine TL_store1 hi hp hx rfl rfl ?_ ?_
  · rw[List.size_toArray,colC_len];exact Nat.blt_eq ▸ hb
  · rw[col_set c hb];exact h
abbrev valV (v:Value):Value:=v
def mkNx (n:Nat):Mk:=⟨3,24,fun g=> .slice (some ⟨g,0,none⟩) n n,fun g=>rowA 26 valV g n fun _=> .slice none 0 0⟩
def mkTg (tags:List Int):Mk:=⟨6,27,slCant tags.length,fun x=>rowO 3 1 (slCant tags.length x) tags.length (tags.flatMap kit.intC)⟩
def mkPk:Mk:=⟨8,5,fun g=> .pointer (some ⟨g,0,none⟩),fun g=>blkO g (List.replicate 256 (Value.int .u8 0)++([.slice none 0 0,.slice none 0 0]:List Value)).toArray 30⟩
def nxO (n:Nat) (D:List Col) (vs:Nat→Value):Own:=famP (fun i=>i<n) fun i=>rowO 3 1 (vs i) D.length ((nxL D i).flatMap kit.intC)
def nxM (n:Nat) (D:List Col) (col:Col) (j:Nat) (vs:Nat→Value):Own:=famP (fun i=>i<n) fun i=>rowO 3 1 (vs i) (if i<j then D++[col] else D).length ((nxL (if i<j then D++[col] else D) i).flatMap kit.intC)
theorem nxM_0 (n:Nat) (D:List Col) (col:Col) (vs:Nat→Value):nxM n D col 0 vs=nxO n D vs:=by
  unfold nxM nxO
  simp
theorem nxM_end (n:Nat) (D:List Col) (col:Col) (vs:Nat→Value) (i:Nat) (h:i<n):(fun i=>rowO 3 1 (vs i) (D++[col]).length ((nxL (D++[col]) i).flatMap kit.intC)) i=(fun i=>rowO 3 1 (vs i) (if i<n then D++[col] else D).length ((nxL (if i<n then D++[col] else D) i).flatMap kit.intC)) i:=by
  dsimp only
  rw[if_pos h]
theorem TL_storeOf {P:Program} {n:Nat} {W:Base} {fr:Fr} {L:List Own} {Q:Exit→Act→World→Prop} {ops:Array Oper} {rest:List Oper} {ty:TypeId} {pos:String} {after:Array Edge} {t:TypeId} {p x:Operand} {i g b z:Nat} {o:Of} {vn vt:Value} {T:TypeId} {agg:Bool} [hT:TyC P t agg 1] (hi:L[i]?=some (blkO g (pkC o vn vt).toArray T)) (hp:ev fr p=some (.pointer (some ⟨g,0+b,none⟩))) (hx:ev fr x=some (.int .u8 (z:Int))) (hb:b<256)
    (h:TL P n W ops Q rest fr (L.set i (blkO g (pkC (o.set b z) vn vt).toArray T))):TL P n W ops Q (⟨none,.store t p x,ty,pos,after,none⟩::rest) fr L:=by
  rw[Nat.zero_add] at hp
  refine TL_store1 hi hp hx rfl rfl ?_ ?_
  · rw[pk_size];exact Nat.blt_eq ▸ (by omega)
  · rw[pk_set o vn vt hb];exact h
theorem nx_put {j:Nat} {D:List Col} {col:Col} {vs:Nat→Value} {v2:Value} {x:Int} (h:nxL (D++[col]) j=nxL D j++[x]) (q:Nat) :
    (fun i=>rowO 3 1 ((fun i=>if i=j then v2 else vs i) i) (if i<j+1 then D++[col] else D).length ((nxL (if i<j+1 then D++[col] else D) i).flatMap kit.intC)) q
      = upd (fun i=>rowO 3 1 (vs i) (if i<j then D++[col] else D).length ((nxL (if i<j then D++[col] else D) i).flatMap kit.intC)) j (rowO 3 1 v2 (D.length+1) ((nxL D j).flatMap kit.intC++[.int .i64 x])) q:=by
  unfold upd
  dsimp only
  by_cases c:q=j
  · subst c
    rw[if_pos rfl,if_pos rfl,if_pos (Nat.lt_succ_self q),h,List.length_append,List.flatMap_append];rfl
  · rw[if_neg c,if_neg c]
    have e:q<j+1↔q<j:=by omega
    simp only[e]
def packS (R:List Row) (tags:List Int):Spec (Nat×(Nat→Value)×Value):=⟨fun _=>True,fun x=> .tuple #[pkV (ofP R 256) (.slice (some ⟨x.1,0,none⟩) R.length R.length) x.2.2,.int .i64 0],
  fun x=>[rowA 26 valV x.1 R.length x.2.1,nxO R.length (pkD R 256) x.2.1,rowO 3 1 x.2.2 tags.length (tags.flatMap kit.intC)]⟩
set_option maxRecDepth 100000 in
set_option maxHeartbeats 8000000 in
theorem pack_calls (vr vt:Value) (R:List Row) (tags:List Int) (w:World) (h:DfaM w vr vt R tags) (hc:chk R tags=0) :
    Calls Try.prog 25 #[dfaV vr vt] w (Meets (packS R tags) w):=by
  have hck:=fun w' (hg:Gr w w')=>chkM_calls vr vt R tags w' (h.gr hg)
  rw[hc] at hck
  have hcl:=fun w' (hg:Gr w w') hl=>cloneSmIn_calls vt tags w' (h.hT.gr hg) hl
  obtain⟨bt,ct,rfl,ht1,ht2,ht3⟩:=h.hT
  obtain⟨br,cr,rfl,hr1,hr2,hr3⟩:=h.hR
  have hrng:=h.rng
  unfold maxLen at hr2 ht2
  clear h
  obtain⟨hA,hlt⟩:=chk_ok hc
  have hpos:0<R.length:=hA.pos
  have hle:R.length≤200:=hA.le
  clear hA hc
  obtain⟨b,off,rfl,hr⟩:=hr3 hpos
  obtain⟨bb,ofT,rfl,hrt⟩:=ht3 (by omega)
  clear hr3 ht3 hrt
  have hcl:=fun w' hg=>hcl w' hg (by omega)
  have hb0:=build_pk0
  refine enter (args:=[dfaV (.slice (some ⟨b,off,none⟩) R.length cr) (.slice (some ⟨bb,ofT,none⟩) tags.length ct)]) (n:=91) Try.func25 rfl rfl rfl ?_
  refine T_seq (T_region (TL_box rfl rfl rfl fun g1 => ?_))
  refine TL_new rfl fun g2 => ?_
  rw[zero_pk]
  conv=>arg 8;simp only[zA,zB,zC,zD,zE,zF,zG,zH,zI,rowS,ret,id_eq]
  repeat(first|refine GA ?_|refine gV (rr_loadB (i:=0) TyC.ty rfl rfl rfl) ?_)
  refine TL_call (he1 EntersC.en rfl rfl) (fun w hm=>hck _ hm.below) rfl rfl rfl ?_
  intro _ _
  try refine GA ?_
  (repeat refine T_seq ?_)
  refine T_midq (ι:=Nat×Nat×Nat) (fun _=>True) (fun (_,_,g5)=>[(1,.pointer (some ⟨g1,0,none⟩)),(2,.pointer (some ⟨g2,0,none⟩)),(5,.pointer (some ⟨g5,0,none⟩))])
    (fun (gN,x,g5)=>[blkO g1 (dfaV (.slice (some ⟨b,off,none⟩) R.length cr) (.slice (some ⟨bb,ofT,none⟩) tags.length ct)).cells 95,blkO g2 (pkC (Vector.replicate 256 0) (.slice none 0 0) (.slice none 0 0)).toArray 30,rowA 26 valV gN R.length (fun _=> .slice none 0 0),rowO 3 1 (slCant tags.length x) tags.length (tags.flatMap kit.intC),blkO g5 (pkC (ofP R 0) (.slice (some ⟨gN,0,none⟩) R.length R.length) (slCant tags.length x)).toArray 30]) ?_ ?_
  · refine T_ordX [blkO g1 (dfaV (.slice (some ⟨b,off,none⟩) R.length cr) (.slice (some ⟨bb,ofT,none⟩) tags.length ct)).cells 95] (sub_pick [0] (by decide) rfl) (by kernel_rfl) (by kernel_rfl) (by intro c a d v w h;cases d <;> exact h) ?_
    refine TX_val 0 (by kernel_rfl) rfl (qfld FldC.fld rfl rfl) rfl rfl rfl ?_
    refine TX_val 1 (by kernel_rfl) rfl (rr_load1 TyC.ty rfl (at_blk (i:=0) rfl rfl)) rfl rfl rfl ?_
    refine TX_val 2 (by kernel_rfl) rfl (qlen Und.eq rfl) rfl rfl rfl ?_
    refine TX_val 4 (by kernel_rfl) rfl (qfld FldC.fld rfl rfl) rfl rfl rfl ?_
    refine TX_val 5 (by kernel_rfl) rfl (rr_load1 TyC.ty rfl (at_blk (i:=0) rfl rfl)) rfl rfl rfl ?_
    refine TX_many2 [mkNx R.length,mkTg tags,mkPk] (fun m=>!Nat.beq m.i 8) 2 (by kernel_rfl) (by kernel_rfl) ?_ (fun q => ?_) fun q => ?_
    · intro m hm
      simp only[List.mem_cons,List.not_mem_nil,or_false] at hm
      rcases hm with rfl | rfl | rfl
      · exact makes_A valV _ rfl rfl rfl (by omega) (by omega) rfl
      · exact makes_rowP rfl (fun fr' hl=>he1 EntersC.en rfl (ev_mono hl rfl)) (fun L w hm=>hcl w hm.below) (by omega) rfl rfl rfl
      · exact makes_new rfl rfl
    · simp only[mkNx,mkTg,mkPk,List.map_cons,List.map_nil]
      generalize q 3=gN
      generalize q 6=x
      generalize q 8=g5
      clear q
      rw[zero_pk]
      refine TX_tree (.calm 7 (.one 9 .done)) (by kernel_rfl) rfl ?_
      repeat(first|refine GW ?_|(refine GN ?_;first|refine QW (rr_build rfl (build_pk _ _ _ _ _)) ?_))
      refine TW_one rfl ?_
      refine TL_storeB (i:=4) (cs':=(pkC (Vector.replicate 256 0) (.slice (some ⟨gN,0,none⟩) R.length R.length) (slCant tags.length x)).toArray) rfl rfl rfl (pk_size _ _ _) (pk_one _ rfl rfl) (pk_size _ _ _) ?_
      refine TW_on (sub_pick [0] (by decide) rfl) ?_
      try refine GW ?_
      exact E_mid (gN,x,g5) trivial (by repeat' (first | exact True.intro | refine And.intro rfl ?_)) (by rw[ofS_0];rfl)
    · rw[show List.filter (fun m:Mk=>!Nat.beq m.i 8) [mkNx R.length,mkTg tags,mkPk]=[mkNx R.length,mkTg tags] from rfl]
      simp only[mkNx,mkTg,mkPk,List.map_cons,List.map_nil]
      generalize q 3=gN
      generalize q 6=x
      clear q
      refine TX_tree (.calm 7 (.one 8 (.one 9 .done))) (by kernel_rfl) (by kernel_rfl) ?_
      repeat(first|refine GW ?_|(refine GN ?_;first|refine QW (rr_build rfl (build_pk _ _ _ _ _)) ?_))
      refine TW_one rfl ?_
      refine TL_new rfl fun g5 => ?_
      refine TW_on (sub_pick [0] (by decide) rfl) ?_
      rw[zero_pk]
      refine TW_one rfl ?_
      refine TL_storeB (i:=4) (cs':=(pkC (Vector.replicate 256 0) (.slice (some ⟨gN,0,none⟩) R.length R.length) (slCant tags.length x)).toArray) rfl rfl rfl (pk_size _ _ _) (pk_one _ rfl rfl) (pk_size _ _ _) ?_
      refine TW_on (sub_pick [0] (by decide) rfl) ?_
      try refine GW ?_
      exact E_mid (gN,x,g5) trivial (by repeat' (first | exact True.intro | refine And.intro rfl ?_)) (by rw[ofS_0];rfl)
  rintro⟨gN,xT,g5⟩ _
  dsimp only
  generalize hvT:slCant tags.length xT=vT
  try refine GA ?_
  refine TL_mapNew (K:=colK) rfl fun g6 => ?_
  conv=>arg 8;simp only[zA,zB,zC,zD,zE,zF,zG,zH,zI,rowS,ret,id_eq]
  try refine GA ?_
  refine T_extra (nxO R.length [] fun _=> .slice none 0 0) (fun k hk => ?_) (fun w=>⟨fun i _=>World.ownsRow_nil _ _ _ _,fun i j _ _ _ k hk => ?_⟩) ?_
  · rcases hk with hk | ⟨i,_,hk⟩
    · cases hk
    · rcases hk with hk | hk <;> cases hk
  · rcases hk with hk | hk <;> cases hk
  conv=>arg 7;simp only[zA,zB,zC,zD,zE,zF,zG,zH,zI,rowS,ret,id_eq]
  refine T_loop (ι:=Nat×(Nat→Value)) (fun (k,_)=>k≤256) (fun (k,_)=>[(1,.pointer (some ⟨g1,0,none⟩)),(2,.pointer (some ⟨g2,0,none⟩)),(5,.pointer (some ⟨g5,0,none⟩)),(6,.map (some g6)),(30,.int .i64 (k:Int))])
    (fun (k,vs)=>[blkO g1 (dfaV (.slice (some ⟨b,off,none⟩) R.length cr) (.slice (some ⟨bb,ofT,none⟩) tags.length ct)).cells 95,blkO g2 (pkC (Vector.replicate 256 0) (.slice none 0 0) (.slice none 0 0)).toArray 30,rowA 26 valV gN R.length vs,rowO 3 1 vT tags.length (tags.flatMap kit.intC),blkO g5 (pkC (ofP R k) (.slice (some ⟨gN,0,none⟩) R.length R.length) vT).toArray 30,mapO colK g6 (mapAt (pkD R k)) (pkD R k).length,nxO R.length (pkD R k) vs]) (fun (k,_)=>256 - k) (0,fun _=> .slice none 0 0) (Nat.zero_le _) (by repeat' (first | exact True.intro | refine And.intro rfl ?_)) rfl ?_
  rintro⟨k,vs⟩ hk
  dsimp only at hk ⊢
  by_cases c1:k<256
  · try refine GA ?_
    refine TL_new rfl fun g8 => ?_
    conv=>arg 8;simp only[zA,zB,zC,zD,zE,zF,zG,zH,zI,rowS,ret,id_eq]
    rw[zero_col,←colS_0 R k]
    repeat(first|refine GA ?_|refine gV (rr_load1 TyC.ty rfl (at_blk (i:=0) rfl rfl)) ?_)
    refine T_loop (ι:=Nat) (fun j=>j≤R.length) (fun j=>[(1,.pointer (some ⟨g1,0,none⟩)),(2,.pointer (some ⟨g2,0,none⟩)),(5,.pointer (some ⟨g5,0,none⟩)),(6,.map (some g6)),(7,.int .i64 (k:Int)),(8,.pointer (some ⟨g8,0,none⟩)),(30,.int .i64 (k:Int)),(34,.slice (some ⟨b,off,none⟩) R.length cr),(35,.int .i64 (R.length:Int)),(36,.int .i64 (j:Int))])
      (fun j=>[blkO g1 (dfaV (.slice (some ⟨b,off,none⟩) R.length cr) (.slice (some ⟨bb,ofT,none⟩) tags.length ct)).cells 95,blkO g2 (pkC (Vector.replicate 256 0) (.slice none 0 0) (.slice none 0 0)).toArray 30,rowA 26 valV gN R.length vs,rowO 3 1 vT tags.length (tags.flatMap kit.intC),blkO g5 (pkC (ofP R k) (.slice (some ⟨gN,0,none⟩) R.length R.length) vT).toArray 30,mapO colK g6 (mapAt (pkD R k)) (pkD R k).length,nxO R.length (pkD R k) vs,blkO g8 (colC (colS R k j)).toArray 145]) (fun j=>R.length - j) 0 (Nat.zero_le _) (by repeat' (first | exact True.intro | refine And.intro rfl ?_)) rfl ?_
    intro j hj
    by_cases c2:j<R.length
    · have hatR:=fun (L:List Own)=>at_el (W:=w) (L:=L) rowC_len hr c2
      have hcell:(rowC R[j]).toArray[0+k]?=some (.int .i16 (cellF R j k)):=by rw[Nat.zero_add,List.getElem?_toArray,rowC_get _ c1,cell_get c2 c1]
      have hset:=colS_set R k j (by omega)
      generalize R[j]=r at *
      generalize cellF R j k=x at *
      repeat(first|refine GA ?_|refine gV (rr_idxc Und.eq TyC.ty rfl rfl c2) ?_|refine gV (rr_loadN TyC.ty rfl (rowC_len r) (hatR _)) ?_)
      refine TL_new rfl fun g10 => ?_
      conv=>arg 8;simp only[zA,zB,zC,zD,zE,zF,zG,zH,zI,rowS,ret,id_eq]
      try refine GA ?_
      refine TL_storeB (i:=8) (cs':=(rowC r).toArray) rfl rfl rfl (by rw[List.size_toArray,rowC_len]) (by simpa using row_one1 r) (by kernel_rfl) ?_
      conv=>arg 8;simp only[zA,zB,zC,zD,zE,zF,zG,zH,zI,rowS,ret,id_eq]
      repeat(first|refine GA ?_|refine gV (rr_aidx1 Und.eq TyC.ty rfl rfl c1) ?_|refine gV (rr_load1 TyC.ty rfl (at_blk (i:=8) rfl hcell)) ?_|refine gV (rr_aidx1 Und.eq TyC.ty rfl rfl (by omega)) ?_)
      refine TL_storeCol (i:=7) (b:=j) rfl rfl rfl (by omega) ?_
      rw[hset]
      conv=>arg 8;simp only[zA,zB,zC,zD,zE,zF,zG,zH,zI,rowS,ret,id_eq]
      try refine GA ?_
      refine E_pick [0,1,2,3,4,5,6,7] (by decide) rfl ?_
      exact E_round (j+1) (by omega) (by show R.length - (j+1)<R.length - j;omega) (by repeat' (first | exact True.intro | refine And.intro rfl ?_)) rfl
    · obtain rfl:j=R.length:=by omega
      rw[show colS R k R.length=colF R k from rfl]
      have hok:=colF_ok hrng c1
      have hnk:=pkN_at (R:=R) c1
      have hn256:=pkN_256 R c1
      have hofs:=ofS_set R k c1
      have hdl:=pkD_len R k
      have hzero:∀ w:World,(zeroValue 3).run Try.prog w = .ok (.int .i64 0) w:=zeroI
      by_cases c2:colF R k∈pkD R k
      · have hD:=pkD_old c2
        rw[if_pos c2] at hnk
        generalize colF R k=col at *
        repeat(first|refine GA ?_|refine gV (rr_loadB (i:=7) TyC.ty rfl rfl (by rw[List.size_toArray,colC_len])) ?_|refine gV (rr_lookNumS (K:=colK) (x:=col) Und.eq hzero (i:=5) rfl rfl rfl hok c2) ?_)
        have hwr:=wrapU8 (k:=idx (pkD R k) col) (by rw[←hnk];exact hn256)
        rw[hnk] at hofs
        clear hnk hn256 hrng
        generalize pkD R k=D at *
        repeat(first|refine GA ?_|refine gV (rr_conv Und.eq Und.eq rfl hwr) ?_|refine gV (rr_aidx1 Und.eq TyC.ty rfl rfl c1) ?_)
        refine TL_storeOf (i:=4) (b:=k) rfl rfl rfl c1 ?_
        rw[hofs]
        conv=>arg 8;simp only[zA,zB,zC,zD,zE,zF,zG,zH,zI,rowS,ret,id_eq]
        try refine GA ?_
        refine E_pick [0,1,2,3,4,5,6] (by decide) rfl ?_
        exact E_round (k+1,vs) (by show k+1≤256;omega) (by show 256 - (k+1)<256 - k;omega) (by repeat' (first | exact True.intro | refine And.intro rfl ?_)) (by dsimp only;rw[hD];rfl)
      · have hD:=pkD_new c2
        rw[if_neg c2] at hnk
        have hcg:=fun i hi=>colF_get R k i hi hle
        have hwr:=wrapU8 (k:=(pkD R k).length) (by omega)
        rw[hnk] at hofs
        clear hnk hn256
        generalize colF R k=col at *
        generalize hDk:pkD R k=D at *
        repeat(first|refine GC ?_|refine gV (rr_loadB (i:=7) TyC.ty rfl rfl (by rw[List.size_toArray,colC_len])) ?_|refine gV (rr_lookNumN (K:=colK) (x:=col) Und.eq hzero (i:=5) rfl rfl rfl hok c2) ?_|refine gV (rr_maplen colK Und.eq (i:=5) rfl rfl) ?_|refine GB ?_)
        refine TL_mapNum (K:=colK) (i:=5) (x:=col) Und.eq rfl rfl rfl rfl hok c2 (by omega) ?_
        conv=>arg 8;simp only[zA,zB,zC,zD,zE,zF,zG,zH,zI,rowS,ret,id_eq]
        repeat(first|refine GA ?_|refine gV (rr_load1 TyC.ty rfl (at_blk (i:=0) rfl rfl)) ?_)
        refine T_pick [0,1,2,3,4,5,6] (by decide) rfl ?_
        rw[←nxM_0 R.length D col vs]
        refine T_loop (ι:=Nat×(Nat→Value)) (fun (j,_)=>j≤R.length) (fun (j,_)=>[(1,.pointer (some ⟨g1,0,none⟩)),(2,.pointer (some ⟨g2,0,none⟩)),(5,.pointer (some ⟨g5,0,none⟩)),(6,.map (some g6)),(7,.int .i64 (k:Int)),(11,.int .i64 (D.length:Int)),(30,.int .i64 (k:Int)),(61,.slice (some ⟨b,off,none⟩) R.length cr),(62,.int .i64 (R.length:Int)),(63,.int .i64 (j:Int))])
          (fun (j,vs)=>[blkO g1 (dfaV (.slice (some ⟨b,off,none⟩) R.length cr) (.slice (some ⟨bb,ofT,none⟩) tags.length ct)).cells 95,blkO g2 (pkC (Vector.replicate 256 0) (.slice none 0 0) (.slice none 0 0)).toArray 30,rowA 26 valV gN R.length vs,rowO 3 1 vT tags.length (tags.flatMap kit.intC),blkO g5 (pkC (ofP R k) (.slice (some ⟨gN,0,none⟩) R.length R.length) vT).toArray 30,mapO colK g6 (mapAt (D++[col])) (D++[col]).length,nxM R.length D col j vs]) (fun (j,_)=>R.length - j) (0,vs) (Nat.zero_le _) (by repeat' (first | exact True.intro | refine And.intro rfl ?_)) rfl ?_
        rintro⟨j,vs⟩ hj
        dsimp only at hj ⊢
        by_cases c3:j<R.length
        · have hatR:=fun (L:List Own)=>at_el (W:=w) (L:=L) rowC_len hr c3
          have hcell:(rowC R[j]).toArray[0+k]?=some (.int .i16 (cellF R j k)):=by rw[Nat.zero_add,List.getElem?_toArray,rowC_get _ c1,cell_get c3 c1]
          have hx:=hrng R[j] (List.getElem_mem c3) (cellF R j k) (by rw[cell_get c3 c1,←Vector.getElem_toList (h:=by simpa using c1)];exact List.getElem_mem _)
          have hcj:=hcg j c3
          clear hcg
          generalize R[j]=r at *
          generalize cellF R j k=x at *
          repeat(first|refine GA ?_|refine gV (rr_idxc Und.eq TyC.ty rfl rfl c3) ?_|refine gV (rr_loadN TyC.ty rfl (rowC_len r) (hatR _)) ?_)
          refine TL_new rfl fun g14 => ?_
          conv=>arg 8;simp only[zA,zB,zC,zD,zE,zF,zG,zH,zI,rowS,ret,id_eq]
          try refine GA ?_
          refine TL_storeB (i:=7) (cs':=(rowC r).toArray) rfl rfl rfl (by rw[List.size_toArray,rowC_len]) (by simpa using row_one1 r) (by kernel_rfl) ?_
          conv=>arg 8;simp only[zA,zB,zC,zD,zE,zF,zG,zH,zI,rowS,ret,id_eq]
          try refine GA ?_
          unfold nxM
          refine T_take (q:=6) j rfl c3 ?_
          rw[if_neg (Nat.lt_irrefl j)]
          conv=>arg 7;simp only[zA,zB,zC,zD,zE,zF,zG,zH,zI,rowS,ret,id_eq]
          (repeat refine T_seq ?_)
          refine T_ord ([blkO g1 (dfaV (.slice (some ⟨b,off,none⟩) R.length cr) (.slice (some ⟨bb,ofT,none⟩) tags.length ct)).cells 95,blkO g5 (pkC (ofP R k) (.slice (some ⟨gN,0,none⟩) R.length R.length) vT).toArray 30,blkO g14 (rowC r).toArray 138]) (.calm 0 (.calm 1 (.calm 2 (.calm 3 (.calm 4 (.calm 5 (.calm 6 (.calm 8 (.calm 9 (.calm 10 (.calm 11 (.two 7 (.one 12 (.one 13 (.calm 14 (.one 15 (.done))))) 12 (.one 7 (.one 13 (.calm 14 (.one 15 (.done))))))))))))))))) (sub_pick [0,4,7] (by decide) rfl) (by kernel_rfl) (by kernel_rfl) (by intro c a d v w h;cases d <;> exact h) ?_
          repeat(first|refine GW ?_|(refine GN ?_;first|refine QW (rr_load1 TyC.ty rfl (at_blk (i:=1) rfl (pk_next _ _ _))) ?_|refine QW (rr_idx1 (j:=j) Und.eq TyC.ty rfl rfl c3) ?_|refine QW (rr_aidx1 Und.eq TyC.ty rfl rfl c1) ?_|refine QW (rr_load1 TyC.ty rfl (at_blk (i:=2) rfl hcell)) ?_|refine QW (rr_conv Und.eq Und.eq rfl (wrap_in (by omega) (by omega))) ?_))
          have hnj:nxL (D++[col]) j=nxL D j++[x]:=by unfold nxL;rw[List.map_append,List.map_singleton,hcj]
          have hst:∀ v2:Value,∀ i,i<R.length→(fun i=>if i=j then v2 else vs i) i=if i=j then v2 else vs i:=fun _ _ _=>rfl
          refine TW_two rfl rfl ?_ ?_
          · refine TL_val (rr_load1 TyC.ty rfl (at_rowA (i:=2) rfl c3)) rfl rfl rfl (TW_on (sub_pick [0,4,7] (by decide) rfl) ?_)
            refine TW_one rfl (TL_one rfl rfl rfl rfl rfl fun g80=>TW_on (sub_pick [0,4,7] (by decide) rfl) ?_)
            refine TW_one rfl (TL_app11 (i:=8) (q:=9) rfl rfl rfl rfl rfl rfl (by omega) (by omega) rfl fun v2=>TW_on (sub_pick [0,4,7] (by decide) rfl) ?_)
            repeat(first|refine GW ?_|(refine GN ?_;first|refine QW (rr_idx1 (j:=j) Und.eq TyC.ty rfl rfl c3) ?_))
            refine TW_one rfl (TL_slv (i:=8) rfl fun hc1 ho1=>TL_storeA (i:=2) (val:=valV) (off:=j) (v:=v2) (fun i=>if i=j then v2 else vs i) TyC.ty rfl rfl rfl hc1 ho1 c3 (hst v2) (TW_on (sub_pick [0,4,7] (by decide) rfl) ?_))
            try refine GW ?_
            try refine GA ?_
            refine E_put j 6 8 [0,1,2,3,4,5] (by decide) rfl rfl rfl (fun h=>h.2 rfl) (D':=fun i=>i<R.length) (f':=fun i=>rowO 3 1 ((fun i=>if i=j then v2 else vs i) i) (if i<j+1 then D++[col] else D).length ((nxL (if i<j+1 then D++[col] else D) i).flatMap kit.intC)) (fun q hq=>(by by_cases e:q=j;exact .inr e;exact .inl ⟨hq,e⟩)) (fun q hq => ?_) ?_
            · exact nx_put hnj q
            exact E_round (j+1,fun i=>if i=j then v2 else vs i) (by show j+1≤R.length;omega) (by show R.length - (j+1)<R.length - j;omega) (by repeat' (first | exact True.intro | refine And.intro rfl ?_)) rfl
          · refine TL_one rfl rfl rfl rfl rfl fun g80=>TW_on (sub_pick [0,4,7] (by decide) rfl) ?_
            refine TW_one rfl (TL_val (rr_load1 TyC.ty rfl (at_rowA (i:=2) rfl c3)) rfl rfl rfl (TW_on (sub_pick [0,4,7] (by decide) rfl) ?_))
            refine TW_one rfl (TL_app11 (i:=8) (q:=9) rfl rfl rfl rfl rfl rfl (by omega) (by omega) rfl fun v2=>TW_on (sub_pick [0,4,7] (by decide) rfl) ?_)
            repeat(first|refine GW ?_|(refine GN ?_;first|refine QW (rr_idx1 (j:=j) Und.eq TyC.ty rfl rfl c3) ?_))
            refine TW_one rfl (TL_slv (i:=8) rfl fun hc1 ho1=>TL_storeA (i:=2) (val:=valV) (off:=j) (v:=v2) (fun i=>if i=j then v2 else vs i) TyC.ty rfl rfl rfl hc1 ho1 c3 (hst v2) (TW_on (sub_pick [0,4,7] (by decide) rfl) ?_))
            try refine GW ?_
            try refine GA ?_
            refine E_put j 6 8 [0,1,2,3,4,5] (by decide) rfl rfl rfl (fun h=>h.2 rfl) (D':=fun i=>i<R.length) (f':=fun i=>rowO 3 1 ((fun i=>if i=j then v2 else vs i) i) (if i<j+1 then D++[col] else D).length ((nxL (if i<j+1 then D++[col] else D) i).flatMap kit.intC)) (fun q hq=>(by by_cases e:q=j;exact .inr e;exact .inl ⟨hq,e⟩)) (fun q hq => ?_) ?_
            · exact nx_put hnj q
            exact E_round (j+1,fun i=>if i=j then v2 else vs i) (by show j+1≤R.length;omega) (by show R.length - (j+1)<R.length - j;omega) (by repeat' (first | exact True.intro | refine And.intro rfl ?_)) rfl
        · obtain rfl:j=R.length:=by omega
          refine T_reown (nxO R.length (D++[col]) vs) (i:=6) rfl (fam_congr (fun _ h=>h) (nxM_end _ _ _ _)) (fam_foot (fun _ h=>h) (nxM_end _ _ _ _)) ?_
          conv=>arg 7;simp only[zA,zB,zC,zD,zE,zF,zG,zH,zI,rowS,ret,id_eq]
          repeat(first|refine GA ?_|refine gV (rr_conv Und.eq Und.eq rfl hwr) ?_|refine gV (rr_aidx1 Und.eq TyC.ty rfl rfl c1) ?_)
          refine TL_storeOf (i:=4) (b:=k) rfl rfl rfl c1 ?_
          rw[hofs]
          conv=>arg 8;simp only[zA,zB,zC,zD,zE,zF,zG,zH,zI,rowS,ret,id_eq]
          try refine GA ?_
          exact E_round (k+1,vs) (by show k+1≤256;omega) (by show 256 - (k+1)<256 - k;omega) (by repeat' (first | exact True.intro | refine And.intro rfl ?_)) (by dsimp only;rw[hD])
  · obtain rfl:k=256:=by omega
    repeat(first|refine GA ?_|refine gV (rr_loadB (i:=4) TyC.ty rfl rfl (pk_size _ _ _)) ?_)
    refine TL_slv (i:=3) rfl fun hc1 ho1 => ?_
    refine TL_storeB (i:=1) (cs':=(pkC (ofP R 256) (.slice (some ⟨gN,0,none⟩) R.length R.length) vT).toArray) rfl rfl rfl (pk_size _ _ _) (pk_one _ rfl ho1) (pk_size _ _ _) ?_
    conv=>arg 8;simp only[zA,zB,zC,zD,zE,zF,zG,zH,zI,rowS,ret,id_eq]
    try refine GA ?_
    refine E_retc2 (i:=1) rfl rfl rfl (pk_size _ _ _) rfl fun w hm => ?_
    exact hm.meets (S:=packS R tags) (gN,vs,vT) trivial [2,6,3] (by decide) rfl
end Go.Proofs.Ytldiodhdefnlaaa.eng

/- SpecQ -/
namespace Go.Proofs.Ytldiodhdefnlaaa.eng
open Go.RowKit kit mix classL rexL specL gramL placesL dfaP smallL
def rexesS (s:Sp):List Rx:=s.words.map (·.2)
def LxR (s:Sp) (r:Int×List Row×List Int):Prop:=
  (∃ k:Int,k≠0∧MakeR (rexesS s) (k,.zero)∧r=(k,[],[]))∨
  ∃ (es:List Re) (m:MS),rexesS s=es.map emb∧(∀ e∈es,Fit e 1 0)∧0<es.length∧es.length≤20∧loopM 0 .zero es=(0,m)∧MakeR (rexesS s) (0,m)∧
    ((numE s≠0∧r=(numE s,[],[]))∨(numE s=0∧(outD m).2.2≠0∧r=((outD m).2.2,[],[]))∨
      (numE s=0∧(outD m).2.2=0∧chk (outD m).1 (outD m).2.1=0∧r=(0,minR (outD m).1 (outD m).2.1,minT (outD m).1 (outD m).2.1)))
theorem lxR_of (s:Sp):∃ r,LxR s r:=by
  rcases makeR_two (rexesS s) with ⟨k,h1,h2⟩ | ⟨es,m,h1,h2,h3,h4,h5,h6⟩
  · exact⟨_,.inl ⟨k,h1,h2,rfl⟩⟩
  · by_cases c1:numE s=0
    · by_cases c2:(outD m).2.2=0
      · refine⟨_,.inr ⟨es,m,h1,h2,h3,h4,h5,h6,.inr (.inr ⟨c1,c2,?_,rfl⟩)⟩⟩
        cases hd:makeD m with
        | none=>rw[outD_8 hd] at c2;cases c2
        | some y=>
          obtain⟨R,d⟩:=y
          rw[outD_0 hd]
          exact mk_chk (make_ok h3 h4 h5) (makeD_law hd)
      · exact⟨_,.inr ⟨es,m,h1,h2,h3,h4,h5,h6,.inr (.inl ⟨c1,c2,rfl⟩)⟩⟩
    · exact⟨_,.inr ⟨es,m,h1,h2,h3,h4,h5,h6,.inl ⟨c1,rfl⟩⟩⟩
theorem word_at2 {F:Nat→Prop} {w:World} {b off:Nat} {l:List Wd} (h:∀ i (h:i<l.length),∃ cs,wordS.is F w cs l[i]∧Rd w b (off+i*wordS.c) cs) {k:Nat} (hk:k<l.length) :
    ∃ base cap,Rd w b (off+k*7) (wdC l[k].1 l[k].2.kind l[k].2.cls (.slice base l[k].2.kids.length cap))∧RexIs F w (rexC l[k].2.kind l[k].2.cls (.slice base l[k].2.kids.length cap)) l[k].2:=by
  obtain⟨cs,⟨c1,c2,rfl,⟨rfl,h1⟩,h2⟩,h3⟩:=h k hk
  have h2:RexIs F w c2 l[k].2:=h2
  have h4:=h2.r
  obtain⟨vk,e,-,hs⟩:=h4
  obtain⟨base,cap,rfl,-⟩:=hs
  have e2:c2=rexC l[k].2.kind l[k].2.cls (.slice base l[k].2.kids.length cap):=by
    unfold rexV at e
    simp only[Value.agg.injEq] at e
    simpa using congrArg Array.toList e
  subst e2
  exact⟨base,cap,h3,h2⟩
def RexesIs (w0:World) (words:List Wd) (css:List (List Value)):Prop:=∀ i c,css[i]?=some c→∃ h:i<words.length,rexS.is (Low w0) w0 c words[i].2
theorem rexes_snoc {w0:World} {words:List Wd} {css:List (List Value)} {c:List Value} (h:RexesIs w0 words css) (hk:css.length<words.length) (hc:rexS.is (Low w0) w0 c words[css.length].2):RexesIs w0 words (css++[c]):=fun i x hx=>by
  rcases Nat.lt_trichotomy i css.length with h1 | h1 | h1
  · rw[List.getElem?_append_left h1] at hx;exact h i x hx
  · subst h1
    rw[List.getElem?_concat_length] at hx
    cases hx
    exact⟨hk,hc⟩
  · rw[List.getElem?_eq_none (by rw[List.length_append,List.length_singleton];omega)] at hx;cases hx
theorem rexes_slf {w0 w:World} (hg:Gr w0 w) {words:List Wd} {css:List (List Value)} {v:Value} (hl:css.length=words.length) (h:RexesIs w0 words css) (hr:(rowO 85 6 v words.length css.flatten).holds w):SlF rexS (Low w) w v (words.map (·.2)):=by
  have he:(elsO rexS (Low w0) css (words.map (·.2))).holds w:=⟨⟨by rw[hl,List.length_map],fun i h1 h2=>by
    obtain⟨h3,h4⟩:=h i _ (List.getElem?_eq_getElem h2)
    rw[List.getElem_map]
    exact rexS.stay h4 fun k hk=>hg.block k hk⟩,fun k hk=>Nat.lt_of_lt_of_le hk hg.size⟩
  have hr:(rowO 85 rexS.c v (words.map (·.2)).length css.flatten).holds w:=by rw[List.length_map];exact hr
  exact (slf_of hr he (by decide)).mono fun k hk=>slO_lt hr he k hk
def lexSp (gp:Nat) (s:Sp) (R:List Row) (T:List Int):Spec (Value×Value×(Nat→Prop)×Nat×(Nat→Value)×Value):=
  ⟨fun x=>x.1.oneCell'=true∧x.2.1.oneCell'=true∧x.2.2.2.2.2.oneCell'=true,fun _=> .int .i64 0,fun x=>[blkO gp (mdC x.1 (pkC (ofP R 256) (.slice (some ⟨x.2.2.2.1,0,none⟩) R.length R.length) x.2.2.2.2.2) (mdT (gramN s).terms (gramN s).nons x.2.1 0 (.slice none 0 0) (.slice none 0 0) (.slice none 0 0))).toArray 38,rowO 3 1 x.1 s.words.length ((wsN s.words).1.map (Value.int .i64)),prodsO x.2.2.1 x.2.1 (gramN s).prods,
    rowA 26 valV x.2.2.2.1 R.length x.2.2.2.2.1,nxO R.length (pkD R 256) x.2.2.2.2.1,rowO 3 1 x.2.2.2.2.2 T.length (T.flatMap kit.intC)]⟩
def lexS1 (gp:Nat) (s:Sp) (r:Int×List Row×List Int):Spec (Value×Value×(Nat→Prop)×Nat×(Nat→Value)×Value):=
  if r.1=0 then lexSp gp s r.2.1 r.2.2 else ⟨fun _=>True,fun _=> .int .i64 r.1,fun _=>[]⟩
set_option maxRecDepth 100000 in
set_option maxHeartbeats 16000000 in
theorem lexer_calls (vw vr:Value) (s:Sp) (r:Int×List Row×List Int) (hx:LxR s r) (gp:Nat) (w0:World) (hv:SpR (Low w0) w0 (.agg #[vw,vr]) s) (hlw:s.words.length≤60) (hlr:s.rules.length≤60) (hbd:∀ r∈s.rules,r.2.length≤8796093021952) (w:World) (B:Base) (ho:Old w0 B) (hm:Mem B [blkO gp md0.toArray 38] w) :
    Calls Try.prog 11 #[.agg #[vw,vr],.pointer (some ⟨gp,0,none⟩)] w (MeetsB (lexS1 gp s r) B):=by
  have hnum:=fun w' B' ho' hm'=>numbers_calls vw vr s gp w0 hv hlw hlr hbd w' B' ho' hm'
  obtain⟨vw',vr',hvv,hw,-⟩:=hv
  obtain⟨rfl,rfl⟩:vw=vw'∧vr=vr':=by simpa using hvv
  clear hvv hbd
  obtain⟨bw,cw,rfl,-,-,hrdw⟩:=hw
  have hrl:rexesS s=s.words.map (·.2):=rfl
  refine enterB hm (args:=[.agg #[.slice bw s.words.length cw,vr],.pointer (some ⟨gp,0,none⟩)]) (n:=60) Try.func11 rfl rfl rfl ?_
  refine T_seq (T_region (TL_box rfl rfl rfl fun g2 => ?_))
  conv=>arg 8;simp only[zA,zB,zC,zD,zE,zF,zG,zH,zI,rowS,ret,id_eq]
  repeat(first|refine GA ?_|refine gV (rr_load1 (v:= .slice bw s.words.length cw) TyC.ty rfl (at_blk (i:=1) rfl rfl)) ?_)
  refine T_nil 85 6 ?_
  refine T_loop (ι:=Nat×List (List Value)×Value) (fun (k,css,vl)=>k≤s.words.length∧css.length=k∧RexesIs w0 s.words css)
    (fun (k,_,vl)=>[(1,.pointer (some ⟨gp,0,none⟩)),(2,.pointer (some ⟨g2,0,none⟩)),(5,vl),(13,.slice bw s.words.length cw),(14,.int .i64 s.words.length),(15,.int .i64 (k:Int))])
    (fun (k,css,vl)=>[blkO gp md0.toArray 38,blkO g2 #[.slice bw s.words.length cw,vr] 25,rowO 85 6 vl k css.flatten])
    (fun (k,_,_)=>s.words.length - k) (0,[],.slice none 0 0) ⟨Nat.zero_le _,rfl,fun i c h=>by cases h⟩ (by repeat' (first | exact True.intro | refine And.intro rfl ?_)) rfl ?_
  clear hm
  rintro⟨k,css,vl⟩ ⟨i1,i2,i3⟩
  dsimp only at i1 i2 i3 ⊢
  by_cases c1:k<s.words.length
  · obtain⟨b,off,rfl,_,hr⟩:=hrdw (by omega)
    obtain⟨bk,ck,q1,q2⟩:=word_at2 hr c1
    have hat:∀ (L:List Own) (j:Nat) (u:Value),(wdC s.words[k].1 s.words[k].2.kind s.words[k].2.cls (.slice bk s.words[k].2.kids.length ck))[j]?=some u→At B L ⟨b,off+k*7+j,none⟩ u:=fun L j u hj=>at_old0 ho (q1 j u hj)
    clear hr hrdw q1 hx hnum
    subst i2
    have hsn:=rexes_snoc i3 c1 q2
    clear q2
    generalize s.words[css.length].1=nm at *
    generalize s.words[css.length].2.kind=rk at *
    generalize s.words[css.length].2.cls=rc at *
    generalize s.words[css.length].2.kids.length=rn at *
    repeat(first|refine GA ?_|refine gV (rr_idxc Und.eq TyC.ty rfl rfl c1) ?_|refine gV (rr_loadN (cs:=wdC nm rk rc (.slice bk rn ck)) TyC.ty rfl rfl (hat _)) ?_)
    clear hat
    refine TL_new rfl fun g7 => ?_
    conv=>arg 8;simp only[zA,zB,zC,zD,zE,zF,zG,zH,zI,rowS,ret,id_eq]
    refine TL_storeB (i:=3) (cs':=(wdC nm rk rc (.slice bk rn ck)).toArray) rfl rfl rfl rfl rfl rfl ?_
    conv=>arg 8;simp only[zA,zB,zC,zD,zE,zF,zG,zH,zI,rowS,ret,id_eq]
    repeat(first|refine GA ?_|refine gV (rr_loadN (cs:=rexC rk rc (.slice bk rn ck)) TyC.ty rfl rfl (fun j v hj=>at_blk (i:=3) rfl (wd_rex hj))) ?_)
    refine TL_pushN (i:=2) rfl rfl rfl rfl rfl rfl rfl (fun z h=>by cases h;rfl) (by omega) (by omega) rfl fun z vl' => ?_
    conv=>arg 8;simp only[zA,zB,zC,zD,zE,zF,zG,zH,zI,rowS,ret,id_eq]
    try refine GA ?_
    refine E_pick [0,1,2] (by decide) rfl ?_
    exact E_round (css.length+1,css++[rexC rk rc (.slice bk rn ck)],vl') ⟨by omega,by rw[List.length_append];rfl,hsn⟩ (by show s.words.length - (css.length+1)<s.words.length - css.length;omega) (by repeat' (first | exact True.intro | refine And.intro rfl ?_)) (by dsimp only;rw[List.flatten_append];simp)
  · obtain rfl:k=s.words.length:=by omega
    clear hrdw
    rcases hx with ⟨k,hk,hR,rfl⟩ | ⟨es,m,hes,hfit,h0,h20,hlp,hR,hx⟩
    · have hmk:=fun w' (hsl:SlF rexS (Low w') w' vl (rexesS s))=>make_calls vl (rexesS s) (k,.zero) w' hsl hR
      rw[show lexS1 gp s (k,[],[])=⟨fun _=>True,fun _=> .int .i64 k,fun _=>[]⟩ from if_neg hk]
      try refine GA ?_
      refine TL_call (he1 EntersC.en rfl rfl) (fun w hm=>hmk _ (rexes_slf (ho.mem hm) i2 i3 (hm.get (i:=2) rfl))) rfl rfl rfl ?_
      rintro⟨vc1,vr1,vf1,vfol1,vl1,ve1,vs1,F1⟩ hx1
      conv=>arg 8;simp only[zA,zB,zC,zD,zE,zF,zG,zH,zI,rowS,ret,id_eq,makeSp,posL,posC]
      conv=>arg 7;simp only[makeSp,posC]
      refine TL_slv (i:=3) rfl fun _ a1=>TL_slv (i:=4) rfl fun _ a2=>TL_slv (i:=5) rfl fun _ a3=>TL_slv (i:=6) rfl fun _ a4=>TL_slv (i:=8) rfl fun _ a5=>TL_slv (i:=9) rfl fun _ a6 => ?_
      try refine GA ?_
      refine TL_new rfl fun g4 => ?_
      conv=>arg 8;simp only[zA,zB,zC,zD,zE,zF,zG,zH,zI,rowS,ret,id_eq]
      refine TL_storeB (i:=10) (cs':=#[vc1,vr1,vf1,vfol1,vl1,ve1]) rfl rfl rfl rfl (by simp only[List.all_cons,List.all_nil,a1,a2,a3,a4,a5,a6];rfl) rfl ?_
      conv=>arg 8;simp only[zA,zB,zC,zD,zE,zF,zG,zH,zI,rowS,ret,id_eq]
      repeat(first|refine GC ?_|refine gV (rr_neq (b:=true) rfl rfl (decide_eq_true hk)) ?_|refine GB ?_)
      exact E_ret1 rfl rfl fun w hm=>hm.meetsB (S:=⟨fun _=>True,fun _=> .int .i64 k,fun _=>[]⟩) (vl,vl,fun _=>False,0,fun _=>vl,vl) trivial [] (by decide) rfl
    · have hmk:=fun w' (hsl:SlF rexS (Low w') w' vl (rexesS s))=>make_calls vl (rexesS s) (0,m) w' hsl hR
      have hok:=make_ok h0 h20 hlp
      have hdm:=fun v' w' h=>dfaMake_calls v' m w' h hok
      unfold mkdSp at hdm
      try refine GA ?_
      refine TL_call (he1 EntersC.en rfl rfl) (fun w hm=>hmk _ (rexes_slf (ho.mem hm) i2 i3 (hm.get (i:=2) rfl))) rfl rfl rfl ?_
      rintro⟨vc1,vr1,vf1,vfol1,vl1,ve1,vs1,F1⟩ hx1
      have hx1:vs1.length=m.ps.follow.length:=hx1
      conv=>arg 8;simp only[zA,zB,zC,zD,zE,zF,zG,zH,zI,rowS,ret,id_eq,makeSp,posL,posC]
      conv=>arg 7;simp only[makeSp,posC]
      refine TL_slv (i:=3) rfl fun _ a1=>TL_slv (i:=4) rfl fun _ a2=>TL_slv (i:=5) rfl fun _ a3=>TL_slv (i:=6) rfl fun _ a4=>TL_slv (i:=8) rfl fun _ a5=>TL_slv (i:=9) rfl fun _ a6 => ?_
      try refine GA ?_
      refine TL_new rfl fun g4 => ?_
      conv=>arg 8;simp only[zA,zB,zC,zD,zE,zF,zG,zH,zI,rowS,ret,id_eq]
      refine TL_storeB (i:=10) (cs':=#[vc1,vr1,vf1,vfol1,vl1,ve1]) rfl rfl rfl rfl (by simp only[List.all_cons,List.all_nil,a1,a2,a3,a4,a5,a6];rfl) rfl ?_
      conv=>arg 8;simp only[zA,zB,zC,zD,zE,zF,zG,zH,zI,rowS,ret,id_eq]
      clear a1 a2 a3 a4 a5 a6
      repeat(first|refine GC ?_|refine gV (rr_neq (b:=false) rfl rfl (decide_eq_false (by simp))) ?_|refine gV (rr_loadB (i:=1) TyC.ty rfl rfl rfl) ?_|refine GB ?_)
      refine TL_callB [0] [3,4,5,6,7,8,9,10] (by decide) rfl rfl (he2 EntersC.en rfl rfl rfl) (fun w' hm' hb=>hnum w' _ (Old.on ho hm' (fun o ho=>by simp at ho;subst ho;simp)) hb) rfl rfl rfl ?_
      rintro⟨vo,vp,F⟩ ⟨k1,k2⟩
      conv=>arg 8;simp only[zA,zB,zC,zD,zE,zF,zG,zH,zI,rowS,ret,id_eq,numsSp,numsX]
      conv=>arg 7;simp only[numsSp,numsX]
      have hbad:∀ e:Int,e≠0→lexS1 gp s (e,[],[])=⟨fun _=>True,fun _=> .int .i64 e,fun _=>[]⟩:=fun e he=>if_neg he
      have hgood:∀ R T,lexS1 gp s (0,R,T)=lexSp gp s R T:=fun R T=>if_pos rfl
      by_cases d1:numE s≠0
      · obtain rfl:r=(numE s,[],[]):=by
          rcases hx with ⟨-,h⟩ | ⟨h,-⟩ | ⟨h,-⟩
          · exact h
          · exact absurd h d1
          · exact absurd h d1
        rw[hbad _ d1]
        repeat(first|refine GC ?_|refine gV (rr_neq (b:=true) rfl rfl (decide_eq_true d1)) ?_|refine GB ?_)
        exact E_ret1 rfl rfl fun w hm=>hm.meetsB (S:=⟨fun _=>True,fun _=> .int .i64 (numE s),fun _=>[]⟩) (vl,vl,fun _=>False,0,fun _=>vl,vl) trivial [] (by decide) rfl
      have d1:numE s=0:=Decidable.of_not_not d1
      rw[d1]
      have hx:=hx.resolve_left (fun h=>h.1 d1)
      generalize outD m=D at *
      obtain⟨R,T,e⟩:=D
      dsimp only at hdm hx ⊢
      repeat(first|refine GC ?_|refine gV (rr_neq (b:=false) rfl rfl (decide_eq_false (by simp))) ?_|refine gV (rr_loadB (i:=7) TyC.ty rfl rfl rfl) ?_|refine GB ?_)
      refine TL_call (he1 EntersC.en rfl rfl) (fun w hm=>hdm _ w (hm.posR (x:=⟨vc1,vr1,vf1,vfol1,vl1,ve1,vs1,F1⟩) 0 hx1 rfl (by simp))) rfl rfl rfl ?_
      rintro⟨vrr,vtt⟩ _
      conv=>arg 8;simp only[zA,zB,zC,zD,zE,zF,zG,zH,zI,rowS,ret,id_eq,dfaV]
      conv=>arg 7;simp only[dfaV]
      refine TL_slv (i:=11) rfl fun _ a1=>TL_slv (i:=12) rfl fun _ a2 => ?_
      try refine GA ?_
      refine TL_new rfl fun g6 => ?_
      conv=>arg 8;simp only[zA,zB,zC,zD,zE,zF,zG,zH,zI,rowS,ret,id_eq]
      refine TL_storeB (i:=13) (cs':=#[vrr,vtt]) rfl rfl rfl rfl (by simp only[List.all_cons,List.all_nil,a1,a2];rfl) rfl ?_
      conv=>arg 8;simp only[zA,zB,zC,zD,zE,zF,zG,zH,zI,rowS,ret,id_eq]
      clear a1 a2
      by_cases d2:e≠0
      · obtain rfl:r=(e,[],[]):=by
          rcases hx with ⟨-,-,h⟩ | ⟨-,h,-⟩
          · exact h
          · exact absurd h d2
        rw[hbad _ d2]
        repeat(first|refine GC ?_|refine gV (rr_neq (b:=true) rfl rfl (decide_eq_true d2)) ?_|refine GB ?_)
        exact E_ret1 rfl rfl fun w hm=>hm.meetsB (S:=⟨fun _=>True,fun _=> .int .i64 e,fun _=>[]⟩) (vl,vl,fun _=>False,0,fun _=>vl,vl) trivial [] (by decide) rfl
      have d2:e=0:=Decidable.of_not_not d2
      subst d2
      obtain⟨hc1,rfl⟩:chk R T=0∧r=(0,minR R T,minT R T):=by
        rcases hx with ⟨-,h,-⟩ | ⟨-,-,h,h2⟩
        · exact absurd rfl h
        · exact⟨h,h2⟩
      rw[hgood]
      have hmin:=fun vr vt w' h=>minimal_calls vr vt R T w' h
      have hmc:=min_chk hc1
      unfold minS at hmin
      rw[hc1] at hmin
      generalize minR R T=MR at *
      generalize minT R T=MT at *
      have hpc:=fun vr vt w' h=>pack_calls vr vt MR MT w' h hmc
      unfold packS at hpc
      repeat(first|refine GC ?_|refine gV (rr_neq (b:=false) rfl rfl (decide_eq_false (by simp))) ?_|refine gV (rr_loadB (i:=13) TyC.ty rfl rfl rfl) ?_|refine GB ?_)
      refine TL_call (he1 EntersC.en rfl rfl) (fun w hm=>hmin _ _ w (hm.dfaM (i:=11) (j:=12) rfl (by rw[int_flat];rfl) hc1)) rfl rfl rfl ?_
      rintro⟨mr,mt⟩ _
      conv=>arg 8;simp only[zA,zB,zC,zD,zE,zF,zG,zH,zI,rowS,ret,id_eq]
      dsimp only
      refine TL_slv (i:=14) rfl fun _ d1=>TL_slv (i:=15) rfl fun _ d2 => ?_
      try refine GA ?_
      refine TL_storeB (i:=13) (cs':=(dfaV mr mt).cells) rfl rfl rfl rfl (by show ([mr,mt].all Value.oneCell')=true;simp[d1,d2]) rfl ?_
      conv=>arg 8;simp only[zA,zB,zC,zD,zE,zF,zG,zH,zI,rowS,ret,id_eq]
      repeat(first|refine GA ?_|refine gV (rr_loadB (i:=13) TyC.ty rfl rfl rfl) ?_)
      refine TL_call (he1 EntersC.en rfl rfl) (fun w hm=>hpc _ _ w (hm.dfaM (i:=14) (j:=15) rfl rfl hmc)) rfl rfl rfl ?_
      rintro⟨gP,vsP,vTP⟩ _
      conv=>arg 8;simp only[zA,zB,zC,zD,zE,zF,zG,zH,zI,rowS,ret,id_eq]
      dsimp only
      refine TL_slv (i:=18) rfl fun _ d3 => ?_
      try refine GA ?_
      refine TL_storeMp (i:=8) (pk':=pkC (ofP MR 256) (.slice (some ⟨gP,0,none⟩) MR.length MR.length) vTP) rfl rfl rfl (by have:=pk_one (ofP MR 256) (vn:= .slice (some ⟨gP,0,none⟩) MR.length MR.length) (vt:=vTP) rfl d3;simpa using this) rfl pk0_len (pkC_len _ _ _) ?_
      conv=>arg 8;simp only[zA,zB,zC,zD,zE,zF,zG,zH,zI,rowS,ret,id_eq]
      try refine GA ?_
      exact E_ret1 rfl rfl fun w hm=>hm.meetsB (S:=lexSp gp s MR MT) (vo,vp,F,gP,vsP,vTP) ⟨k1,k2,d3⟩ [8,9,10,16,17,18] (by decide) rfl
end Go.Proofs.Ytldiodhdefnlaaa.eng

/- SpecC -/
namespace Go.Proofs.Ytldiodhdefnlaaa.eng
open Go.RowKit kit mix classL rexL specL
theorem heads_cons (r:Rl) (l:List Rl) (of:List Bs):headsF (r::l) of=if namedB r.1=false then 1 else if r.1∈of then 11 else headsF l of:=rfl
theorem body_cons (of hd:List Bs) (x:Bs) (l:List Bs):bodyOk of hd (x::l)=((decide (x∈of) || decide (x∈hd)) && bodyOk of hd l):=rfl
theorem bodies_cons (of hd:List Bs) (r:Rl) (l:List Rl):bodiesOk of hd (r::l)=(bodyOk of hd r.2 && bodiesOk of hd l):=rfl
set_option maxHeartbeats 4000000 in
theorem spCheck_calls (v:Value) (s:Sp) (w:World) (h:SpR (Low w) w v s):Calls Try.prog 10 #[v] w (Meets (ret (.int .i64 (checkS s))) w):=by
  obtain⟨vw,vr,rfl,hw,hr⟩:=h
  have hnm:=fun s w=>named_calls s w
  have hwd:=fun gm w' B ho hl hm=>words_calls vw vr s.words gm w hw hl w' B ho hm
  obtain⟨bw,cw,rfl,-⟩:=hw
  obtain⟨br,cr,rfl,hcr,hmr,hrr⟩:=hr
  unfold maxLen at hmr
  have hC:checkS s=if 60<s.words.length∨60<s.words.length+s.rules.length then 2 else if (wordsF s.words []).1≠0 then (wordsF s.words []).1 else if headsF s.rules (wordsF s.words []).2≠0 then headsF s.rules (wordsF s.words []).2 else if bodiesOk (wordsF s.words []).2 (s.rules.map (·.1)) s.rules=true then 0 else 11:=rfl
  obtain⟨words,rules⟩:=s
  dsimp only at *
  refine enter (args:=[.agg #[.slice bw words.length cw,.slice br rules.length cr]]) (n:=99) Try.func10 rfl rfl rfl ?_
  refine T_seq (T_region (TL_box rfl rfl rfl fun g1 => ?_))
  conv=>arg 8;simp only[zA,zB,zC,zD,zE,zF,zG,zH,zI,rowS,ret,id_eq]
  by_cases c0:60<words.length
  · rw[if_pos (.inl c0)] at hC
    rw[hC]
    repeat(first|refine GA ?_|refine gV (rr_load1 (v:= .slice bw words.length cw) TyC.ty rfl (at_blk (i:=0) rfl rfl)) ?_)
    exact E_ret1e rfl rfl rfl
  by_cases c1:60<words.length+rules.length
  · rw[if_pos (.inr c1)] at hC
    rw[hC]
    repeat(first|refine GA ?_|refine gV (rr_load1 (v:= .slice bw words.length cw) TyC.ty rfl (at_blk (i:=0) rfl rfl)) ?_|refine gV (rr_load1 (v:= .slice br rules.length cr) TyC.ty rfl (at_blk (i:=0) rfl rfl)) ?_)
    exact E_ret1e rfl rfl rfl
  rw[if_neg (by omega)] at hC
  rw[hC]
  repeat(first|refine GA ?_|refine gV (rr_load1 (v:= .slice bw words.length cw) TyC.ty rfl (at_blk (i:=0) rfl rfl)) ?_|refine gV (rr_load1 (v:= .slice br rules.length cr) TyC.ty rfl (at_blk (i:=0) rfl rfl)) ?_)
  refine TL_map strK rfl fun g3 => ?_
  conv=>arg 8;simp only[zA,zB,zC,zD,zE,zF,zG,zH,zI,rowS,ret,id_eq]
  refine TL_map strK rfl fun g4 => ?_
  conv=>arg 8;simp only[zA,zB,zC,zD,zE,zF,zG,zH,zI,rowS,ret,id_eq]
  repeat(first|refine GA ?_|refine gV (rr_loadB (i:=0) TyC.ty rfl rfl rfl) ?_)
  refine TL_callB [1] [0,2] (by decide) rfl rfl (he2 EntersC.en rfl rfl rfl) (fun w' hm' hb=>hwd g3 w' _ (Old.on (Old.self w) hm' (fun o ho=>by simp at ho;subst ho;simp)) (by omega) hb) rfl rfl rfl ?_
  rintro⟨m,n⟩ ⟨k1,k2⟩
  conv=>arg 8;simp only[zA,zB,zC,zD,zE,zF,zG,zH,zI,rowS,ret,id_eq,wordsS]
  conv=>arg 7;simp only[wordsS]
  generalize wordsF words []=W at *
  obtain⟨e,of⟩:=W
  dsimp only at k1 k2 ⊢
  by_cases e0:e=0
  · subst e0
    rw[if_neg (by simp)]
    repeat(first|refine GA ?_|refine gV (rr_load1 (v:= .slice br rules.length cr) TyC.ty rfl (at_blk (i:=0) rfl rfl)) ?_)
    generalize hfin:headsF rules of=fin
    refine T_loop (ι:=Nat×(Bs→Option Value)×Nat) (fun (k,m2,n2)=>k≤rules.length∧n2≤k∧KeysOf m2 ((rules.take k).map (·.1))∧headsF (rules.drop k) of=fin) (fun (k,_,_)=>[(1,.pointer (some ⟨g1,0,none⟩)),(3,.map (some g3)),(4,.map (some g4)),(41,.slice br rules.length cr),(42,.int .i64 rules.length),(43,.int .i64 (k:Int))])
      (fun (_,m2,n2)=>[blkO g1 #[.slice bw words.length cw,.slice br rules.length cr] 25,mapO strK g4 m2 n2,mapO strK g3 m n]) (fun (k,_)=>rules.length - k) (0,fun _=>none,0) ⟨Nat.zero_le _,Nat.le_refl _,fun y=>rfl,hfin⟩ (by repeat' (first | exact True.intro | refine And.intro rfl ?_)) rfl ?_
    rintro⟨k,m2,n2⟩ ⟨i1,i2,i3,i4⟩
    dsimp only at i1 i2 i3 i4 ⊢
    by_cases c2:k<rules.length
    · obtain⟨b,off,rfl,_,hrd⟩:=hrr (by omega)
      obtain⟨bk,ck,q1,-,q3⟩:=rule_at hrd c2
      rw[List.drop_eq_getElem_cons c2,heads_cons] at i4
      have htk:(rules.take (k+1)).map (·.1)=(rules.take k).map (·.1)++[rules[k].1]:=by rw[List.take_succ_eq_append_getElem c2,List.map_append];rfl
      have hat:∀ (L:List Own) (j:Nat) (u:Value),([str rules[k].1,.slice bk rules[k].2.length ck]:List Value)[j]?=some u→At w L ⟨b,off+k*2+j,none⟩ u:=fun L j u hj=>at_old (q1 j u hj)
      clear hrd q1
      generalize rules[k]=r at *
      obtain⟨nm,bd⟩:=r
      dsimp only at *
      generalize bd.length=bn at *
      repeat(first|refine GA ?_|refine gV (rr_idxc Und.eq TyC.ty rfl rfl c2) ?_|refine gV (rr_loadN (cs:=[str nm,.slice bk bn ck]) TyC.ty rfl rfl (hat _)) ?_)
      clear hat
      refine TL_new rfl fun g7 => ?_
      conv=>arg 8;simp only[zA,zB,zC,zD,zE,zF,zG,zH,zI,rowS,ret,id_eq]
      try refine GA ?_
      refine TL_storeB (i:=3) (cs':=#[str nm,.slice bk bn ck]) rfl rfl rfl rfl rfl rfl ?_
      conv=>arg 8;simp only[zA,zB,zC,zD,zE,zF,zG,zH,zI,rowS,ret,id_eq]
      repeat(first|refine GA ?_|refine gV (rr_load1 (v:=str nm) TyC.ty rfl (at_blk (i:=3) rfl rfl)) ?_)
      refine TL_call (he1 EntersC.en rfl rfl) (fun w hm=>hnm nm w) rfl rfl rfl ?_
      intro _ _
      conv=>arg 8;simp only[zA,zB,zC,zD,zE,zF,zG,zH,zI,rowS,ret,id_eq]
      cases hb:namedB nm with
      | false=>
        rw[if_pos hb] at i4
        subst i4
        rw[if_pos (by decide)]
        try refine GA ?_
        exact E_ret1e rfl rfl rfl
      | true=>
        rw[if_neg (by rw[hb];decide)] at i4
        cases hmn:m nm with
        | some u=>
          rw[if_pos (keys_some k1 hmn)] at i4
          subst i4
          rw[if_pos (by decide)]
          repeat(first|refine GA ?_|refine gV (rr_load1 (v:=str nm) TyC.ty rfl (at_blk (i:=3) rfl rfl)) ?_|refine gV (rr_lookOkS strK (x:=nm) Und.eq zero_int1 (i:=2) rfl rfl rfl q3 hmn) ?_)
          exact E_ret1e rfl rfl rfl
        | none=>
          rw[if_neg (keys_none k1 hmn)] at i4
          repeat(first|refine GA ?_|refine gV (rr_load1 (v:=str nm) TyC.ty rfl (at_blk (i:=3) rfl rfl)) ?_|refine gV (rr_lookOkN strK (x:=nm) Und.eq zero_int1 (i:=2) rfl rfl rfl q3 hmn) ?_)
          refine TL_mapSet (i:=1) (x:=nm) (v:= .int .i64 (k:Int)) strK Und.eq rfl rfl rfl rfl q3 (by omega) ?_
          conv=>arg 8;simp only[zA,zB,zC,zD,zE,zF,zG,zH,zI,rowS,ret,id_eq]
          try refine GA ?_
          refine E_pick [0,1,2] (by decide) rfl ?_
          exact E_round (k+1,_,_) ⟨by omega,by show (if (m2 nm).isSome then n2 else n2+1)≤k+1;split <;> omega,by show KeysOf _ ((rules.take (k+1)).map (·.1));rw[htk];exact keys_put i3,i4⟩ (by show rules.length - (k+1)<rules.length - k;omega) (by repeat' (first | exact True.intro | refine And.intro rfl ?_)) rfl
    · obtain rfl:k=rules.length:=by omega
      rw[List.drop_length] at i4
      subst i4
      rw[List.take_length] at i3
      rw[if_neg (by simp[headsF])]
      generalize rules.map (·.1)=hd at *
      repeat(first|refine GA ?_|refine gV (rr_load1 (v:= .slice br rules.length cr) TyC.ty rfl (at_blk (i:=0) rfl rfl)) ?_)
      refine T_pick [1,2] (by decide) rfl ?_
      generalize hfin:bodiesOk of hd rules=fin
      refine T_loop (ι:=Nat) (fun k=>k≤rules.length∧bodiesOk of hd (rules.drop k)=fin) (fun k=>[(3,.map (some g3)),(4,.map (some g4)),(66,.slice br rules.length cr),(67,.int .i64 rules.length),(68,.int .i64 (k:Int))])
        (fun _=>[mapO strK g4 m2 n2,mapO strK g3 m n]) (fun k=>rules.length - k) 0 ⟨Nat.zero_le _,hfin⟩ (by repeat' (first | exact True.intro | refine And.intro rfl ?_)) rfl ?_
      rintro k ⟨i5,i6⟩
      by_cases c2:k<rules.length
      · obtain⟨b,off,rfl,_,hrd⟩:=hrr (by omega)
        obtain⟨bk,ck,q1,q2,q3⟩:=rule_at hrd c2
        rw[List.drop_eq_getElem_cons c2,bodies_cons] at i6
        have hat:∀ (L:List Own) (j:Nat) (u:Value),([str rules[k].1,.slice bk rules[k].2.length ck]:List Value)[j]?=some u→At w L ⟨b,off+k*2+j,none⟩ u:=fun L j u hj=>at_old (q1 j u hj)
        have hsl:=q2.flat (by decide)
        have hok:=q2.okp
        clear hrd q1 q2
        generalize rules[k]=r at *
        obtain⟨nm,bd⟩:=r
        dsimp only at *
        obtain⟨b2,c2',hv2,hc2,hm2,hrd2⟩:=hsl
        cases hv2
        unfold maxLen at hm2
        repeat(first|refine GA ?_|refine gV (rr_idxc Und.eq TyC.ty rfl rfl c2) ?_|refine gV (rr_loadN (cs:=[str nm,.slice bk bd.length ck]) TyC.ty rfl rfl (hat _)) ?_)
        clear hat
        refine TL_new rfl fun g11 => ?_
        conv=>arg 8;simp only[zA,zB,zC,zD,zE,zF,zG,zH,zI,rowS,ret,id_eq]
        refine TL_storeB (i:=2) (cs':=#[str nm,.slice bk bd.length ck]) rfl rfl rfl rfl rfl rfl ?_
        conv=>arg 8;simp only[zA,zB,zC,zD,zE,zF,zG,zH,zI,rowS,ret,id_eq]
        repeat(first|refine GA ?_|refine gV (rr_load1 (v:= .slice bk bd.length ck) TyC.ty rfl (at_blk (i:=2) rfl rfl)) ?_)
        refine T_pick [0,1] (by decide) rfl ?_
        generalize hfin2:bodyOk of hd bd=fin2 at i6
        refine T_loop (ι:=Nat) (fun i=>i≤bd.length∧bodyOk of hd (bd.drop i)=fin2) (fun i=>[(3,.map (some g3)),(4,.map (some g4)),(66,.slice (some ⟨b,off,none⟩) rules.length cr),(67,.int .i64 rules.length),(68,.int .i64 (k:Int)),(73,.slice bk bd.length ck),(74,.int .i64 bd.length),(75,.int .i64 (i:Int))])
          (fun _=>[mapO strK g4 m2 n2,mapO strK g3 m n]) (fun i=>bd.length - i) 0 ⟨Nat.zero_le _,hfin2⟩ (by repeat' (first | exact True.intro | refine And.intro rfl ?_)) rfl ?_
        rintro i ⟨i7,i8⟩
        by_cases c3:i<bd.length
        · obtain⟨b3,off3,rfl,hr3⟩:=hrd2 (by omega)
          have hat:=at_el (L:=([mapO strK g4 m2 n2,mapO strK g3 m n]:List Own)) bsC_len hr3 c3 0 _ rfl
          rw[List.drop_eq_getElem_cons c3,body_cons] at i8
          have hlen:=hok bd[i] (List.getElem_mem c3)
          clear hr3 hok hrd2
          generalize bd[i]=x at *
          repeat(first|refine GA ?_|refine gV (rr_idxc Und.eq TyC.ty rfl rfl c3) ?_|refine gV (rr_load1 (v:=str x) TyC.ty rfl hat) ?_)
          cases hmn:m x with
          | some u=>
            rw[decide_eq_true (keys_some k1 hmn),Bool.true_or,Bool.true_and] at i8
            cases hmn2:m2 x with
            | some u2=>
              repeat(first|refine GA ?_|refine gV (rr_lookOkS strK (x:=x) Und.eq zero_int1 (i:=1) rfl rfl rfl hlen hmn) ?_|refine gV (rr_lookOkS strK (x:=x) Und.eq zero_int1 (i:=0) rfl rfl rfl hlen hmn2) ?_)
              exact E_round (i+1) ⟨by omega,i8⟩ (by show bd.length - (i+1)<bd.length - i;omega) (by repeat' (first | exact True.intro | refine And.intro rfl ?_)) rfl
            | none=>
              repeat(first|refine GA ?_|refine gV (rr_lookOkS strK (x:=x) Und.eq zero_int1 (i:=1) rfl rfl rfl hlen hmn) ?_|refine gV (rr_lookOkN strK (x:=x) Und.eq zero_int1 (i:=0) rfl rfl rfl hlen hmn2) ?_)
              exact E_round (i+1) ⟨by omega,i8⟩ (by show bd.length - (i+1)<bd.length - i;omega) (by repeat' (first | exact True.intro | refine And.intro rfl ?_)) rfl
          | none=>
            cases hmn2:m2 x with
            | some u2=>
              rw[decide_eq_true (keys_some i3 hmn2),Bool.or_true,Bool.true_and] at i8
              repeat(first|refine GA ?_|refine gV (rr_lookOkN strK (x:=x) Und.eq zero_int1 (i:=1) rfl rfl rfl hlen hmn) ?_|refine gV (rr_lookOkS strK (x:=x) Und.eq zero_int1 (i:=0) rfl rfl rfl hlen hmn2) ?_)
              exact E_round (i+1) ⟨by omega,i8⟩ (by show bd.length - (i+1)<bd.length - i;omega) (by repeat' (first | exact True.intro | refine And.intro rfl ?_)) rfl
            | none=>
              rw[decide_eq_false (keys_none k1 hmn),decide_eq_false (keys_none i3 hmn2),Bool.or_false,Bool.false_and] at i8
              subst i8
              rw[Bool.false_and] at i6
              rw[←i6,if_neg (by decide)]
              repeat(first|refine GA ?_|refine gV (rr_lookOkN strK (x:=x) Und.eq zero_int1 (i:=1) rfl rfl rfl hlen hmn) ?_|refine gV (rr_lookOkN strK (x:=x) Und.eq zero_int1 (i:=0) rfl rfl rfl hlen hmn2) ?_)
              exact E_ret1e rfl rfl rfl
        · obtain rfl:i=bd.length:=by omega
          rw[List.drop_length] at i8
          have i8:true=fin2:=i8
          rw[←i8,Bool.true_and] at i6
          try refine GA ?_
          exact E_round (k+1) ⟨by omega,i6⟩ (by show rules.length - (k+1)<rules.length - k;omega) (by repeat' (first | exact True.intro | refine And.intro rfl ?_)) rfl
      · obtain rfl:k=rules.length:=by omega
        rw[List.drop_length] at i6
        have i6:true=fin:=i6
        rw[←i6,if_pos rfl]
        try refine GA ?_
        exact E_ret1e rfl rfl rfl
  · rw[if_pos e0]
    repeat(first|refine GC ?_|refine gV (rr_neq (b:=true) rfl rfl (decide_eq_true e0)) ?_|refine GB ?_)
    exact E_ret1e rfl rfl rfl
end Go.Proofs.Ytldiodhdefnlaaa.eng

/- CountC -/
namespace Go.Proofs.Ytldiodhdefnlaaa.eng
open Go.RowKit kit mix gramL countL
def FineC (n:Nat) (l:List gramL.Prod):Prop:=∀ p∈l,0≤p.1∧p.1<(n:Int)∧∀ x∈p.2,kit.okI64 x.2
end Go.Proofs.Ytldiodhdefnlaaa.eng

/- CountD -/
namespace Go.Proofs.Ytldiodhdefnlaaa.eng
open Go.RowKit kit mix gramL countL
theorem fineC_of {g:Gram} {n:Nat} (h:checkG g=0) (hn:g.nons=n):FineC n g.prods∧NonsIn n g.prods:=by
  obtain⟨a1,a2,a3,a4,a5,a6⟩:=checkG_ok h
  refine⟨fun p hp => ?_,fun p hp x hx h2 => ?_⟩
  · obtain⟨b1,b2,b3,b4⟩:=a6 p hp
    refine⟨b2,by omega,fun x hx => ?_⟩
    have:=b4 x hx
    unfold right at this
    split at this
    · simp at this;exact⟨by omega,by omega⟩
    · split at this
      · simp at this;exact⟨by omega,by omega⟩
      · simp at this
  · have:=(a6 p hp).2.2.2 x hx
    unfold right at this
    rw[if_neg (by omega),if_pos h2] at this
    simp at this;omega
end Go.Proofs.Ytldiodhdefnlaaa.eng


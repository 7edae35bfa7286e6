/- Part 3 of what PlacesAlone needs: PlA, PlC, PlD, PlacesM, ClsEq, RexC, PlM, ClassB, RexPl, PlR, SmIe, BoE, PlE, PlP. -/
import Derived.Test.YtcflcmlmlinbaaaMgB
import Derived.WalkKit
import Derived.WalkSpells
import Derived.WalkLawsBesides
import Derived.Deep.RegionLaw
import Derived.Deep.AppendLies
import Derived.Deep.QuietTactic
import Derived.BigQuiet
import Derived.Deep.DeepCutAuto
import Derived.Lib.Hide
import Derived.Test.YtcflcmlmlinbaaaRows
import Derived.ProofKit
import Derived.OpenShut
import Derived.ShutString
import Derived.SizedLaws
import Derived.JoinedCond
import Derived.Deep.CondSized
import Derived.Deep.Quiet
import Derived.StillTail
import Derived.Deep.LoopGhost
import Derived.Laws.BitsLemmas
import Derived.Laws.BytesString
import Derived.Test.YtcflcmlmlinbaaaProg
import Derived.Laws.Entries
import Derived.Laws.BitsAllLaws
import Derived.Lib.TrailingZeros
import Derived.Laws.StructEq
import Derived.Laws.MakeOwn
import Derived.Laws.AppendOwn
import Derived.Maps.OwnSet
import Derived.DeepKeys4
import Derived.WideKeyEntry
import Derived.Shelf.Sort.Plain
import Derived.Ground.Names2Prog
import Derived.Shelf.Slices.CompactI
import Derived.Shelf.Slices.In.SortNone
import Derived.Lib.RowBridge
import Derived.Lib.SlicesCompact
import Derived.ChangeKeysEq
/- PlA -/
namespace Go.Proofs.Ytcflcmlmlinbaaa.eng
open Go.RowKit kit mix classL rexL placesL
theorem build_shpA (e : Bool) (b b' : Option Addr) (m m' k k' : Nat) (w : World) : (Instr.build 56 #[(0, .bool e), (1, .slice b m k), (2, .slice b' m' k')]).run Try.prog w = .ok (.agg #[.bool e, .slice b m k, .slice b' m' k']) w := by
  go_simp
set_option maxHeartbeats 32000000 in
set_option maxRecDepth 100000 in
theorem node_alt {M : Nat} (IH : NodeAt M) (a b1 : Re) (ha : a.size ≤ M) (hb1 : b1.size ≤ M) (g : Nat) (vf ve : Value) (rule : Int) (p : PS) (x : MIx) (v : Value) (w : World) (B : Base) (hp : PSOk p) (hx : x.vs.length = p.follow.length) (hn : p.classes.length + (a.size + b1.size + 1) ≤ 100000) (hr64 : kit.okI64 rule) (hv : RexR (OldB B) B.w v (emb (.alt a b1))) (hm : Mem B (mkL g vf ve rule x p) w) :
    Calls Try.prog 13 #[.pointer (some ⟨g, 0, none⟩), v] w (MeetsB (nodeSp g vf ve rule (nodeF rule (.alt a b1) p)) B) := by
  obtain ⟨vk, rfl, _, hks⟩ := hv
  obtain ⟨bk, ck, rfl, h1, h2, h3⟩ := hks
  obtain ⟨b, off, rfl, hF, hrd⟩ := h3 (by show 0 < 2; decide)
  obtain ⟨kb, kc, hr, hkid1⟩ := rkid_at (k := 0) hrd (by show 0 < 2; decide)
  obtain ⟨kb2, kc2, hr2, hkid2⟩ := rkid_at (k := 1) hrd (by show 1 < 2; decide)
  have hat1 := fun (L : List Own) (j : Nat) (v : Value) hj => at_oldB (L := L) hF hr j v hj
  have hat2 := fun (L : List Own) (j : Nat) (v : Value) hj => at_oldB (L := L) hF hr2 j v hj
  clear h3 hrd hr hr2
  obtain ⟨hp1, hp2, hp3, hp4, hp5⟩ := node_ok rule a p hp
  obtain ⟨kp1, kp2, kp3, kp4, kp5⟩ := node_ok rule b1 _ hp1
  have hI1 := fun w B hv hm => IH a ha g vf ve rule p x (rexV (emb a).kind (emb a).cls (.slice kb (emb a).kids.length kc)) w B hp hx (by omega) hr64 hv hm
  have hI2 := fun x1 hx1 w B hv hm => IH b1 hb1 g vf ve rule (nodeF rule a p).2 x1 (rexV (emb b1).kind (emb b1).cls (.slice kb2 (emb b1).kids.length kc2)) w B hp1 hx1 (by omega) hr64 hv hm
  rw [show nodeF rule (.alt a b1) p = (⟨(nodeF rule a p).1.empty || (nodeF rule b1 (nodeF rule a p).2).1.empty, uni (nodeF rule a p).1.first (nodeF rule b1 (nodeF rule a p).2).1.first, uni (nodeF rule a p).1.last (nodeF rule b1 (nodeF rule a p).2).1.last⟩, (nodeF rule b1 (nodeF rule a p).2).2) from rfl]
  generalize nodeF rule b1 (nodeF rule a p).2 = R2 at *
  generalize nodeF rule a p = R1 at *
  obtain ⟨⟨e1, first1, last1⟩, p1⟩ := R1
  obtain ⟨⟨e2, first2, last2⟩, p2⟩ := R2
  dsimp only at hp1 hp2 hp3 hp4 hp5 kp1 kp2 kp3 kp4 kp5 hI2 ⊢
  unfold mkL at hm
  refine enterB hm (args := [.pointer (some ⟨g, 0, none⟩), rexV 5 C4.zero (.slice (some ⟨b, off, none⟩) 2 ck)]) (n := 176) Try.func13 rfl rfl rfl ?_
  clear hm
  refine T_seq (T_region (TL_box rfl rfl rfl fun g3 => TL_new rfl fun g4 => ?_))
  conv => arg 8; simp only [zA, zB, zC, zD, zE, zF, zG, zH, zI, rowS, ret, id_eq]
  repeat (first
    | refine qv rfl (qp rfl) rfl rfl ?_ | refine TL_nil ?_ | refine T_seq ?_ | refine T_region ?_ | refine qcT rfl ?_ | refine qcF rfl ?_ | refine T_skip ?_
    | refine T_ret ?_ | refine T_block ?_ | refine E_then ?_ | refine E_thenR ?_ | refine E_blockN ?_ | refine E_blockR ?_
    | refine qs rfl rfl rfl rfl rfl rfl ?_
    | ((try refine qg rfl rfl rfl ?_); first | refine qv rfl (qp rfl) rfl rfl ?_ | refine qv rfl (rr_load1 (v := .int .i64 5) TyC.ty rfl (at_blk (i := 6) rfl rfl)) rfl rfl ?_ | refine qv rfl (qlen Und.eq rfl) rfl rfl ?_ | refine qv rfl (qfld FldC.fld rfl rfl) rfl rfl ?_ | refine qv rfl (rr_nilc rfl) rfl rfl ?_ | refine qv rfl (rr_eql rfl rfl (qT (by omega))) rfl rfl ?_ | refine qv rfl (rr_eql rfl rfl (qF (by omega))) rfl rfl ?_))
  (repeat refine T_seq ?_)
  refine T_midq (ι := MIx × Value × Value × Value × Value × Nat × Nat) (fun y => y.1.vs.length = p2.follow.length) (fun y => [(0, .pointer (some ⟨g, 0, none⟩)), (4, .pointer (some ⟨g4, 0, none⟩)), (7, .pointer (some ⟨y.2.2.2.2.2.1, 0, none⟩)), (8, .pointer (some ⟨y.2.2.2.2.2.2, 0, none⟩))])
    (fun y => mkL g vf ve rule y.1 p2 ++ [intR y.2.1 first1, intR y.2.2.1 last1, intR y.2.2.2.1 first2, intR y.2.2.2.2.1 last2, blkO g4 #[.bool false, .slice none 0 0, .slice none 0 0] 56, blkO y.2.2.2.2.2.1 #[.bool e1, y.2.1, y.2.2.1] 56, blkO y.2.2.2.2.2.2 #[.bool e2, y.2.2.2.1, y.2.2.2.2.1] 56]) ?_ ?_
  · refine T_ord ([blkO g3 (rexC 5 C4.zero (.slice (some ⟨b, off, none⟩) 2 ck)).toArray 38]) (.calm 0 (.calm 1 (.calm 2 (.calm 3 (.calm 4 (.calm 6 (.calm 7 (.calm 8 (.calm 9 (.calm 10 (.three 5 (.three 11 (.two 12 (.one 13 (.one 14 (.one 15 (.done)))) 13 (.one 12 (.one 14 (.one 15 (.done))))) 12 (.two 11 (.one 13 (.one 14 (.one 15 (.done)))) 13 (.one 11 (.one 14 (.one 15 (.done))))) 13 (.two 11 (.one 12 (.one 14 (.one 15 (.done)))) 12 (.one 11 (.one 14 (.one 15 (.done)))))) 12 (.two 5 (.two 11 (.one 13 (.one 14 (.one 15 (.done)))) 13 (.one 11 (.one 14 (.one 15 (.done))))) 13 (.one 5 (.one 11 (.one 14 (.one 15 (.done)))))) 13 (.two 5 (.two 11 (.one 12 (.one 14 (.one 15 (.done)))) 12 (.one 11 (.one 14 (.one 15 (.done))))) 12 (.one 5 (.one 11 (.one 14 (.one 15 (.done))))))))))))))))) (sub_pick [6] (by decide) rfl) (by kernel_rfl) (by kernel_rfl) (by intro c a d v w h; cases d <;> exact h) ?_
    repeat (first
      | ((first | refine TW_plain rfl rfl ?_ | refine TW_gmet rfl rfl rfl rfl ?_); first | refine TN_val (qp rfl) rfl rfl ?_ | refine TN_val (rr_load1 (v := .slice (some ⟨b, off, none⟩) 2 ck) TyC.ty rfl (at_blk (i := 0) rfl rfl)) rfl rfl ?_ | refine TN_val (rr_idxc (j := 0) Und.eq TyC.ty rfl rfl (by decide)) rfl rfl ?_ | refine TN_val (rr_idxc (j := 1) Und.eq TyC.ty rfl rfl (by decide)) rfl rfl ?_ | refine TN_val (rr_loadN TyC.ty rfl rfl (hat1 _)) rfl rfl ?_ | refine TN_val (rr_loadN TyC.ty rfl rfl (hat2 _)) rfl rfl ?_ | refine TN_val (qlen Und.eq rfl) rfl rfl ?_ | refine TN_val (qfld FldC.fld rfl rfl) rfl rfl ?_ | refine TN_val (rr_nilc rfl) rfl rfl ?_ | refine TN_val (rr_eql rfl rfl (qT (by omega))) rfl rfl ?_ | refine TN_val (rr_eql rfl rfl (qF (by omega))) rfl rfl ?_)
      | refine TW_skip rfl rfl rfl rfl rfl rfl rfl ?_ | refine TW_done ?_)
    refine TW_three rfl rfl rfl ?_ ?_ ?_
    · refine TL_callB [0, 1, 2, 3, 4, 5] [6, 7] (by decide) rfl rfl (he2 EntersC.en rfl rfl rfl) (fun w hm hb => hI1 w _ (rex_on (hm.pick [0, 1, 2, 3, 4, 5] (by decide) rfl) hkid1) hb) rfl rfl rfl ?_
      rintro ⟨⟨vc1, vr1, vfol1, vl1, vs1, F1⟩, va1, vb1⟩ hx1
      have hx1 : vs1.length = p1.follow.length := hx1
      conv => arg 8; simp only [zA, zB, zC, zD, zE, zF, zG, zH, zI, rowS, ret, id_eq, nodeSp, mkL]
      conv => arg 7; simp only [nodeSp]
      refine TW_on (sub_pick [0] (by decide) rfl) ?_
      refine TW_three rfl rfl rfl ?_ ?_ ?_
      · refine TL_callB [2, 3, 4, 5, 6, 7] [0, 1, 8, 9] (by decide) rfl rfl (he2 EntersC.en rfl rfl rfl) (fun w hm hb => hI2 ⟨vc1, vr1, vfol1, vl1, vs1, F1⟩ hx1 w _ (rex_on (hm.pick [2, 3, 4, 5, 6, 7] (by decide) rfl) hkid2) hb) rfl rfl rfl ?_
        rintro ⟨⟨vc2, vr2, vfol2, vl2, vs2, F2⟩, va2, vb2⟩ hx2
        have hx2 : vs2.length = p2.follow.length := hx2
        conv => arg 8; simp only [zA, zB, zC, zD, zE, zF, zG, zH, zI, rowS, ret, id_eq, nodeSp, mkL]
        conv => arg 7; simp only [nodeSp]
        refine TW_on (sub_pick [0] (by decide) rfl) ?_
        refine TW_two rfl rfl ?_ ?_
        · refine TL_new rfl fun g7 => (TW_on (sub_pick [0] (by decide) rfl) ?_)
          refine TW_one rfl (TL_new rfl fun g8 => (TW_on (sub_pick [0] (by decide) rfl) ?_))
          refine TW_one rfl (TL_slv (i := 2) rfl fun _ qa1 => TL_slv (i := 3) rfl fun _ qb1 => TL_storeB (i := 12) (cs' := #[.bool e1, va1, vb1]) rfl rfl rfl rfl (by simp only [List.all_cons, List.all_nil, qa1, qb1]; rfl) rfl (TW_on (sub_pick [0] (by decide) rfl) ?_))
          repeat (first
            | ((first | refine TW_plain rfl rfl ?_ | refine TW_gmet rfl rfl rfl rfl ?_); first | refine TN_val (qp rfl) rfl rfl ?_ | refine TN_val (qlen Und.eq rfl) rfl rfl ?_ | refine TN_val (qfld FldC.fld rfl rfl) rfl rfl ?_ | refine TN_val (rr_nilc rfl) rfl rfl ?_ | refine TN_val (rr_eql rfl rfl (qT (by omega))) rfl rfl ?_ | refine TN_val (rr_eql rfl rfl (qF (by omega))) rfl rfl ?_)
            | refine TW_skip rfl rfl rfl rfl rfl rfl rfl ?_ | refine TW_done ?_)
          refine TW_one rfl (TL_slv (i := 10) rfl fun _ qa2 => TL_slv (i := 11) rfl fun _ qb2 => TL_storeB (i := 13) (cs' := #[.bool e2, va2, vb2]) rfl rfl rfl rfl (by simp only [List.all_cons, List.all_nil, qa2, qb2]; rfl) rfl (TW_on (sub_pick [0] (by decide) rfl) ?_))
          repeat (first
            | ((first | refine TW_plain rfl rfl ?_ | refine TW_gmet rfl rfl rfl rfl ?_); first | refine TN_val (qp rfl) rfl rfl ?_ | refine TN_val (qlen Und.eq rfl) rfl rfl ?_ | refine TN_val (qfld FldC.fld rfl rfl) rfl rfl ?_ | refine TN_val (rr_nilc rfl) rfl rfl ?_ | refine TN_val (rr_eql rfl rfl (qT (by omega))) rfl rfl ?_ | refine TN_val (rr_eql rfl rfl (qF (by omega))) rfl rfl ?_)
            | refine TW_skip rfl rfl rfl rfl rfl rfl rfl ?_ | refine TW_done ?_)
          refine E_pick [4, 5, 6, 7, 8, 9, 2, 3, 10, 11, 1, 12, 13] (by decide) rfl ?_
          exact E_mid (⟨vc2, vr2, vfol2, vl2, vs2, F2⟩, va1, vb1, va2, vb2, g7, g8) hx2 (by repeat' (first | exact True.intro | refine And.intro rfl ?_)) rfl
        · refine TL_new rfl fun g8 => (TW_on (sub_pick [0] (by decide) rfl) ?_)
          refine TW_one rfl (TL_new rfl fun g7 => (TW_on (sub_pick [0] (by decide) rfl) ?_))
          refine TW_one rfl (TL_slv (i := 2) rfl fun _ qa1 => TL_slv (i := 3) rfl fun _ qb1 => TL_storeB (i := 13) (cs' := #[.bool e1, va1, vb1]) rfl rfl rfl rfl (by simp only [List.all_cons, List.all_nil, qa1, qb1]; rfl) rfl (TW_on (sub_pick [0] (by decide) rfl) ?_))
          repeat (first
            | ((first | refine TW_plain rfl rfl ?_ | refine TW_gmet rfl rfl rfl rfl ?_); first | refine TN_val (qp rfl) rfl rfl ?_ | refine TN_val (qlen Und.eq rfl) rfl rfl ?_ | refine TN_val (qfld FldC.fld rfl rfl) rfl rfl ?_ | refine TN_val (rr_nilc rfl) rfl rfl ?_ | refine TN_val (rr_eql rfl rfl (qT (by omega))) rfl rfl ?_ | refine TN_val (rr_eql rfl rfl (qF (by omega))) rfl rfl ?_)
            | refine TW_skip rfl rfl rfl rfl rfl rfl rfl ?_ | refine TW_done ?_)
          refine TW_one rfl (TL_slv (i := 10) rfl fun _ qa2 => TL_slv (i := 11) rfl fun _ qb2 => TL_storeB (i := 12) (cs' := #[.bool e2, va2, vb2]) rfl rfl rfl rfl (by simp only [List.all_cons, List.all_nil, qa2, qb2]; rfl) rfl (TW_on (sub_pick [0] (by decide) rfl) ?_))
          repeat (first
            | ((first | refine TW_plain rfl rfl ?_ | refine TW_gmet rfl rfl rfl rfl ?_); first | refine TN_val (qp rfl) rfl rfl ?_ | refine TN_val (qlen Und.eq rfl) rfl rfl ?_ | refine TN_val (qfld FldC.fld rfl rfl) rfl rfl ?_ | refine TN_val (rr_nilc rfl) rfl rfl ?_ | refine TN_val (rr_eql rfl rfl (qT (by omega))) rfl rfl ?_ | refine TN_val (rr_eql rfl rfl (qF (by omega))) rfl rfl ?_)
            | refine TW_skip rfl rfl rfl rfl rfl rfl rfl ?_ | refine TW_done ?_)
          refine E_pick [4, 5, 6, 7, 8, 9, 2, 3, 10, 11, 1, 13, 12] (by decide) rfl ?_
          exact E_mid (⟨vc2, vr2, vfol2, vl2, vs2, F2⟩, va1, vb1, va2, vb2, g7, g8) hx2 (by repeat' (first | exact True.intro | refine And.intro rfl ?_)) rfl
      · refine TL_new rfl fun g7 => (TW_on (sub_pick [0] (by decide) rfl) ?_)
        refine TW_two rfl rfl ?_ ?_
        · refine TL_callB [2, 3, 4, 5, 6, 7] [0, 1, 8, 9, 10] (by decide) rfl rfl (he2 EntersC.en rfl rfl rfl) (fun w hm hb => hI2 ⟨vc1, vr1, vfol1, vl1, vs1, F1⟩ hx1 w _ (rex_on (hm.pick [2, 3, 4, 5, 6, 7] (by decide) rfl) hkid2) hb) rfl rfl rfl ?_
          rintro ⟨⟨vc2, vr2, vfol2, vl2, vs2, F2⟩, va2, vb2⟩ hx2
          have hx2 : vs2.length = p2.follow.length := hx2
          conv => arg 8; simp only [zA, zB, zC, zD, zE, zF, zG, zH, zI, rowS, ret, id_eq, nodeSp, mkL]
          conv => arg 7; simp only [nodeSp]
          refine TW_on (sub_pick [0] (by decide) rfl) ?_
          refine TW_one rfl (TL_new rfl fun g8 => (TW_on (sub_pick [0] (by decide) rfl) ?_))
          refine TW_one rfl (TL_slv (i := 2) rfl fun _ qa1 => TL_slv (i := 3) rfl fun _ qb1 => TL_storeB (i := 4) (cs' := #[.bool e1, va1, vb1]) rfl rfl rfl rfl (by simp only [List.all_cons, List.all_nil, qa1, qb1]; rfl) rfl (TW_on (sub_pick [0] (by decide) rfl) ?_))
          repeat (first
            | ((first | refine TW_plain rfl rfl ?_ | refine TW_gmet rfl rfl rfl rfl ?_); first | refine TN_val (qp rfl) rfl rfl ?_ | refine TN_val (qlen Und.eq rfl) rfl rfl ?_ | refine TN_val (qfld FldC.fld rfl rfl) rfl rfl ?_ | refine TN_val (rr_nilc rfl) rfl rfl ?_ | refine TN_val (rr_eql rfl rfl (qT (by omega))) rfl rfl ?_ | refine TN_val (rr_eql rfl rfl (qF (by omega))) rfl rfl ?_)
            | refine TW_skip rfl rfl rfl rfl rfl rfl rfl ?_ | refine TW_done ?_)
          refine TW_one rfl (TL_slv (i := 11) rfl fun _ qa2 => TL_slv (i := 12) rfl fun _ qb2 => TL_storeB (i := 13) (cs' := #[.bool e2, va2, vb2]) rfl rfl rfl rfl (by simp only [List.all_cons, List.all_nil, qa2, qb2]; rfl) rfl (TW_on (sub_pick [0] (by decide) rfl) ?_))
          repeat (first
            | ((first | refine TW_plain rfl rfl ?_ | refine TW_gmet rfl rfl rfl rfl ?_); first | refine TN_val (qp rfl) rfl rfl ?_ | refine TN_val (qlen Und.eq rfl) rfl rfl ?_ | refine TN_val (qfld FldC.fld rfl rfl) rfl rfl ?_ | refine TN_val (rr_nilc rfl) rfl rfl ?_ | refine TN_val (rr_eql rfl rfl (qT (by omega))) rfl rfl ?_ | refine TN_val (rr_eql rfl rfl (qF (by omega))) rfl rfl ?_)
            | refine TW_skip rfl rfl rfl rfl rfl rfl rfl ?_ | refine TW_done ?_)
          refine E_pick [5, 6, 7, 8, 9, 10, 2, 3, 11, 12, 1, 4, 13] (by decide) rfl ?_
          exact E_mid (⟨vc2, vr2, vfol2, vl2, vs2, F2⟩, va1, vb1, va2, vb2, g7, g8) hx2 (by repeat' (first | exact True.intro | refine And.intro rfl ?_)) rfl
        · refine TL_new rfl fun g8 => (TW_on (sub_pick [0] (by decide) rfl) ?_)
          refine TW_one rfl (TL_callB [2, 3, 4, 5, 6, 7] [0, 1, 8, 9, 10, 11] (by decide) rfl rfl (he2 EntersC.en rfl rfl rfl) (fun w hm hb => hI2 ⟨vc1, vr1, vfol1, vl1, vs1, F1⟩ hx1 w _ (rex_on (hm.pick [2, 3, 4, 5, 6, 7] (by decide) rfl) hkid2) hb) rfl rfl rfl ?_)
          rintro ⟨⟨vc2, vr2, vfol2, vl2, vs2, F2⟩, va2, vb2⟩ hx2
          have hx2 : vs2.length = p2.follow.length := hx2
          conv => arg 8; simp only [zA, zB, zC, zD, zE, zF, zG, zH, zI, rowS, ret, id_eq, nodeSp, mkL]
          conv => arg 7; simp only [nodeSp]
          refine TW_on (sub_pick [0] (by decide) rfl) ?_
          refine TW_one rfl (TL_slv (i := 2) rfl fun _ qa1 => TL_slv (i := 3) rfl fun _ qb1 => TL_storeB (i := 4) (cs' := #[.bool e1, va1, vb1]) rfl rfl rfl rfl (by simp only [List.all_cons, List.all_nil, qa1, qb1]; rfl) rfl (TW_on (sub_pick [0] (by decide) rfl) ?_))
          repeat (first
            | ((first | refine TW_plain rfl rfl ?_ | refine TW_gmet rfl rfl rfl rfl ?_); first | refine TN_val (qp rfl) rfl rfl ?_ | refine TN_val (qlen Und.eq rfl) rfl rfl ?_ | refine TN_val (qfld FldC.fld rfl rfl) rfl rfl ?_ | refine TN_val (rr_nilc rfl) rfl rfl ?_ | refine TN_val (rr_eql rfl rfl (qT (by omega))) rfl rfl ?_ | refine TN_val (rr_eql rfl rfl (qF (by omega))) rfl rfl ?_)
            | refine TW_skip rfl rfl rfl rfl rfl rfl rfl ?_ | refine TW_done ?_)
          refine TW_one rfl (TL_slv (i := 12) rfl fun _ qa2 => TL_slv (i := 13) rfl fun _ qb2 => TL_storeB (i := 5) (cs' := #[.bool e2, va2, vb2]) rfl rfl rfl rfl (by simp only [List.all_cons, List.all_nil, qa2, qb2]; rfl) rfl (TW_on (sub_pick [0] (by decide) rfl) ?_))
          repeat (first
            | ((first | refine TW_plain rfl rfl ?_ | refine TW_gmet rfl rfl rfl rfl ?_); first | refine TN_val (qp rfl) rfl rfl ?_ | refine TN_val (qlen Und.eq rfl) rfl rfl ?_ | refine TN_val (qfld FldC.fld rfl rfl) rfl rfl ?_ | refine TN_val (rr_nilc rfl) rfl rfl ?_ | refine TN_val (rr_eql rfl rfl (qT (by omega))) rfl rfl ?_ | refine TN_val (rr_eql rfl rfl (qF (by omega))) rfl rfl ?_)
            | refine TW_skip rfl rfl rfl rfl rfl rfl rfl ?_ | refine TW_done ?_)
          refine E_pick [6, 7, 8, 9, 10, 11, 2, 3, 12, 13, 1, 4, 5] (by decide) rfl ?_
          exact E_mid (⟨vc2, vr2, vfol2, vl2, vs2, F2⟩, va1, vb1, va2, vb2, g7, g8) hx2 (by repeat' (first | exact True.intro | refine And.intro rfl ?_)) rfl
      · refine TL_new rfl fun g8 => (TW_on (sub_pick [0] (by decide) rfl) ?_)
        refine TW_two rfl rfl ?_ ?_
        · refine TL_callB [2, 3, 4, 5, 6, 7] [0, 1, 8, 9, 10] (by decide) rfl rfl (he2 EntersC.en rfl rfl rfl) (fun w hm hb => hI2 ⟨vc1, vr1, vfol1, vl1, vs1, F1⟩ hx1 w _ (rex_on (hm.pick [2, 3, 4, 5, 6, 7] (by decide) rfl) hkid2) hb) rfl rfl rfl ?_
          rintro ⟨⟨vc2, vr2, vfol2, vl2, vs2, F2⟩, va2, vb2⟩ hx2
          have hx2 : vs2.length = p2.follow.length := hx2
          conv => arg 8; simp only [zA, zB, zC, zD, zE, zF, zG, zH, zI, rowS, ret, id_eq, nodeSp, mkL]
          conv => arg 7; simp only [nodeSp]
          refine TW_on (sub_pick [0] (by decide) rfl) ?_
          refine TW_one rfl (TL_new rfl fun g7 => (TW_on (sub_pick [0] (by decide) rfl) ?_))
          refine TW_one rfl (TL_slv (i := 2) rfl fun _ qa1 => TL_slv (i := 3) rfl fun _ qb1 => TL_storeB (i := 13) (cs' := #[.bool e1, va1, vb1]) rfl rfl rfl rfl (by simp only [List.all_cons, List.all_nil, qa1, qb1]; rfl) rfl (TW_on (sub_pick [0] (by decide) rfl) ?_))
          repeat (first
            | ((first | refine TW_plain rfl rfl ?_ | refine TW_gmet rfl rfl rfl rfl ?_); first | refine TN_val (qp rfl) rfl rfl ?_ | refine TN_val (qlen Und.eq rfl) rfl rfl ?_ | refine TN_val (qfld FldC.fld rfl rfl) rfl rfl ?_ | refine TN_val (rr_nilc rfl) rfl rfl ?_ | refine TN_val (rr_eql rfl rfl (qT (by omega))) rfl rfl ?_ | refine TN_val (rr_eql rfl rfl (qF (by omega))) rfl rfl ?_)
            | refine TW_skip rfl rfl rfl rfl rfl rfl rfl ?_ | refine TW_done ?_)
          refine TW_one rfl (TL_slv (i := 11) rfl fun _ qa2 => TL_slv (i := 12) rfl fun _ qb2 => TL_storeB (i := 4) (cs' := #[.bool e2, va2, vb2]) rfl rfl rfl rfl (by simp only [List.all_cons, List.all_nil, qa2, qb2]; rfl) rfl (TW_on (sub_pick [0] (by decide) rfl) ?_))
          repeat (first
            | ((first | refine TW_plain rfl rfl ?_ | refine TW_gmet rfl rfl rfl rfl ?_); first | refine TN_val (qp rfl) rfl rfl ?_ | refine TN_val (qlen Und.eq rfl) rfl rfl ?_ | refine TN_val (qfld FldC.fld rfl rfl) rfl rfl ?_ | refine TN_val (rr_nilc rfl) rfl rfl ?_ | refine TN_val (rr_eql rfl rfl (qT (by omega))) rfl rfl ?_ | refine TN_val (rr_eql rfl rfl (qF (by omega))) rfl rfl ?_)
            | refine TW_skip rfl rfl rfl rfl rfl rfl rfl ?_ | refine TW_done ?_)
          refine E_pick [5, 6, 7, 8, 9, 10, 2, 3, 11, 12, 1, 13, 4] (by decide) rfl ?_
          exact E_mid (⟨vc2, vr2, vfol2, vl2, vs2, F2⟩, va1, vb1, va2, vb2, g7, g8) hx2 (by repeat' (first | exact True.intro | refine And.intro rfl ?_)) rfl
        · refine TL_new rfl fun g7 => (TW_on (sub_pick [0] (by decide) rfl) ?_)
          refine TW_one rfl (TL_callB [2, 3, 4, 5, 6, 7] [0, 1, 8, 9, 10, 11] (by decide) rfl rfl (he2 EntersC.en rfl rfl rfl) (fun w hm hb => hI2 ⟨vc1, vr1, vfol1, vl1, vs1, F1⟩ hx1 w _ (rex_on (hm.pick [2, 3, 4, 5, 6, 7] (by decide) rfl) hkid2) hb) rfl rfl rfl ?_)
          rintro ⟨⟨vc2, vr2, vfol2, vl2, vs2, F2⟩, va2, vb2⟩ hx2
          have hx2 : vs2.length = p2.follow.length := hx2
          conv => arg 8; simp only [zA, zB, zC, zD, zE, zF, zG, zH, zI, rowS, ret, id_eq, nodeSp, mkL]
          conv => arg 7; simp only [nodeSp]
          refine TW_on (sub_pick [0] (by decide) rfl) ?_
          refine TW_one rfl (TL_slv (i := 2) rfl fun _ qa1 => TL_slv (i := 3) rfl fun _ qb1 => TL_storeB (i := 5) (cs' := #[.bool e1, va1, vb1]) rfl rfl rfl rfl (by simp only [List.all_cons, List.all_nil, qa1, qb1]; rfl) rfl (TW_on (sub_pick [0] (by decide) rfl) ?_))
          repeat (first
            | ((first | refine TW_plain rfl rfl ?_ | refine TW_gmet rfl rfl rfl rfl ?_); first | refine TN_val (qp rfl) rfl rfl ?_ | refine TN_val (qlen Und.eq rfl) rfl rfl ?_ | refine TN_val (qfld FldC.fld rfl rfl) rfl rfl ?_ | refine TN_val (rr_nilc rfl) rfl rfl ?_ | refine TN_val (rr_eql rfl rfl (qT (by omega))) rfl rfl ?_ | refine TN_val (rr_eql rfl rfl (qF (by omega))) rfl rfl ?_)
            | refine TW_skip rfl rfl rfl rfl rfl rfl rfl ?_ | refine TW_done ?_)
          refine TW_one rfl (TL_slv (i := 12) rfl fun _ qa2 => TL_slv (i := 13) rfl fun _ qb2 => TL_storeB (i := 4) (cs' := #[.bool e2, va2, vb2]) rfl rfl rfl rfl (by simp only [List.all_cons, List.all_nil, qa2, qb2]; rfl) rfl (TW_on (sub_pick [0] (by decide) rfl) ?_))
          repeat (first
            | ((first | refine TW_plain rfl rfl ?_ | refine TW_gmet rfl rfl rfl rfl ?_); first | refine TN_val (qp rfl) rfl rfl ?_ | refine TN_val (qlen Und.eq rfl) rfl rfl ?_ | refine TN_val (qfld FldC.fld rfl rfl) rfl rfl ?_ | refine TN_val (rr_nilc rfl) rfl rfl ?_ | refine TN_val (rr_eql rfl rfl (qT (by omega))) rfl rfl ?_ | refine TN_val (rr_eql rfl rfl (qF (by omega))) rfl rfl ?_)
            | refine TW_skip rfl rfl rfl rfl rfl rfl rfl ?_ | refine TW_done ?_)
          refine E_pick [6, 7, 8, 9, 10, 11, 2, 3, 12, 13, 1, 5, 4] (by decide) rfl ?_
          exact E_mid (⟨vc2, vr2, vfol2, vl2, vs2, F2⟩, va1, vb1, va2, vb2, g7, g8) hx2 (by repeat' (first | exact True.intro | refine And.intro rfl ?_)) rfl
    · refine TL_new rfl fun g7 => (TW_on (sub_pick [6] (by decide) rfl) ?_)
      refine TW_two rfl rfl ?_ ?_
      · refine TL_callB [0, 1, 2, 3, 4, 5] [6, 7, 8] (by decide) rfl rfl (he2 EntersC.en rfl rfl rfl) (fun w hm hb => hI1 w _ (rex_on (hm.pick [0, 1, 2, 3, 4, 5] (by decide) rfl) hkid1) hb) rfl rfl rfl ?_
        rintro ⟨⟨vc1, vr1, vfol1, vl1, vs1, F1⟩, va1, vb1⟩ hx1
        have hx1 : vs1.length = p1.follow.length := hx1
        conv => arg 8; simp only [zA, zB, zC, zD, zE, zF, zG, zH, zI, rowS, ret, id_eq, nodeSp, mkL]
        conv => arg 7; simp only [nodeSp]
        refine TW_on (sub_pick [0] (by decide) rfl) ?_
        refine TW_two rfl rfl ?_ ?_
        · refine TL_callB [3, 4, 5, 6, 7, 8] [0, 1, 2, 9, 10] (by decide) rfl rfl (he2 EntersC.en rfl rfl rfl) (fun w hm hb => hI2 ⟨vc1, vr1, vfol1, vl1, vs1, F1⟩ hx1 w _ (rex_on (hm.pick [3, 4, 5, 6, 7, 8] (by decide) rfl) hkid2) hb) rfl rfl rfl ?_
          rintro ⟨⟨vc2, vr2, vfol2, vl2, vs2, F2⟩, va2, vb2⟩ hx2
          have hx2 : vs2.length = p2.follow.length := hx2
          conv => arg 8; simp only [zA, zB, zC, zD, zE, zF, zG, zH, zI, rowS, ret, id_eq, nodeSp, mkL]
          conv => arg 7; simp only [nodeSp]
          refine TW_on (sub_pick [0] (by decide) rfl) ?_
          refine TW_one rfl (TL_new rfl fun g8 => (TW_on (sub_pick [0] (by decide) rfl) ?_))
          refine TW_one rfl (TL_slv (i := 3) rfl fun _ qa1 => TL_slv (i := 4) rfl fun _ qb1 => TL_storeB (i := 2) (cs' := #[.bool e1, va1, vb1]) rfl rfl rfl rfl (by simp only [List.all_cons, List.all_nil, qa1, qb1]; rfl) rfl (TW_on (sub_pick [0] (by decide) rfl) ?_))
          repeat (first
            | ((first | refine TW_plain rfl rfl ?_ | refine TW_gmet rfl rfl rfl rfl ?_); first | refine TN_val (qp rfl) rfl rfl ?_ | refine TN_val (qlen Und.eq rfl) rfl rfl ?_ | refine TN_val (qfld FldC.fld rfl rfl) rfl rfl ?_ | refine TN_val (rr_nilc rfl) rfl rfl ?_ | refine TN_val (rr_eql rfl rfl (qT (by omega))) rfl rfl ?_ | refine TN_val (rr_eql rfl rfl (qF (by omega))) rfl rfl ?_)
            | refine TW_skip rfl rfl rfl rfl rfl rfl rfl ?_ | refine TW_done ?_)
          refine TW_one rfl (TL_slv (i := 11) rfl fun _ qa2 => TL_slv (i := 12) rfl fun _ qb2 => TL_storeB (i := 13) (cs' := #[.bool e2, va2, vb2]) rfl rfl rfl rfl (by simp only [List.all_cons, List.all_nil, qa2, qb2]; rfl) rfl (TW_on (sub_pick [0] (by decide) rfl) ?_))
          repeat (first
            | ((first | refine TW_plain rfl rfl ?_ | refine TW_gmet rfl rfl rfl rfl ?_); first | refine TN_val (qp rfl) rfl rfl ?_ | refine TN_val (qlen Und.eq rfl) rfl rfl ?_ | refine TN_val (qfld FldC.fld rfl rfl) rfl rfl ?_ | refine TN_val (rr_nilc rfl) rfl rfl ?_ | refine TN_val (rr_eql rfl rfl (qT (by omega))) rfl rfl ?_ | refine TN_val (rr_eql rfl rfl (qF (by omega))) rfl rfl ?_)
            | refine TW_skip rfl rfl rfl rfl rfl rfl rfl ?_ | refine TW_done ?_)
          refine E_pick [5, 6, 7, 8, 9, 10, 3, 4, 11, 12, 1, 2, 13] (by decide) rfl ?_
          exact E_mid (⟨vc2, vr2, vfol2, vl2, vs2, F2⟩, va1, vb1, va2, vb2, g7, g8) hx2 (by repeat' (first | exact True.intro | refine And.intro rfl ?_)) rfl
        · refine TL_new rfl fun g8 => (TW_on (sub_pick [0] (by decide) rfl) ?_)
          refine TW_one rfl (TL_callB [3, 4, 5, 6, 7, 8] [0, 1, 2, 9, 10, 11] (by decide) rfl rfl (he2 EntersC.en rfl rfl rfl) (fun w hm hb => hI2 ⟨vc1, vr1, vfol1, vl1, vs1, F1⟩ hx1 w _ (rex_on (hm.pick [3, 4, 5, 6, 7, 8] (by decide) rfl) hkid2) hb) rfl rfl rfl ?_)
          rintro ⟨⟨vc2, vr2, vfol2, vl2, vs2, F2⟩, va2, vb2⟩ hx2
          have hx2 : vs2.length = p2.follow.length := hx2
          conv => arg 8; simp only [zA, zB, zC, zD, zE, zF, zG, zH, zI, rowS, ret, id_eq, nodeSp, mkL]
          conv => arg 7; simp only [nodeSp]
          refine TW_on (sub_pick [0] (by decide) rfl) ?_
          refine TW_one rfl (TL_slv (i := 3) rfl fun _ qa1 => TL_slv (i := 4) rfl fun _ qb1 => TL_storeB (i := 2) (cs' := #[.bool e1, va1, vb1]) rfl rfl rfl rfl (by simp only [List.all_cons, List.all_nil, qa1, qb1]; rfl) rfl (TW_on (sub_pick [0] (by decide) rfl) ?_))
          repeat (first
            | ((first | refine TW_plain rfl rfl ?_ | refine TW_gmet rfl rfl rfl rfl ?_); first | refine TN_val (qp rfl) rfl rfl ?_ | refine TN_val (qlen Und.eq rfl) rfl rfl ?_ | refine TN_val (qfld FldC.fld rfl rfl) rfl rfl ?_ | refine TN_val (rr_nilc rfl) rfl rfl ?_ | refine TN_val (rr_eql rfl rfl (qT (by omega))) rfl rfl ?_ | refine TN_val (rr_eql rfl rfl (qF (by omega))) rfl rfl ?_)
            | refine TW_skip rfl rfl rfl rfl rfl rfl rfl ?_ | refine TW_done ?_)
          refine TW_one rfl (TL_slv (i := 12) rfl fun _ qa2 => TL_slv (i := 13) rfl fun _ qb2 => TL_storeB (i := 5) (cs' := #[.bool e2, va2, vb2]) rfl rfl rfl rfl (by simp only [List.all_cons, List.all_nil, qa2, qb2]; rfl) rfl (TW_on (sub_pick [0] (by decide) rfl) ?_))
          repeat (first
            | ((first | refine TW_plain rfl rfl ?_ | refine TW_gmet rfl rfl rfl rfl ?_); first | refine TN_val (qp rfl) rfl rfl ?_ | refine TN_val (qlen Und.eq rfl) rfl rfl ?_ | refine TN_val (qfld FldC.fld rfl rfl) rfl rfl ?_ | refine TN_val (rr_nilc rfl) rfl rfl ?_ | refine TN_val (rr_eql rfl rfl (qT (by omega))) rfl rfl ?_ | refine TN_val (rr_eql rfl rfl (qF (by omega))) rfl rfl ?_)
            | refine TW_skip rfl rfl rfl rfl rfl rfl rfl ?_ | refine TW_done ?_)
          refine E_pick [6, 7, 8, 9, 10, 11, 3, 4, 12, 13, 1, 2, 5] (by decide) rfl ?_
          exact E_mid (⟨vc2, vr2, vfol2, vl2, vs2, F2⟩, va1, vb1, va2, vb2, g7, g8) hx2 (by repeat' (first | exact True.intro | refine And.intro rfl ?_)) rfl
      · refine TL_new rfl fun g8 => (TW_on (sub_pick [6] (by decide) rfl) ?_)
        refine TW_one rfl (TL_callB [0, 1, 2, 3, 4, 5] [6, 7, 8, 9] (by decide) rfl rfl (he2 EntersC.en rfl rfl rfl) (fun w hm hb => hI1 w _ (rex_on (hm.pick [0, 1, 2, 3, 4, 5] (by decide) rfl) hkid1) hb) rfl rfl rfl ?_)
        rintro ⟨⟨vc1, vr1, vfol1, vl1, vs1, F1⟩, va1, vb1⟩ hx1
        have hx1 : vs1.length = p1.follow.length := hx1
        conv => arg 8; simp only [zA, zB, zC, zD, zE, zF, zG, zH, zI, rowS, ret, id_eq, nodeSp, mkL]
        conv => arg 7; simp only [nodeSp]
        refine TW_on (sub_pick [0] (by decide) rfl) ?_
        refine TW_one rfl (TL_callB [4, 5, 6, 7, 8, 9] [0, 1, 2, 3, 10, 11] (by decide) rfl rfl (he2 EntersC.en rfl rfl rfl) (fun w hm hb => hI2 ⟨vc1, vr1, vfol1, vl1, vs1, F1⟩ hx1 w _ (rex_on (hm.pick [4, 5, 6, 7, 8, 9] (by decide) rfl) hkid2) hb) rfl rfl rfl ?_)
        rintro ⟨⟨vc2, vr2, vfol2, vl2, vs2, F2⟩, va2, vb2⟩ hx2
        have hx2 : vs2.length = p2.follow.length := hx2
        conv => arg 8; simp only [zA, zB, zC, zD, zE, zF, zG, zH, zI, rowS, ret, id_eq, nodeSp, mkL]
        conv => arg 7; simp only [nodeSp]
        refine TW_on (sub_pick [0] (by decide) rfl) ?_
        refine TW_one rfl (TL_slv (i := 4) rfl fun _ qa1 => TL_slv (i := 5) rfl fun _ qb1 => TL_storeB (i := 2) (cs' := #[.bool e1, va1, vb1]) rfl rfl rfl rfl (by simp only [List.all_cons, List.all_nil, qa1, qb1]; rfl) rfl (TW_on (sub_pick [0] (by decide) rfl) ?_))
        repeat (first
          | ((first | refine TW_plain rfl rfl ?_ | refine TW_gmet rfl rfl rfl rfl ?_); first | refine TN_val (qp rfl) rfl rfl ?_ | refine TN_val (qlen Und.eq rfl) rfl rfl ?_ | refine TN_val (qfld FldC.fld rfl rfl) rfl rfl ?_ | refine TN_val (rr_nilc rfl) rfl rfl ?_ | refine TN_val (rr_eql rfl rfl (qT (by omega))) rfl rfl ?_ | refine TN_val (rr_eql rfl rfl (qF (by omega))) rfl rfl ?_)
          | refine TW_skip rfl rfl rfl rfl rfl rfl rfl ?_ | refine TW_done ?_)
        refine TW_one rfl (TL_slv (i := 12) rfl fun _ qa2 => TL_slv (i := 13) rfl fun _ qb2 => TL_storeB (i := 3) (cs' := #[.bool e2, va2, vb2]) rfl rfl rfl rfl (by simp only [List.all_cons, List.all_nil, qa2, qb2]; rfl) rfl (TW_on (sub_pick [0] (by decide) rfl) ?_))
        repeat (first
          | ((first | refine TW_plain rfl rfl ?_ | refine TW_gmet rfl rfl rfl rfl ?_); first | refine TN_val (qp rfl) rfl rfl ?_ | refine TN_val (qlen Und.eq rfl) rfl rfl ?_ | refine TN_val (qfld FldC.fld rfl rfl) rfl rfl ?_ | refine TN_val (rr_nilc rfl) rfl rfl ?_ | refine TN_val (rr_eql rfl rfl (qT (by omega))) rfl rfl ?_ | refine TN_val (rr_eql rfl rfl (qF (by omega))) rfl rfl ?_)
          | refine TW_skip rfl rfl rfl rfl rfl rfl rfl ?_ | refine TW_done ?_)
        refine E_pick [6, 7, 8, 9, 10, 11, 4, 5, 12, 13, 1, 2, 3] (by decide) rfl ?_
        exact E_mid (⟨vc2, vr2, vfol2, vl2, vs2, F2⟩, va1, vb1, va2, vb2, g7, g8) hx2 (by repeat' (first | exact True.intro | refine And.intro rfl ?_)) rfl
    · refine TL_new rfl fun g8 => (TW_on (sub_pick [6] (by decide) rfl) ?_)
      refine TW_two rfl rfl ?_ ?_
      · refine TL_callB [0, 1, 2, 3, 4, 5] [6, 7, 8] (by decide) rfl rfl (he2 EntersC.en rfl rfl rfl) (fun w hm hb => hI1 w _ (rex_on (hm.pick [0, 1, 2, 3, 4, 5] (by decide) rfl) hkid1) hb) rfl rfl rfl ?_
        rintro ⟨⟨vc1, vr1, vfol1, vl1, vs1, F1⟩, va1, vb1⟩ hx1
        have hx1 : vs1.length = p1.follow.length := hx1
        conv => arg 8; simp only [zA, zB, zC, zD, zE, zF, zG, zH, zI, rowS, ret, id_eq, nodeSp, mkL]
        conv => arg 7; simp only [nodeSp]
        refine TW_on (sub_pick [0] (by decide) rfl) ?_
        refine TW_two rfl rfl ?_ ?_
        · refine TL_callB [3, 4, 5, 6, 7, 8] [0, 1, 2, 9, 10] (by decide) rfl rfl (he2 EntersC.en rfl rfl rfl) (fun w hm hb => hI2 ⟨vc1, vr1, vfol1, vl1, vs1, F1⟩ hx1 w _ (rex_on (hm.pick [3, 4, 5, 6, 7, 8] (by decide) rfl) hkid2) hb) rfl rfl rfl ?_
          rintro ⟨⟨vc2, vr2, vfol2, vl2, vs2, F2⟩, va2, vb2⟩ hx2
          have hx2 : vs2.length = p2.follow.length := hx2
          conv => arg 8; simp only [zA, zB, zC, zD, zE, zF, zG, zH, zI, rowS, ret, id_eq, nodeSp, mkL]
          conv => arg 7; simp only [nodeSp]
          refine TW_on (sub_pick [0] (by decide) rfl) ?_
          refine TW_one rfl (TL_new rfl fun g7 => (TW_on (sub_pick [0] (by decide) rfl) ?_))
          refine TW_one rfl (TL_slv (i := 3) rfl fun _ qa1 => TL_slv (i := 4) rfl fun _ qb1 => TL_storeB (i := 13) (cs' := #[.bool e1, va1, vb1]) rfl rfl rfl rfl (by simp only [List.all_cons, List.all_nil, qa1, qb1]; rfl) rfl (TW_on (sub_pick [0] (by decide) rfl) ?_))
          repeat (first
            | ((first | refine TW_plain rfl rfl ?_ | refine TW_gmet rfl rfl rfl rfl ?_); first | refine TN_val (qp rfl) rfl rfl ?_ | refine TN_val (qlen Und.eq rfl) rfl rfl ?_ | refine TN_val (qfld FldC.fld rfl rfl) rfl rfl ?_ | refine TN_val (rr_nilc rfl) rfl rfl ?_ | refine TN_val (rr_eql rfl rfl (qT (by omega))) rfl rfl ?_ | refine TN_val (rr_eql rfl rfl (qF (by omega))) rfl rfl ?_)
            | refine TW_skip rfl rfl rfl rfl rfl rfl rfl ?_ | refine TW_done ?_)
          refine TW_one rfl (TL_slv (i := 11) rfl fun _ qa2 => TL_slv (i := 12) rfl fun _ qb2 => TL_storeB (i := 2) (cs' := #[.bool e2, va2, vb2]) rfl rfl rfl rfl (by simp only [List.all_cons, List.all_nil, qa2, qb2]; rfl) rfl (TW_on (sub_pick [0] (by decide) rfl) ?_))
          repeat (first
            | ((first | refine TW_plain rfl rfl ?_ | refine TW_gmet rfl rfl rfl rfl ?_); first | refine TN_val (qp rfl) rfl rfl ?_ | refine TN_val (qlen Und.eq rfl) rfl rfl ?_ | refine TN_val (qfld FldC.fld rfl rfl) rfl rfl ?_ | refine TN_val (rr_nilc rfl) rfl rfl ?_ | refine TN_val (rr_eql rfl rfl (qT (by omega))) rfl rfl ?_ | refine TN_val (rr_eql rfl rfl (qF (by omega))) rfl rfl ?_)
            | refine TW_skip rfl rfl rfl rfl rfl rfl rfl ?_ | refine TW_done ?_)
          refine E_pick [5, 6, 7, 8, 9, 10, 3, 4, 11, 12, 1, 13, 2] (by decide) rfl ?_
          exact E_mid (⟨vc2, vr2, vfol2, vl2, vs2, F2⟩, va1, vb1, va2, vb2, g7, g8) hx2 (by repeat' (first | exact True.intro | refine And.intro rfl ?_)) rfl
        · refine TL_new rfl fun g7 => (TW_on (sub_pick [0] (by decide) rfl) ?_)
          refine TW_one rfl (TL_callB [3, 4, 5, 6, 7, 8] [0, 1, 2, 9, 10, 11] (by decide) rfl rfl (he2 EntersC.en rfl rfl rfl) (fun w hm hb => hI2 ⟨vc1, vr1, vfol1, vl1, vs1, F1⟩ hx1 w _ (rex_on (hm.pick [3, 4, 5, 6, 7, 8] (by decide) rfl) hkid2) hb) rfl rfl rfl ?_)
          rintro ⟨⟨vc2, vr2, vfol2, vl2, vs2, F2⟩, va2, vb2⟩ hx2
          have hx2 : vs2.length = p2.follow.length := hx2
          conv => arg 8; simp only [zA, zB, zC, zD, zE, zF, zG, zH, zI, rowS, ret, id_eq, nodeSp, mkL]
          conv => arg 7; simp only [nodeSp]
          refine TW_on (sub_pick [0] (by decide) rfl) ?_
          refine TW_one rfl (TL_slv (i := 3) rfl fun _ qa1 => TL_slv (i := 4) rfl fun _ qb1 => TL_storeB (i := 5) (cs' := #[.bool e1, va1, vb1]) rfl rfl rfl rfl (by simp only [List.all_cons, List.all_nil, qa1, qb1]; rfl) rfl (TW_on (sub_pick [0] (by decide) rfl) ?_))
          repeat (first
            | ((first | refine TW_plain rfl rfl ?_ | refine TW_gmet rfl rfl rfl rfl ?_); first | refine TN_val (qp rfl) rfl rfl ?_ | refine TN_val (qlen Und.eq rfl) rfl rfl ?_ | refine TN_val (qfld FldC.fld rfl rfl) rfl rfl ?_ | refine TN_val (rr_nilc rfl) rfl rfl ?_ | refine TN_val (rr_eql rfl rfl (qT (by omega))) rfl rfl ?_ | refine TN_val (rr_eql rfl rfl (qF (by omega))) rfl rfl ?_)
            | refine TW_skip rfl rfl rfl rfl rfl rfl rfl ?_ | refine TW_done ?_)
          refine TW_one rfl (TL_slv (i := 12) rfl fun _ qa2 => TL_slv (i := 13) rfl fun _ qb2 => TL_storeB (i := 2) (cs' := #[.bool e2, va2, vb2]) rfl rfl rfl rfl (by simp only [List.all_cons, List.all_nil, qa2, qb2]; rfl) rfl (TW_on (sub_pick [0] (by decide) rfl) ?_))
          repeat (first
            | ((first | refine TW_plain rfl rfl ?_ | refine TW_gmet rfl rfl rfl rfl ?_); first | refine TN_val (qp rfl) rfl rfl ?_ | refine TN_val (qlen Und.eq rfl) rfl rfl ?_ | refine TN_val (qfld FldC.fld rfl rfl) rfl rfl ?_ | refine TN_val (rr_nilc rfl) rfl rfl ?_ | refine TN_val (rr_eql rfl rfl (qT (by omega))) rfl rfl ?_ | refine TN_val (rr_eql rfl rfl (qF (by omega))) rfl rfl ?_)
            | refine TW_skip rfl rfl rfl rfl rfl rfl rfl ?_ | refine TW_done ?_)
          refine E_pick [6, 7, 8, 9, 10, 11, 3, 4, 12, 13, 1, 5, 2] (by decide) rfl ?_
          exact E_mid (⟨vc2, vr2, vfol2, vl2, vs2, F2⟩, va1, vb1, va2, vb2, g7, g8) hx2 (by repeat' (first | exact True.intro | refine And.intro rfl ?_)) rfl
      · refine TL_new rfl fun g7 => (TW_on (sub_pick [6] (by decide) rfl) ?_)
        refine TW_one rfl (TL_callB [0, 1, 2, 3, 4, 5] [6, 7, 8, 9] (by decide) rfl rfl (he2 EntersC.en rfl rfl rfl) (fun w hm hb => hI1 w _ (rex_on (hm.pick [0, 1, 2, 3, 4, 5] (by decide) rfl) hkid1) hb) rfl rfl rfl ?_)
        rintro ⟨⟨vc1, vr1, vfol1, vl1, vs1, F1⟩, va1, vb1⟩ hx1
        have hx1 : vs1.length = p1.follow.length := hx1
        conv => arg 8; simp only [zA, zB, zC, zD, zE, zF, zG, zH, zI, rowS, ret, id_eq, nodeSp, mkL]
        conv => arg 7; simp only [nodeSp]
        refine TW_on (sub_pick [0] (by decide) rfl) ?_
        refine TW_one rfl (TL_callB [4, 5, 6, 7, 8, 9] [0, 1, 2, 3, 10, 11] (by decide) rfl rfl (he2 EntersC.en rfl rfl rfl) (fun w hm hb => hI2 ⟨vc1, vr1, vfol1, vl1, vs1, F1⟩ hx1 w _ (rex_on (hm.pick [4, 5, 6, 7, 8, 9] (by decide) rfl) hkid2) hb) rfl rfl rfl ?_)
        rintro ⟨⟨vc2, vr2, vfol2, vl2, vs2, F2⟩, va2, vb2⟩ hx2
        have hx2 : vs2.length = p2.follow.length := hx2
        conv => arg 8; simp only [zA, zB, zC, zD, zE, zF, zG, zH, zI, rowS, ret, id_eq, nodeSp, mkL]
        conv => arg 7; simp only [nodeSp]
        refine TW_on (sub_pick [0] (by decide) rfl) ?_
        refine TW_one rfl (TL_slv (i := 4) rfl fun _ qa1 => TL_slv (i := 5) rfl fun _ qb1 => TL_storeB (i := 3) (cs' := #[.bool e1, va1, vb1]) rfl rfl rfl rfl (by simp only [List.all_cons, List.all_nil, qa1, qb1]; rfl) rfl (TW_on (sub_pick [0] (by decide) rfl) ?_))
        repeat (first
          | ((first | refine TW_plain rfl rfl ?_ | refine TW_gmet rfl rfl rfl rfl ?_); first | refine TN_val (qp rfl) rfl rfl ?_ | refine TN_val (qlen Und.eq rfl) rfl rfl ?_ | refine TN_val (qfld FldC.fld rfl rfl) rfl rfl ?_ | refine TN_val (rr_nilc rfl) rfl rfl ?_ | refine TN_val (rr_eql rfl rfl (qT (by omega))) rfl rfl ?_ | refine TN_val (rr_eql rfl rfl (qF (by omega))) rfl rfl ?_)
          | refine TW_skip rfl rfl rfl rfl rfl rfl rfl ?_ | refine TW_done ?_)
        refine TW_one rfl (TL_slv (i := 12) rfl fun _ qa2 => TL_slv (i := 13) rfl fun _ qb2 => TL_storeB (i := 2) (cs' := #[.bool e2, va2, vb2]) rfl rfl rfl rfl (by simp only [List.all_cons, List.all_nil, qa2, qb2]; rfl) rfl (TW_on (sub_pick [0] (by decide) rfl) ?_))
        repeat (first
          | ((first | refine TW_plain rfl rfl ?_ | refine TW_gmet rfl rfl rfl rfl ?_); first | refine TN_val (qp rfl) rfl rfl ?_ | refine TN_val (qlen Und.eq rfl) rfl rfl ?_ | refine TN_val (qfld FldC.fld rfl rfl) rfl rfl ?_ | refine TN_val (rr_nilc rfl) rfl rfl ?_ | refine TN_val (rr_eql rfl rfl (qT (by omega))) rfl rfl ?_ | refine TN_val (rr_eql rfl rfl (qF (by omega))) rfl rfl ?_)
          | refine TW_skip rfl rfl rfl rfl rfl rfl rfl ?_ | refine TW_done ?_)
        refine E_pick [6, 7, 8, 9, 10, 11, 4, 5, 12, 13, 1, 3, 2] (by decide) rfl ?_
        exact E_mid (⟨vc2, vr2, vfol2, vl2, vs2, F2⟩, va1, vb1, va2, vb2, g7, g8) hx2 (by repeat' (first | exact True.intro | refine And.intro rfl ?_)) rfl
  clear hI1 hI2 hat1 hat2
  rintro ⟨⟨vc, vr, vfol, vl, vs, F⟩, va1, vb1, va2, vb2, g7, g8⟩ hx2
  have hx2 : vs.length = p2.follow.length := hx2
  dsimp only
  conv => arg 7; simp only [zA, zB, zC, zD, zE, zF, zG, zH, zI, rowS, ret, id_eq, mkL]
  have hl1 := ris_len hp4
  have hl2 := ris_len hp5
  have hl3 := ris_len kp4
  have hl4 := ris_len kp5
  cases e1 with
  | true =>
    (repeat refine T_seq ?_)
    refine T_ord ([blkO g7 #[.bool true, va1, vb1] 56, blkO g8 #[.bool e2, va2, vb2] 56]) (.calm 0 (.calm 1 (.calm 2 (.calm 3 (.calm 4 (.calm 5 (.calm 6 (.calm 7 (.calm 8 (.calm 9 (.calm 11 (.calm 12 (.calm 13 (.calm 14 (.one 10 (.one 15 (.calm 16 (.one 17 (.done))))))))))))))))))) (sub_pick [11, 12] (by decide) rfl) (by kernel_rfl) (by kernel_rfl) (by intro c a d v w h; cases d <;> exact h) ?_
    repeat (first
      | ((first | refine TW_plain rfl rfl ?_ | refine TW_gmet rfl rfl rfl rfl ?_); first | refine TN_val (qp rfl) rfl rfl ?_ | refine TN_val (rr_load1 TyC.ty rfl (at_blk (i := 0) rfl rfl)) rfl rfl ?_ | refine TN_val (rr_load1 TyC.ty rfl (at_blk (i := 1) rfl rfl)) rfl rfl ?_ | refine TN_val (qlen Und.eq rfl) rfl rfl ?_ | refine TN_val (qfld FldC.fld rfl rfl) rfl rfl ?_ | refine TN_val (rr_nilc rfl) rfl rfl ?_ | refine TN_val (rr_eql rfl rfl (qT (by omega))) rfl rfl ?_ | refine TN_val (rr_eql rfl rfl (qF (by omega))) rfl rfl ?_)
      | refine TW_skip rfl rfl rfl rfl rfl rfl rfl ?_ | refine TW_done ?_)
    refine TW_one rfl (TL_call (he2 EntersC.en rfl rfl rfl) (fun w' hm => union_calls va1 va2 first1 first2 w' (Sl.of_own (hm.get (i := 6) rfl)) (Sl.of_own (hm.get (i := 8) rfl)) (by omega) (by omega)) rfl rfl rfl ?_)
    intro vu _
    conv => arg 8; simp only [zA, zB, zC, zD, zE, zF, zG, zH, zI, rowS, ret, id_eq, intRS]
    refine TW_on (sub_pick [11, 12] (by decide) rfl) ?_
    repeat (first
      | ((first | refine TW_plain rfl rfl ?_ | refine TW_gmet rfl rfl rfl rfl ?_); first | refine TN_val (qp rfl) rfl rfl ?_ | refine TN_val (qlen Und.eq rfl) rfl rfl ?_ | refine TN_val (qfld FldC.fld rfl rfl) rfl rfl ?_ | refine TN_val (rr_nilc rfl) rfl rfl ?_ | refine TN_val (rr_eql rfl rfl (qT (by omega))) rfl rfl ?_ | refine TN_val (rr_eql rfl rfl (qF (by omega))) rfl rfl ?_)
      | refine TW_skip rfl rfl rfl rfl rfl rfl rfl ?_ | refine TW_done ?_)
    refine TW_one rfl (TL_call (he2 EntersC.en rfl rfl rfl) (fun w' hm => union_calls vb1 vb2 last1 last2 w' (Sl.of_own (hm.get (i := 7) rfl)) (Sl.of_own (hm.get (i := 9) rfl)) (by omega) (by omega)) rfl rfl rfl ?_)
    intro vu2 _
    conv => arg 8; simp only [zA, zB, zC, zD, zE, zF, zG, zH, zI, rowS, ret, id_eq, intRS]
    refine TL_rowv (i := 13) rfl fun bu cu hu _ _ => ?_
    refine TL_rowv (i := 14) rfl fun bu2 cu2 hu2 _ _ => ?_
    subst hu hu2
    refine TW_on (sub_pick [11, 12] (by decide) rfl) ?_
    repeat (first
      | ((first | refine TW_plain rfl rfl ?_ | refine TW_gmet rfl rfl rfl rfl ?_); first | refine TN_val (qp rfl) rfl rfl ?_ | refine TN_val (rr_build rfl (build_shpA _ _ _ _ _ _ _)) rfl rfl ?_ | refine TN_val (qlen Und.eq rfl) rfl rfl ?_ | refine TN_val (qfld FldC.fld rfl rfl) rfl rfl ?_ | refine TN_val (rr_nilc rfl) rfl rfl ?_ | refine TN_val (rr_eql rfl rfl (qT (by omega))) rfl rfl ?_ | refine TN_val (rr_eql rfl rfl (qF (by omega))) rfl rfl ?_)
      | refine TW_skip rfl rfl rfl rfl rfl rfl rfl ?_ | refine TW_done ?_)
    refine TW_one rfl (TL_storeB (i := 10) (cs' := #[.bool true, .slice bu (uni first1 first2).length cu, .slice bu2 (uni last1 last2).length cu2]) rfl rfl rfl rfl rfl rfl (TW_on (sub_pick [11, 12] (by decide) rfl) ?_))
    repeat (first
      | ((first | refine TW_plain rfl rfl ?_ | refine TW_gmet rfl rfl rfl rfl ?_); first | refine TN_val (qp rfl) rfl rfl ?_ | refine TN_val (qlen Und.eq rfl) rfl rfl ?_ | refine TN_val (qfld FldC.fld rfl rfl) rfl rfl ?_ | refine TN_val (rr_nilc rfl) rfl rfl ?_ | refine TN_val (rr_eql rfl rfl (qT (by omega))) rfl rfl ?_ | refine TN_val (rr_eql rfl rfl (qF (by omega))) rfl rfl ?_)
      | refine TW_skip rfl rfl rfl rfl rfl rfl rfl ?_ | refine TW_done ?_)
    repeat (first
      | refine qv rfl (qp rfl) rfl rfl ?_ | refine TL_nil ?_ | refine T_seq ?_ | refine T_region ?_ | refine qcT rfl ?_ | refine qcF rfl ?_ | refine T_skip ?_
      | refine T_ret ?_ | refine T_block ?_ | refine E_then ?_ | refine E_thenR ?_ | refine E_blockN ?_ | refine E_blockR ?_
      | refine qs rfl rfl rfl rfl rfl rfl ?_
      | ((try refine qg rfl rfl rfl ?_); first | refine qv rfl (qp rfl) rfl rfl ?_ | refine qv rfl (qlen Und.eq rfl) rfl rfl ?_ | refine qv rfl (qfld FldC.fld rfl rfl) rfl rfl ?_ | refine qv rfl (rr_nilc rfl) rfl rfl ?_ | refine qv rfl (rr_eql rfl rfl (qT (by omega))) rfl rfl ?_ | refine qv rfl (rr_eql rfl rfl (qF (by omega))) rfl rfl ?_))
    refine E_retc1 (i := 10) rfl rfl rfl rfl fun w hm => ?_
    exact hm.meetsB (S := nodeSp g vf ve rule (⟨true || e2, uni first1 first2, uni last1 last2⟩, p2)) (⟨vc, vr, vfol, vl, vs, F⟩, .slice bu (uni first1 first2).length cu, .slice bu2 (uni last1 last2).length cu2) hx2 [0, 1, 2, 3, 4, 5, 13, 14] (by decide) rfl
  | false =>
    (repeat refine T_seq ?_)
    refine T_ord ([blkO g7 #[.bool false, va1, vb1] 56, blkO g8 #[.bool e2, va2, vb2] 56]) (.calm 0 (.calm 1 (.calm 2 (.calm 3 (.calm 4 (.calm 5 (.calm 6 (.calm 7 (.calm 8 (.calm 9 (.calm 11 (.calm 12 (.calm 13 (.calm 14 (.one 10 (.one 15 (.calm 16 (.one 17 (.done))))))))))))))))))) (sub_pick [11, 12] (by decide) rfl) (by kernel_rfl) (by kernel_rfl) (by intro c a d v w h; cases d <;> exact h) ?_
    repeat (first
      | ((first | refine TW_plain rfl rfl ?_ | refine TW_gmet rfl rfl rfl rfl ?_); first | refine TN_val (qp rfl) rfl rfl ?_ | refine TN_val (rr_load1 TyC.ty rfl (at_blk (i := 0) rfl rfl)) rfl rfl ?_ | refine TN_val (rr_load1 TyC.ty rfl (at_blk (i := 1) rfl rfl)) rfl rfl ?_ | refine TN_val (qlen Und.eq rfl) rfl rfl ?_ | refine TN_val (qfld FldC.fld rfl rfl) rfl rfl ?_ | refine TN_val (rr_nilc rfl) rfl rfl ?_ | refine TN_val (rr_eql rfl rfl (qT (by omega))) rfl rfl ?_ | refine TN_val (rr_eql rfl rfl (qF (by omega))) rfl rfl ?_)
      | refine TW_skip rfl rfl rfl rfl rfl rfl rfl ?_ | refine TW_done ?_)
    refine TW_one rfl (TL_call (he2 EntersC.en rfl rfl rfl) (fun w' hm => union_calls va1 va2 first1 first2 w' (Sl.of_own (hm.get (i := 6) rfl)) (Sl.of_own (hm.get (i := 8) rfl)) (by omega) (by omega)) rfl rfl rfl ?_)
    intro vu _
    conv => arg 8; simp only [zA, zB, zC, zD, zE, zF, zG, zH, zI, rowS, ret, id_eq, intRS]
    refine TW_on (sub_pick [11, 12] (by decide) rfl) ?_
    repeat (first
      | ((first | refine TW_plain rfl rfl ?_ | refine TW_gmet rfl rfl rfl rfl ?_); first | refine TN_val (qp rfl) rfl rfl ?_ | refine TN_val (qlen Und.eq rfl) rfl rfl ?_ | refine TN_val (qfld FldC.fld rfl rfl) rfl rfl ?_ | refine TN_val (rr_nilc rfl) rfl rfl ?_ | refine TN_val (rr_eql rfl rfl (qT (by omega))) rfl rfl ?_ | refine TN_val (rr_eql rfl rfl (qF (by omega))) rfl rfl ?_)
      | refine TW_skip rfl rfl rfl rfl rfl rfl rfl ?_ | refine TW_done ?_)
    refine TW_one rfl (TL_call (he2 EntersC.en rfl rfl rfl) (fun w' hm => union_calls vb1 vb2 last1 last2 w' (Sl.of_own (hm.get (i := 7) rfl)) (Sl.of_own (hm.get (i := 9) rfl)) (by omega) (by omega)) rfl rfl rfl ?_)
    intro vu2 _
    conv => arg 8; simp only [zA, zB, zC, zD, zE, zF, zG, zH, zI, rowS, ret, id_eq, intRS]
    refine TL_rowv (i := 13) rfl fun bu cu hu _ _ => ?_
    refine TL_rowv (i := 14) rfl fun bu2 cu2 hu2 _ _ => ?_
    subst hu hu2
    refine TW_on (sub_pick [11, 12] (by decide) rfl) ?_
    repeat (first
      | ((first | refine TW_plain rfl rfl ?_ | refine TW_gmet rfl rfl rfl rfl ?_); first | refine TN_val (qp rfl) rfl rfl ?_ | refine TN_val (rr_build rfl (build_shpA _ _ _ _ _ _ _)) rfl rfl ?_ | refine TN_val (qlen Und.eq rfl) rfl rfl ?_ | refine TN_val (qfld FldC.fld rfl rfl) rfl rfl ?_ | refine TN_val (rr_nilc rfl) rfl rfl ?_ | refine TN_val (rr_eql rfl rfl (qT (by omega))) rfl rfl ?_ | refine TN_val (rr_eql rfl rfl (qF (by omega))) rfl rfl ?_)
      | refine TW_skip rfl rfl rfl rfl rfl rfl rfl ?_ | refine TW_done ?_)
    refine TW_one rfl (TL_storeB (i := 10) (cs' := #[.bool e2, .slice bu (uni first1 first2).length cu, .slice bu2 (uni last1 last2).length cu2]) rfl rfl rfl rfl rfl rfl (TW_on (sub_pick [11, 12] (by decide) rfl) ?_))
    repeat (first
      | ((first | refine TW_plain rfl rfl ?_ | refine TW_gmet rfl rfl rfl rfl ?_); first | refine TN_val (qp rfl) rfl rfl ?_ | refine TN_val (qlen Und.eq rfl) rfl rfl ?_ | refine TN_val (qfld FldC.fld rfl rfl) rfl rfl ?_ | refine TN_val (rr_nilc rfl) rfl rfl ?_ | refine TN_val (rr_eql rfl rfl (qT (by omega))) rfl rfl ?_ | refine TN_val (rr_eql rfl rfl (qF (by omega))) rfl rfl ?_)
      | refine TW_skip rfl rfl rfl rfl rfl rfl rfl ?_ | refine TW_done ?_)
    repeat (first
      | refine qv rfl (qp rfl) rfl rfl ?_ | refine TL_nil ?_ | refine T_seq ?_ | refine T_region ?_ | refine qcT rfl ?_ | refine qcF rfl ?_ | refine T_skip ?_
      | refine T_ret ?_ | refine T_block ?_ | refine E_then ?_ | refine E_thenR ?_ | refine E_blockN ?_ | refine E_blockR ?_
      | refine qs rfl rfl rfl rfl rfl rfl ?_
      | ((try refine qg rfl rfl rfl ?_); first | refine qv rfl (qp rfl) rfl rfl ?_ | refine qv rfl (qlen Und.eq rfl) rfl rfl ?_ | refine qv rfl (qfld FldC.fld rfl rfl) rfl rfl ?_ | refine qv rfl (rr_nilc rfl) rfl rfl ?_ | refine qv rfl (rr_eql rfl rfl (qT (by omega))) rfl rfl ?_ | refine qv rfl (rr_eql rfl rfl (qF (by omega))) rfl rfl ?_))
    refine E_retc1 (i := 10) rfl rfl rfl rfl fun w hm => ?_
    exact hm.meetsB (S := nodeSp g vf ve rule (⟨false || e2, uni first1 first2, uni last1 last2⟩, p2)) (⟨vc, vr, vfol, vl, vs, F⟩, .slice bu (uni first1 first2).length cu, .slice bu2 (uni last1 last2).length cu2) hx2 [0, 1, 2, 3, 4, 5, 13, 14] (by decide) rfl
end Go.Proofs.Ytcflcmlmlinbaaa.eng

/- PlC -/
namespace Go.Proofs.Ytcflcmlmlinbaaa.eng
open Go.RowKit kit mix classL rexL placesL
set_option maxHeartbeats 32000000 in
set_option maxRecDepth 100000 in
theorem node_cat {M : Nat} (IH : NodeAt M) (a b1 : Re) (ha : a.size ≤ M) (hb1 : b1.size ≤ M) (g : Nat) (vf ve : Value) (rule : Int) (p : PS) (x : MIx) (v : Value) (w : World) (B : Base) (hp : PSOk p) (hx : x.vs.length = p.follow.length) (hn : p.classes.length + (a.size + b1.size + 1) ≤ 100000) (hr64 : kit.okI64 rule) (hv : RexR (OldB B) B.w v (emb (.cat a b1))) (hm : Mem B (mkL g vf ve rule x p) w) :
    Calls Try.prog 13 #[.pointer (some ⟨g, 0, none⟩), v] w (MeetsB (nodeSp g vf ve rule (nodeF rule (.cat a b1) p)) B) := by
  obtain ⟨vk, rfl, _, hks⟩ := hv
  obtain ⟨bk, ck, rfl, h1, h2, h3⟩ := hks
  obtain ⟨b, off, rfl, hF, hrd⟩ := h3 (by show 0 < 2; decide)
  obtain ⟨kb, kc, hr, hkid1⟩ := rkid_at (k := 0) hrd (by show 0 < 2; decide)
  obtain ⟨kb2, kc2, hr2, hkid2⟩ := rkid_at (k := 1) hrd (by show 1 < 2; decide)
  have hat1 := fun (L : List Own) (j : Nat) (v : Value) hj => at_oldB (L := L) hF hr j v hj
  have hat2 := fun (L : List Own) (j : Nat) (v : Value) hj => at_oldB (L := L) hF hr2 j v hj
  clear h3 hrd hr hr2
  obtain ⟨hp1, hp2, hp3, hp4, hp5⟩ := node_ok rule a p hp
  obtain ⟨kp1, kp2, kp3, kp4, kp5⟩ := node_ok rule b1 _ hp1
  have hI1 := fun w B hv hm => IH a ha g vf ve rule p x (rexV (emb a).kind (emb a).cls (.slice kb (emb a).kids.length kc)) w B hp hx (by omega) hr64 hv hm
  have hI2 := fun x1 hx1 w B hv hm => IH b1 hb1 g vf ve rule (nodeF rule a p).2 x1 (rexV (emb b1).kind (emb b1).cls (.slice kb2 (emb b1).kids.length kc2)) w B hp1 hx1 (by omega) hr64 hv hm
  rw [show nodeF rule (.cat a b1) p = (⟨(nodeF rule a p).1.empty && (nodeF rule b1 (nodeF rule a p).2).1.empty, if (nodeF rule a p).1.empty then uni (nodeF rule a p).1.first (nodeF rule b1 (nodeF rule a p).2).1.first else (nodeF rule a p).1.first, if (nodeF rule b1 (nodeF rule a p).2).1.empty then uni (nodeF rule a p).1.last (nodeF rule b1 (nodeF rule a p).2).1.last else (nodeF rule b1 (nodeF rule a p).2).1.last⟩, { (nodeF rule b1 (nodeF rule a p).2).2 with follow := behindF (nodeF rule b1 (nodeF rule a p).2).2.follow (nodeF rule a p).1.last (nodeF rule b1 (nodeF rule a p).2).1.first }) from rfl]
  generalize nodeF rule b1 (nodeF rule a p).2 = R2 at *
  generalize nodeF rule a p = R1 at *
  obtain ⟨⟨e1, first1, last1⟩, p1⟩ := R1
  obtain ⟨⟨e2, first2, last2⟩, p2⟩ := R2
  dsimp only at hp1 hp2 hp3 hp4 hp5 kp1 kp2 kp3 kp4 kp5 hI2 ⊢
  unfold mkL at hm
  refine enterB hm (args := [.pointer (some ⟨g, 0, none⟩), rexV 4 C4.zero (.slice (some ⟨b, off, none⟩) 2 ck)]) (n := 176) Try.func13 rfl rfl rfl ?_
  clear hm
  refine T_seq (T_region (TL_box rfl rfl rfl fun g3 => TL_new rfl fun g4 => ?_))
  conv => arg 8; simp only [zA, zB, zC, zD, zE, zF, zG, zH, zI, rowS, ret, id_eq]
  repeat (first
    | refine qv rfl (qp rfl) rfl rfl ?_ | refine TL_nil ?_ | refine T_seq ?_ | refine T_region ?_ | refine qcT rfl ?_ | refine qcF rfl ?_ | refine T_skip ?_
    | refine T_ret ?_ | refine T_block ?_ | refine E_then ?_ | refine E_thenR ?_ | refine E_blockN ?_ | refine E_blockR ?_
    | refine qs rfl rfl rfl rfl rfl rfl ?_
    | ((try refine qg rfl rfl rfl ?_); first | refine qv rfl (qp rfl) rfl rfl ?_ | refine qv rfl (rr_load1 (v := .int .i64 4) TyC.ty rfl (at_blk (i := 6) rfl rfl)) rfl rfl ?_ | refine qv rfl (qlen Und.eq rfl) rfl rfl ?_ | refine qv rfl (qfld FldC.fld rfl rfl) rfl rfl ?_ | refine qv rfl (rr_nilc rfl) rfl rfl ?_ | refine qv rfl (rr_eql rfl rfl (qT (by omega))) rfl rfl ?_ | refine qv rfl (rr_eql rfl rfl (qF (by omega))) rfl rfl ?_))
  (repeat refine T_seq ?_)
  refine T_midq (ι := MIx × Value × Value × Value × Value × Nat × Nat) (fun y => y.1.vs.length = p2.follow.length) (fun y => [(0, .pointer (some ⟨g, 0, none⟩)), (4, .pointer (some ⟨g4, 0, none⟩)), (9, .pointer (some ⟨y.2.2.2.2.2.1, 0, none⟩)), (10, .pointer (some ⟨y.2.2.2.2.2.2, 0, none⟩))])
    (fun y => mkL g vf ve rule y.1 p2 ++ [intR y.2.1 first1, intR y.2.2.1 last1, intR y.2.2.2.1 first2, intR y.2.2.2.2.1 last2, blkO g4 #[.bool false, .slice none 0 0, .slice none 0 0] 56, blkO y.2.2.2.2.2.1 #[.bool e1, y.2.1, y.2.2.1] 56, blkO y.2.2.2.2.2.2 #[.bool e2, y.2.2.2.1, y.2.2.2.2.1] 56]) ?_ ?_
  · refine T_ord ([blkO g3 (rexC 4 C4.zero (.slice (some ⟨b, off, none⟩) 2 ck)).toArray 38]) (.calm 0 (.calm 1 (.calm 2 (.calm 3 (.calm 4 (.calm 6 (.calm 7 (.calm 8 (.calm 9 (.calm 10 (.three 5 (.three 11 (.two 12 (.one 13 (.one 14 (.one 15 (.done)))) 13 (.one 12 (.one 14 (.one 15 (.done))))) 12 (.two 11 (.one 13 (.one 14 (.one 15 (.done)))) 13 (.one 11 (.one 14 (.one 15 (.done))))) 13 (.two 11 (.one 12 (.one 14 (.one 15 (.done)))) 12 (.one 11 (.one 14 (.one 15 (.done)))))) 12 (.two 5 (.two 11 (.one 13 (.one 14 (.one 15 (.done)))) 13 (.one 11 (.one 14 (.one 15 (.done))))) 13 (.one 5 (.one 11 (.one 14 (.one 15 (.done)))))) 13 (.two 5 (.two 11 (.one 12 (.one 14 (.one 15 (.done)))) 12 (.one 11 (.one 14 (.one 15 (.done))))) 12 (.one 5 (.one 11 (.one 14 (.one 15 (.done))))))))))))))))) (sub_pick [6] (by decide) rfl) (by kernel_rfl) (by kernel_rfl) (by intro c a d v w h; cases d <;> exact h) ?_
    repeat (first
      | ((first | refine TW_plain rfl rfl ?_ | refine TW_gmet rfl rfl rfl rfl ?_); first | refine TN_val (qp rfl) rfl rfl ?_ | refine TN_val (rr_load1 (v := .slice (some ⟨b, off, none⟩) 2 ck) TyC.ty rfl (at_blk (i := 0) rfl rfl)) rfl rfl ?_ | refine TN_val (rr_idxc (j := 0) Und.eq TyC.ty rfl rfl (by decide)) rfl rfl ?_ | refine TN_val (rr_idxc (j := 1) Und.eq TyC.ty rfl rfl (by decide)) rfl rfl ?_ | refine TN_val (rr_loadN TyC.ty rfl rfl (hat1 _)) rfl rfl ?_ | refine TN_val (rr_loadN TyC.ty rfl rfl (hat2 _)) rfl rfl ?_ | refine TN_val (qlen Und.eq rfl) rfl rfl ?_ | refine TN_val (qfld FldC.fld rfl rfl) rfl rfl ?_ | refine TN_val (rr_nilc rfl) rfl rfl ?_ | refine TN_val (rr_eql rfl rfl (qT (by omega))) rfl rfl ?_ | refine TN_val (rr_eql rfl rfl (qF (by omega))) rfl rfl ?_)
      | refine TW_skip rfl rfl rfl rfl rfl rfl rfl ?_ | refine TW_done ?_)
    refine TW_three rfl rfl rfl ?_ ?_ ?_
    · refine TL_callB [0, 1, 2, 3, 4, 5] [6, 7] (by decide) rfl rfl (he2 EntersC.en rfl rfl rfl) (fun w hm hb => hI1 w _ (rex_on (hm.pick [0, 1, 2, 3, 4, 5] (by decide) rfl) hkid1) hb) rfl rfl rfl ?_
      rintro ⟨⟨vc1, vr1, vfol1, vl1, vs1, F1⟩, va1, vb1⟩ hx1
      have hx1 : vs1.length = p1.follow.length := hx1
      conv => arg 8; simp only [zA, zB, zC, zD, zE, zF, zG, zH, zI, rowS, ret, id_eq, nodeSp, mkL]
      conv => arg 7; simp only [nodeSp]
      refine TW_on (sub_pick [0] (by decide) rfl) ?_
      refine TW_three rfl rfl rfl ?_ ?_ ?_
      · refine TL_callB [2, 3, 4, 5, 6, 7] [0, 1, 8, 9] (by decide) rfl rfl (he2 EntersC.en rfl rfl rfl) (fun w hm hb => hI2 ⟨vc1, vr1, vfol1, vl1, vs1, F1⟩ hx1 w _ (rex_on (hm.pick [2, 3, 4, 5, 6, 7] (by decide) rfl) hkid2) hb) rfl rfl rfl ?_
        rintro ⟨⟨vc2, vr2, vfol2, vl2, vs2, F2⟩, va2, vb2⟩ hx2
        have hx2 : vs2.length = p2.follow.length := hx2
        conv => arg 8; simp only [zA, zB, zC, zD, zE, zF, zG, zH, zI, rowS, ret, id_eq, nodeSp, mkL]
        conv => arg 7; simp only [nodeSp]
        refine TW_on (sub_pick [0] (by decide) rfl) ?_
        refine TW_two rfl rfl ?_ ?_
        · refine TL_new rfl fun g7 => (TW_on (sub_pick [0] (by decide) rfl) ?_)
          refine TW_one rfl (TL_new rfl fun g8 => (TW_on (sub_pick [0] (by decide) rfl) ?_))
          refine TW_one rfl (TL_slv (i := 2) rfl fun _ qa1 => TL_slv (i := 3) rfl fun _ qb1 => TL_storeB (i := 12) (cs' := #[.bool e1, va1, vb1]) rfl rfl rfl rfl (by simp only [List.all_cons, List.all_nil, qa1, qb1]; rfl) rfl (TW_on (sub_pick [0] (by decide) rfl) ?_))
          repeat (first
            | ((first | refine TW_plain rfl rfl ?_ | refine TW_gmet rfl rfl rfl rfl ?_); first | refine TN_val (qp rfl) rfl rfl ?_ | refine TN_val (qlen Und.eq rfl) rfl rfl ?_ | refine TN_val (qfld FldC.fld rfl rfl) rfl rfl ?_ | refine TN_val (rr_nilc rfl) rfl rfl ?_ | refine TN_val (rr_eql rfl rfl (qT (by omega))) rfl rfl ?_ | refine TN_val (rr_eql rfl rfl (qF (by omega))) rfl rfl ?_)
            | refine TW_skip rfl rfl rfl rfl rfl rfl rfl ?_ | refine TW_done ?_)
          refine TW_one rfl (TL_slv (i := 10) rfl fun _ qa2 => TL_slv (i := 11) rfl fun _ qb2 => TL_storeB (i := 13) (cs' := #[.bool e2, va2, vb2]) rfl rfl rfl rfl (by simp only [List.all_cons, List.all_nil, qa2, qb2]; rfl) rfl (TW_on (sub_pick [0] (by decide) rfl) ?_))
          repeat (first
            | ((first | refine TW_plain rfl rfl ?_ | refine TW_gmet rfl rfl rfl rfl ?_); first | refine TN_val (qp rfl) rfl rfl ?_ | refine TN_val (qlen Und.eq rfl) rfl rfl ?_ | refine TN_val (qfld FldC.fld rfl rfl) rfl rfl ?_ | refine TN_val (rr_nilc rfl) rfl rfl ?_ | refine TN_val (rr_eql rfl rfl (qT (by omega))) rfl rfl ?_ | refine TN_val (rr_eql rfl rfl (qF (by omega))) rfl rfl ?_)
            | refine TW_skip rfl rfl rfl rfl rfl rfl rfl ?_ | refine TW_done ?_)
          refine E_pick [4, 5, 6, 7, 8, 9, 2, 3, 10, 11, 1, 12, 13] (by decide) rfl ?_
          exact E_mid (⟨vc2, vr2, vfol2, vl2, vs2, F2⟩, va1, vb1, va2, vb2, g7, g8) hx2 (by repeat' (first | exact True.intro | refine And.intro rfl ?_)) rfl
        · refine TL_new rfl fun g8 => (TW_on (sub_pick [0] (by decide) rfl) ?_)
          refine TW_one rfl (TL_new rfl fun g7 => (TW_on (sub_pick [0] (by decide) rfl) ?_))
          refine TW_one rfl (TL_slv (i := 2) rfl fun _ qa1 => TL_slv (i := 3) rfl fun _ qb1 => TL_storeB (i := 13) (cs' := #[.bool e1, va1, vb1]) rfl rfl rfl rfl (by simp only [List.all_cons, List.all_nil, qa1, qb1]; rfl) rfl (TW_on (sub_pick [0] (by decide) rfl) ?_))
          repeat (first
            | ((first | refine TW_plain rfl rfl ?_ | refine TW_gmet rfl rfl rfl rfl ?_); first | refine TN_val (qp rfl) rfl rfl ?_ | refine TN_val (qlen Und.eq rfl) rfl rfl ?_ | refine TN_val (qfld FldC.fld rfl rfl) rfl rfl ?_ | refine TN_val (rr_nilc rfl) rfl rfl ?_ | refine TN_val (rr_eql rfl rfl (qT (by omega))) rfl rfl ?_ | refine TN_val (rr_eql rfl rfl (qF (by omega))) rfl rfl ?_)
            | refine TW_skip rfl rfl rfl rfl rfl rfl rfl ?_ | refine TW_done ?_)
          refine TW_one rfl (TL_slv (i := 10) rfl fun _ qa2 => TL_slv (i := 11) rfl fun _ qb2 => TL_storeB (i := 12) (cs' := #[.bool e2, va2, vb2]) rfl rfl rfl rfl (by simp only [List.all_cons, List.all_nil, qa2, qb2]; rfl) rfl (TW_on (sub_pick [0] (by decide) rfl) ?_))
          repeat (first
            | ((first | refine TW_plain rfl rfl ?_ | refine TW_gmet rfl rfl rfl rfl ?_); first | refine TN_val (qp rfl) rfl rfl ?_ | refine TN_val (qlen Und.eq rfl) rfl rfl ?_ | refine TN_val (qfld FldC.fld rfl rfl) rfl rfl ?_ | refine TN_val (rr_nilc rfl) rfl rfl ?_ | refine TN_val (rr_eql rfl rfl (qT (by omega))) rfl rfl ?_ | refine TN_val (rr_eql rfl rfl (qF (by omega))) rfl rfl ?_)
            | refine TW_skip rfl rfl rfl rfl rfl rfl rfl ?_ | refine TW_done ?_)
          refine E_pick [4, 5, 6, 7, 8, 9, 2, 3, 10, 11, 1, 13, 12] (by decide) rfl ?_
          exact E_mid (⟨vc2, vr2, vfol2, vl2, vs2, F2⟩, va1, vb1, va2, vb2, g7, g8) hx2 (by repeat' (first | exact True.intro | refine And.intro rfl ?_)) rfl
      · refine TL_new rfl fun g7 => (TW_on (sub_pick [0] (by decide) rfl) ?_)
        refine TW_two rfl rfl ?_ ?_
        · refine TL_callB [2, 3, 4, 5, 6, 7] [0, 1, 8, 9, 10] (by decide) rfl rfl (he2 EntersC.en rfl rfl rfl) (fun w hm hb => hI2 ⟨vc1, vr1, vfol1, vl1, vs1, F1⟩ hx1 w _ (rex_on (hm.pick [2, 3, 4, 5, 6, 7] (by decide) rfl) hkid2) hb) rfl rfl rfl ?_
          rintro ⟨⟨vc2, vr2, vfol2, vl2, vs2, F2⟩, va2, vb2⟩ hx2
          have hx2 : vs2.length = p2.follow.length := hx2
          conv => arg 8; simp only [zA, zB, zC, zD, zE, zF, zG, zH, zI, rowS, ret, id_eq, nodeSp, mkL]
          conv => arg 7; simp only [nodeSp]
          refine TW_on (sub_pick [0] (by decide) rfl) ?_
          refine TW_one rfl (TL_new rfl fun g8 => (TW_on (sub_pick [0] (by decide) rfl) ?_))
          refine TW_one rfl (TL_slv (i := 2) rfl fun _ qa1 => TL_slv (i := 3) rfl fun _ qb1 => TL_storeB (i := 4) (cs' := #[.bool e1, va1, vb1]) rfl rfl rfl rfl (by simp only [List.all_cons, List.all_nil, qa1, qb1]; rfl) rfl (TW_on (sub_pick [0] (by decide) rfl) ?_))
          repeat (first
            | ((first | refine TW_plain rfl rfl ?_ | refine TW_gmet rfl rfl rfl rfl ?_); first | refine TN_val (qp rfl) rfl rfl ?_ | refine TN_val (qlen Und.eq rfl) rfl rfl ?_ | refine TN_val (qfld FldC.fld rfl rfl) rfl rfl ?_ | refine TN_val (rr_nilc rfl) rfl rfl ?_ | refine TN_val (rr_eql rfl rfl (qT (by omega))) rfl rfl ?_ | refine TN_val (rr_eql rfl rfl (qF (by omega))) rfl rfl ?_)
            | refine TW_skip rfl rfl rfl rfl rfl rfl rfl ?_ | refine TW_done ?_)
          refine TW_one rfl (TL_slv (i := 11) rfl fun _ qa2 => TL_slv (i := 12) rfl fun _ qb2 => TL_storeB (i := 13) (cs' := #[.bool e2, va2, vb2]) rfl rfl rfl rfl (by simp only [List.all_cons, List.all_nil, qa2, qb2]; rfl) rfl (TW_on (sub_pick [0] (by decide) rfl) ?_))
          repeat (first
            | ((first | refine TW_plain rfl rfl ?_ | refine TW_gmet rfl rfl rfl rfl ?_); first | refine TN_val (qp rfl) rfl rfl ?_ | refine TN_val (qlen Und.eq rfl) rfl rfl ?_ | refine TN_val (qfld FldC.fld rfl rfl) rfl rfl ?_ | refine TN_val (rr_nilc rfl) rfl rfl ?_ | refine TN_val (rr_eql rfl rfl (qT (by omega))) rfl rfl ?_ | refine TN_val (rr_eql rfl rfl (qF (by omega))) rfl rfl ?_)
            | refine TW_skip rfl rfl rfl rfl rfl rfl rfl ?_ | refine TW_done ?_)
          refine E_pick [5, 6, 7, 8, 9, 10, 2, 3, 11, 12, 1, 4, 13] (by decide) rfl ?_
          exact E_mid (⟨vc2, vr2, vfol2, vl2, vs2, F2⟩, va1, vb1, va2, vb2, g7, g8) hx2 (by repeat' (first | exact True.intro | refine And.intro rfl ?_)) rfl
        · refine TL_new rfl fun g8 => (TW_on (sub_pick [0] (by decide) rfl) ?_)
          refine TW_one rfl (TL_callB [2, 3, 4, 5, 6, 7] [0, 1, 8, 9, 10, 11] (by decide) rfl rfl (he2 EntersC.en rfl rfl rfl) (fun w hm hb => hI2 ⟨vc1, vr1, vfol1, vl1, vs1, F1⟩ hx1 w _ (rex_on (hm.pick [2, 3, 4, 5, 6, 7] (by decide) rfl) hkid2) hb) rfl rfl rfl ?_)
          rintro ⟨⟨vc2, vr2, vfol2, vl2, vs2, F2⟩, va2, vb2⟩ hx2
          have hx2 : vs2.length = p2.follow.length := hx2
          conv => arg 8; simp only [zA, zB, zC, zD, zE, zF, zG, zH, zI, rowS, ret, id_eq, nodeSp, mkL]
          conv => arg 7; simp only [nodeSp]
          refine TW_on (sub_pick [0] (by decide) rfl) ?_
          refine TW_one rfl (TL_slv (i := 2) rfl fun _ qa1 => TL_slv (i := 3) rfl fun _ qb1 => TL_storeB (i := 4) (cs' := #[.bool e1, va1, vb1]) rfl rfl rfl rfl (by simp only [List.all_cons, List.all_nil, qa1, qb1]; rfl) rfl (TW_on (sub_pick [0] (by decide) rfl) ?_))
          repeat (first
            | ((first | refine TW_plain rfl rfl ?_ | refine TW_gmet rfl rfl rfl rfl ?_); first | refine TN_val (qp rfl) rfl rfl ?_ | refine TN_val (qlen Und.eq rfl) rfl rfl ?_ | refine TN_val (qfld FldC.fld rfl rfl) rfl rfl ?_ | refine TN_val (rr_nilc rfl) rfl rfl ?_ | refine TN_val (rr_eql rfl rfl (qT (by omega))) rfl rfl ?_ | refine TN_val (rr_eql rfl rfl (qF (by omega))) rfl rfl ?_)
            | refine TW_skip rfl rfl rfl rfl rfl rfl rfl ?_ | refine TW_done ?_)
          refine TW_one rfl (TL_slv (i := 12) rfl fun _ qa2 => TL_slv (i := 13) rfl fun _ qb2 => TL_storeB (i := 5) (cs' := #[.bool e2, va2, vb2]) rfl rfl rfl rfl (by simp only [List.all_cons, List.all_nil, qa2, qb2]; rfl) rfl (TW_on (sub_pick [0] (by decide) rfl) ?_))
          repeat (first
            | ((first | refine TW_plain rfl rfl ?_ | refine TW_gmet rfl rfl rfl rfl ?_); first | refine TN_val (qp rfl) rfl rfl ?_ | refine TN_val (qlen Und.eq rfl) rfl rfl ?_ | refine TN_val (qfld FldC.fld rfl rfl) rfl rfl ?_ | refine TN_val (rr_nilc rfl) rfl rfl ?_ | refine TN_val (rr_eql rfl rfl (qT (by omega))) rfl rfl ?_ | refine TN_val (rr_eql rfl rfl (qF (by omega))) rfl rfl ?_)
            | refine TW_skip rfl rfl rfl rfl rfl rfl rfl ?_ | refine TW_done ?_)
          refine E_pick [6, 7, 8, 9, 10, 11, 2, 3, 12, 13, 1, 4, 5] (by decide) rfl ?_
          exact E_mid (⟨vc2, vr2, vfol2, vl2, vs2, F2⟩, va1, vb1, va2, vb2, g7, g8) hx2 (by repeat' (first | exact True.intro | refine And.intro rfl ?_)) rfl
      · refine TL_new rfl fun g8 => (TW_on (sub_pick [0] (by decide) rfl) ?_)
        refine TW_two rfl rfl ?_ ?_
        · refine TL_callB [2, 3, 4, 5, 6, 7] [0, 1, 8, 9, 10] (by decide) rfl rfl (he2 EntersC.en rfl rfl rfl) (fun w hm hb => hI2 ⟨vc1, vr1, vfol1, vl1, vs1, F1⟩ hx1 w _ (rex_on (hm.pick [2, 3, 4, 5, 6, 7] (by decide) rfl) hkid2) hb) rfl rfl rfl ?_
          rintro ⟨⟨vc2, vr2, vfol2, vl2, vs2, F2⟩, va2, vb2⟩ hx2
          have hx2 : vs2.length = p2.follow.length := hx2
          conv => arg 8; simp only [zA, zB, zC, zD, zE, zF, zG, zH, zI, rowS, ret, id_eq, nodeSp, mkL]
          conv => arg 7; simp only [nodeSp]
          refine TW_on (sub_pick [0] (by decide) rfl) ?_
          refine TW_one rfl (TL_new rfl fun g7 => (TW_on (sub_pick [0] (by decide) rfl) ?_))
          refine TW_one rfl (TL_slv (i := 2) rfl fun _ qa1 => TL_slv (i := 3) rfl fun _ qb1 => TL_storeB (i := 13) (cs' := #[.bool e1, va1, vb1]) rfl rfl rfl rfl (by simp only [List.all_cons, List.all_nil, qa1, qb1]; rfl) rfl (TW_on (sub_pick [0] (by decide) rfl) ?_))
          repeat (first
            | ((first | refine TW_plain rfl rfl ?_ | refine TW_gmet rfl rfl rfl rfl ?_); first | refine TN_val (qp rfl) rfl rfl ?_ | refine TN_val (qlen Und.eq rfl) rfl rfl ?_ | refine TN_val (qfld FldC.fld rfl rfl) rfl rfl ?_ | refine TN_val (rr_nilc rfl) rfl rfl ?_ | refine TN_val (rr_eql rfl rfl (qT (by omega))) rfl rfl ?_ | refine TN_val (rr_eql rfl rfl (qF (by omega))) rfl rfl ?_)
            | refine TW_skip rfl rfl rfl rfl rfl rfl rfl ?_ | refine TW_done ?_)
          refine TW_one rfl (TL_slv (i := 11) rfl fun _ qa2 => TL_slv (i := 12) rfl fun _ qb2 => TL_storeB (i := 4) (cs' := #[.bool e2, va2, vb2]) rfl rfl rfl rfl (by simp only [List.all_cons, List.all_nil, qa2, qb2]; rfl) rfl (TW_on (sub_pick [0] (by decide) rfl) ?_))
          repeat (first
            | ((first | refine TW_plain rfl rfl ?_ | refine TW_gmet rfl rfl rfl rfl ?_); first | refine TN_val (qp rfl) rfl rfl ?_ | refine TN_val (qlen Und.eq rfl) rfl rfl ?_ | refine TN_val (qfld FldC.fld rfl rfl) rfl rfl ?_ | refine TN_val (rr_nilc rfl) rfl rfl ?_ | refine TN_val (rr_eql rfl rfl (qT (by omega))) rfl rfl ?_ | refine TN_val (rr_eql rfl rfl (qF (by omega))) rfl rfl ?_)
            | refine TW_skip rfl rfl rfl rfl rfl rfl rfl ?_ | refine TW_done ?_)
          refine E_pick [5, 6, 7, 8, 9, 10, 2, 3, 11, 12, 1, 13, 4] (by decide) rfl ?_
          exact E_mid (⟨vc2, vr2, vfol2, vl2, vs2, F2⟩, va1, vb1, va2, vb2, g7, g8) hx2 (by repeat' (first | exact True.intro | refine And.intro rfl ?_)) rfl
        · refine TL_new rfl fun g7 => (TW_on (sub_pick [0] (by decide) rfl) ?_)
          refine TW_one rfl (TL_callB [2, 3, 4, 5, 6, 7] [0, 1, 8, 9, 10, 11] (by decide) rfl rfl (he2 EntersC.en rfl rfl rfl) (fun w hm hb => hI2 ⟨vc1, vr1, vfol1, vl1, vs1, F1⟩ hx1 w _ (rex_on (hm.pick [2, 3, 4, 5, 6, 7] (by decide) rfl) hkid2) hb) rfl rfl rfl ?_)
          rintro ⟨⟨vc2, vr2, vfol2, vl2, vs2, F2⟩, va2, vb2⟩ hx2
          have hx2 : vs2.length = p2.follow.length := hx2
          conv => arg 8; simp only [zA, zB, zC, zD, zE, zF, zG, zH, zI, rowS, ret, id_eq, nodeSp, mkL]
          conv => arg 7; simp only [nodeSp]
          refine TW_on (sub_pick [0] (by decide) rfl) ?_
          refine TW_one rfl (TL_slv (i := 2) rfl fun _ qa1 => TL_slv (i := 3) rfl fun _ qb1 => TL_storeB (i := 5) (cs' := #[.bool e1, va1, vb1]) rfl rfl rfl rfl (by simp only [List.all_cons, List.all_nil, qa1, qb1]; rfl) rfl (TW_on (sub_pick [0] (by decide) rfl) ?_))
          repeat (first
            | ((first | refine TW_plain rfl rfl ?_ | refine TW_gmet rfl rfl rfl rfl ?_); first | refine TN_val (qp rfl) rfl rfl ?_ | refine TN_val (qlen Und.eq rfl) rfl rfl ?_ | refine TN_val (qfld FldC.fld rfl rfl) rfl rfl ?_ | refine TN_val (rr_nilc rfl) rfl rfl ?_ | refine TN_val (rr_eql rfl rfl (qT (by omega))) rfl rfl ?_ | refine TN_val (rr_eql rfl rfl (qF (by omega))) rfl rfl ?_)
            | refine TW_skip rfl rfl rfl rfl rfl rfl rfl ?_ | refine TW_done ?_)
          refine TW_one rfl (TL_slv (i := 12) rfl fun _ qa2 => TL_slv (i := 13) rfl fun _ qb2 => TL_storeB (i := 4) (cs' := #[.bool e2, va2, vb2]) rfl rfl rfl rfl (by simp only [List.all_cons, List.all_nil, qa2, qb2]; rfl) rfl (TW_on (sub_pick [0] (by decide) rfl) ?_))
          repeat (first
            | ((first | refine TW_plain rfl rfl ?_ | refine TW_gmet rfl rfl rfl rfl ?_); first | refine TN_val (qp rfl) rfl rfl ?_ | refine TN_val (qlen Und.eq rfl) rfl rfl ?_ | refine TN_val (qfld FldC.fld rfl rfl) rfl rfl ?_ | refine TN_val (rr_nilc rfl) rfl rfl ?_ | refine TN_val (rr_eql rfl rfl (qT (by omega))) rfl rfl ?_ | refine TN_val (rr_eql rfl rfl (qF (by omega))) rfl rfl ?_)
            | refine TW_skip rfl rfl rfl rfl rfl rfl rfl ?_ | refine TW_done ?_)
          refine E_pick [6, 7, 8, 9, 10, 11, 2, 3, 12, 13, 1, 5, 4] (by decide) rfl ?_
          exact E_mid (⟨vc2, vr2, vfol2, vl2, vs2, F2⟩, va1, vb1, va2, vb2, g7, g8) hx2 (by repeat' (first | exact True.intro | refine And.intro rfl ?_)) rfl
    · refine TL_new rfl fun g7 => (TW_on (sub_pick [6] (by decide) rfl) ?_)
      refine TW_two rfl rfl ?_ ?_
      · refine TL_callB [0, 1, 2, 3, 4, 5] [6, 7, 8] (by decide) rfl rfl (he2 EntersC.en rfl rfl rfl) (fun w hm hb => hI1 w _ (rex_on (hm.pick [0, 1, 2, 3, 4, 5] (by decide) rfl) hkid1) hb) rfl rfl rfl ?_
        rintro ⟨⟨vc1, vr1, vfol1, vl1, vs1, F1⟩, va1, vb1⟩ hx1
        have hx1 : vs1.length = p1.follow.length := hx1
        conv => arg 8; simp only [zA, zB, zC, zD, zE, zF, zG, zH, zI, rowS, ret, id_eq, nodeSp, mkL]
        conv => arg 7; simp only [nodeSp]
        refine TW_on (sub_pick [0] (by decide) rfl) ?_
        refine TW_two rfl rfl ?_ ?_
        · refine TL_callB [3, 4, 5, 6, 7, 8] [0, 1, 2, 9, 10] (by decide) rfl rfl (he2 EntersC.en rfl rfl rfl) (fun w hm hb => hI2 ⟨vc1, vr1, vfol1, vl1, vs1, F1⟩ hx1 w _ (rex_on (hm.pick [3, 4, 5, 6, 7, 8] (by decide) rfl) hkid2) hb) rfl rfl rfl ?_
          rintro ⟨⟨vc2, vr2, vfol2, vl2, vs2, F2⟩, va2, vb2⟩ hx2
          have hx2 : vs2.length = p2.follow.length := hx2
          conv => arg 8; simp only [zA, zB, zC, zD, zE, zF, zG, zH, zI, rowS, ret, id_eq, nodeSp, mkL]
          conv => arg 7; simp only [nodeSp]
          refine TW_on (sub_pick [0] (by decide) rfl) ?_
          refine TW_one rfl (TL_new rfl fun g8 => (TW_on (sub_pick [0] (by decide) rfl) ?_))
          refine TW_one rfl (TL_slv (i := 3) rfl fun _ qa1 => TL_slv (i := 4) rfl fun _ qb1 => TL_storeB (i := 2) (cs' := #[.bool e1, va1, vb1]) rfl rfl rfl rfl (by simp only [List.all_cons, List.all_nil, qa1, qb1]; rfl) rfl (TW_on (sub_pick [0] (by decide) rfl) ?_))
          repeat (first
            | ((first | refine TW_plain rfl rfl ?_ | refine TW_gmet rfl rfl rfl rfl ?_); first | refine TN_val (qp rfl) rfl rfl ?_ | refine TN_val (qlen Und.eq rfl) rfl rfl ?_ | refine TN_val (qfld FldC.fld rfl rfl) rfl rfl ?_ | refine TN_val (rr_nilc rfl) rfl rfl ?_ | refine TN_val (rr_eql rfl rfl (qT (by omega))) rfl rfl ?_ | refine TN_val (rr_eql rfl rfl (qF (by omega))) rfl rfl ?_)
            | refine TW_skip rfl rfl rfl rfl rfl rfl rfl ?_ | refine TW_done ?_)
          refine TW_one rfl (TL_slv (i := 11) rfl fun _ qa2 => TL_slv (i := 12) rfl fun _ qb2 => TL_storeB (i := 13) (cs' := #[.bool e2, va2, vb2]) rfl rfl rfl rfl (by simp only [List.all_cons, List.all_nil, qa2, qb2]; rfl) rfl (TW_on (sub_pick [0] (by decide) rfl) ?_))
          repeat (first
            | ((first | refine TW_plain rfl rfl ?_ | refine TW_gmet rfl rfl rfl rfl ?_); first | refine TN_val (qp rfl) rfl rfl ?_ | refine TN_val (qlen Und.eq rfl) rfl rfl ?_ | refine TN_val (qfld FldC.fld rfl rfl) rfl rfl ?_ | refine TN_val (rr_nilc rfl) rfl rfl ?_ | refine TN_val (rr_eql rfl rfl (qT (by omega))) rfl rfl ?_ | refine TN_val (rr_eql rfl rfl (qF (by omega))) rfl rfl ?_)
            | refine TW_skip rfl rfl rfl rfl rfl rfl rfl ?_ | refine TW_done ?_)
          refine E_pick [5, 6, 7, 8, 9, 10, 3, 4, 11, 12, 1, 2, 13] (by decide) rfl ?_
          exact E_mid (⟨vc2, vr2, vfol2, vl2, vs2, F2⟩, va1, vb1, va2, vb2, g7, g8) hx2 (by repeat' (first | exact True.intro | refine And.intro rfl ?_)) rfl
        · refine TL_new rfl fun g8 => (TW_on (sub_pick [0] (by decide) rfl) ?_)
          refine TW_one rfl (TL_callB [3, 4, 5, 6, 7, 8] [0, 1, 2, 9, 10, 11] (by decide) rfl rfl (he2 EntersC.en rfl rfl rfl) (fun w hm hb => hI2 ⟨vc1, vr1, vfol1, vl1, vs1, F1⟩ hx1 w _ (rex_on (hm.pick [3, 4, 5, 6, 7, 8] (by decide) rfl) hkid2) hb) rfl rfl rfl ?_)
          rintro ⟨⟨vc2, vr2, vfol2, vl2, vs2, F2⟩, va2, vb2⟩ hx2
          have hx2 : vs2.length = p2.follow.length := hx2
          conv => arg 8; simp only [zA, zB, zC, zD, zE, zF, zG, zH, zI, rowS, ret, id_eq, nodeSp, mkL]
          conv => arg 7; simp only [nodeSp]
          refine TW_on (sub_pick [0] (by decide) rfl) ?_
          refine TW_one rfl (TL_slv (i := 3) rfl fun _ qa1 => TL_slv (i := 4) rfl fun _ qb1 => TL_storeB (i := 2) (cs' := #[.bool e1, va1, vb1]) rfl rfl rfl rfl (by simp only [List.all_cons, List.all_nil, qa1, qb1]; rfl) rfl (TW_on (sub_pick [0] (by decide) rfl) ?_))
          repeat (first
            | ((first | refine TW_plain rfl rfl ?_ | refine TW_gmet rfl rfl rfl rfl ?_); first | refine TN_val (qp rfl) rfl rfl ?_ | refine TN_val (qlen Und.eq rfl) rfl rfl ?_ | refine TN_val (qfld FldC.fld rfl rfl) rfl rfl ?_ | refine TN_val (rr_nilc rfl) rfl rfl ?_ | refine TN_val (rr_eql rfl rfl (qT (by omega))) rfl rfl ?_ | refine TN_val (rr_eql rfl rfl (qF (by omega))) rfl rfl ?_)
            | refine TW_skip rfl rfl rfl rfl rfl rfl rfl ?_ | refine TW_done ?_)
          refine TW_one rfl (TL_slv (i := 12) rfl fun _ qa2 => TL_slv (i := 13) rfl fun _ qb2 => TL_storeB (i := 5) (cs' := #[.bool e2, va2, vb2]) rfl rfl rfl rfl (by simp only [List.all_cons, List.all_nil, qa2, qb2]; rfl) rfl (TW_on (sub_pick [0] (by decide) rfl) ?_))
          repeat (first
            | ((first | refine TW_plain rfl rfl ?_ | refine TW_gmet rfl rfl rfl rfl ?_); first | refine TN_val (qp rfl) rfl rfl ?_ | refine TN_val (qlen Und.eq rfl) rfl rfl ?_ | refine TN_val (qfld FldC.fld rfl rfl) rfl rfl ?_ | refine TN_val (rr_nilc rfl) rfl rfl ?_ | refine TN_val (rr_eql rfl rfl (qT (by omega))) rfl rfl ?_ | refine TN_val (rr_eql rfl rfl (qF (by omega))) rfl rfl ?_)
            | refine TW_skip rfl rfl rfl rfl rfl rfl rfl ?_ | refine TW_done ?_)
          refine E_pick [6, 7, 8, 9, 10, 11, 3, 4, 12, 13, 1, 2, 5] (by decide) rfl ?_
          exact E_mid (⟨vc2, vr2, vfol2, vl2, vs2, F2⟩, va1, vb1, va2, vb2, g7, g8) hx2 (by repeat' (first | exact True.intro | refine And.intro rfl ?_)) rfl
      · refine TL_new rfl fun g8 => (TW_on (sub_pick [6] (by decide) rfl) ?_)
        refine TW_one rfl (TL_callB [0, 1, 2, 3, 4, 5] [6, 7, 8, 9] (by decide) rfl rfl (he2 EntersC.en rfl rfl rfl) (fun w hm hb => hI1 w _ (rex_on (hm.pick [0, 1, 2, 3, 4, 5] (by decide) rfl) hkid1) hb) rfl rfl rfl ?_)
        rintro ⟨⟨vc1, vr1, vfol1, vl1, vs1, F1⟩, va1, vb1⟩ hx1
        have hx1 : vs1.length = p1.follow.length := hx1
        conv => arg 8; simp only [zA, zB, zC, zD, zE, zF, zG, zH, zI, rowS, ret, id_eq, nodeSp, mkL]
        conv => arg 7; simp only [nodeSp]
        refine TW_on (sub_pick [0] (by decide) rfl) ?_
        refine TW_one rfl (TL_callB [4, 5, 6, 7, 8, 9] [0, 1, 2, 3, 10, 11] (by decide) rfl rfl (he2 EntersC.en rfl rfl rfl) (fun w hm hb => hI2 ⟨vc1, vr1, vfol1, vl1, vs1, F1⟩ hx1 w _ (rex_on (hm.pick [4, 5, 6, 7, 8, 9] (by decide) rfl) hkid2) hb) rfl rfl rfl ?_)
        rintro ⟨⟨vc2, vr2, vfol2, vl2, vs2, F2⟩, va2, vb2⟩ hx2
        have hx2 : vs2.length = p2.follow.length := hx2
        conv => arg 8; simp only [zA, zB, zC, zD, zE, zF, zG, zH, zI, rowS, ret, id_eq, nodeSp, mkL]
        conv => arg 7; simp only [nodeSp]
        refine TW_on (sub_pick [0] (by decide) rfl) ?_
        refine TW_one rfl (TL_slv (i := 4) rfl fun _ qa1 => TL_slv (i := 5) rfl fun _ qb1 => TL_storeB (i := 2) (cs' := #[.bool e1, va1, vb1]) rfl rfl rfl rfl (by simp only [List.all_cons, List.all_nil, qa1, qb1]; rfl) rfl (TW_on (sub_pick [0] (by decide) rfl) ?_))
        repeat (first
          | ((first | refine TW_plain rfl rfl ?_ | refine TW_gmet rfl rfl rfl rfl ?_); first | refine TN_val (qp rfl) rfl rfl ?_ | refine TN_val (qlen Und.eq rfl) rfl rfl ?_ | refine TN_val (qfld FldC.fld rfl rfl) rfl rfl ?_ | refine TN_val (rr_nilc rfl) rfl rfl ?_ | refine TN_val (rr_eql rfl rfl (qT (by omega))) rfl rfl ?_ | refine TN_val (rr_eql rfl rfl (qF (by omega))) rfl rfl ?_)
          | refine TW_skip rfl rfl rfl rfl rfl rfl rfl ?_ | refine TW_done ?_)
        refine TW_one rfl (TL_slv (i := 12) rfl fun _ qa2 => TL_slv (i := 13) rfl fun _ qb2 => TL_storeB (i := 3) (cs' := #[.bool e2, va2, vb2]) rfl rfl rfl rfl (by simp only [List.all_cons, List.all_nil, qa2, qb2]; rfl) rfl (TW_on (sub_pick [0] (by decide) rfl) ?_))
        repeat (first
          | ((first | refine TW_plain rfl rfl ?_ | refine TW_gmet rfl rfl rfl rfl ?_); first | refine TN_val (qp rfl) rfl rfl ?_ | refine TN_val (qlen Und.eq rfl) rfl rfl ?_ | refine TN_val (qfld FldC.fld rfl rfl) rfl rfl ?_ | refine TN_val (rr_nilc rfl) rfl rfl ?_ | refine TN_val (rr_eql rfl rfl (qT (by omega))) rfl rfl ?_ | refine TN_val (rr_eql rfl rfl (qF (by omega))) rfl rfl ?_)
          | refine TW_skip rfl rfl rfl rfl rfl rfl rfl ?_ | refine TW_done ?_)
        refine E_pick [6, 7, 8, 9, 10, 11, 4, 5, 12, 13, 1, 2, 3] (by decide) rfl ?_
        exact E_mid (⟨vc2, vr2, vfol2, vl2, vs2, F2⟩, va1, vb1, va2, vb2, g7, g8) hx2 (by repeat' (first | exact True.intro | refine And.intro rfl ?_)) rfl
    · refine TL_new rfl fun g8 => (TW_on (sub_pick [6] (by decide) rfl) ?_)
      refine TW_two rfl rfl ?_ ?_
      · refine TL_callB [0, 1, 2, 3, 4, 5] [6, 7, 8] (by decide) rfl rfl (he2 EntersC.en rfl rfl rfl) (fun w hm hb => hI1 w _ (rex_on (hm.pick [0, 1, 2, 3, 4, 5] (by decide) rfl) hkid1) hb) rfl rfl rfl ?_
        rintro ⟨⟨vc1, vr1, vfol1, vl1, vs1, F1⟩, va1, vb1⟩ hx1
        have hx1 : vs1.length = p1.follow.length := hx1
        conv => arg 8; simp only [zA, zB, zC, zD, zE, zF, zG, zH, zI, rowS, ret, id_eq, nodeSp, mkL]
        conv => arg 7; simp only [nodeSp]
        refine TW_on (sub_pick [0] (by decide) rfl) ?_
        refine TW_two rfl rfl ?_ ?_
        · refine TL_callB [3, 4, 5, 6, 7, 8] [0, 1, 2, 9, 10] (by decide) rfl rfl (he2 EntersC.en rfl rfl rfl) (fun w hm hb => hI2 ⟨vc1, vr1, vfol1, vl1, vs1, F1⟩ hx1 w _ (rex_on (hm.pick [3, 4, 5, 6, 7, 8] (by decide) rfl) hkid2) hb) rfl rfl rfl ?_
          rintro ⟨⟨vc2, vr2, vfol2, vl2, vs2, F2⟩, va2, vb2⟩ hx2
          have hx2 : vs2.length = p2.follow.length := hx2
          conv => arg 8; simp only [zA, zB, zC, zD, zE, zF, zG, zH, zI, rowS, ret, id_eq, nodeSp, mkL]
          conv => arg 7; simp only [nodeSp]
          refine TW_on (sub_pick [0] (by decide) rfl) ?_
          refine TW_one rfl (TL_new rfl fun g7 => (TW_on (sub_pick [0] (by decide) rfl) ?_))
          refine TW_one rfl (TL_slv (i := 3) rfl fun _ qa1 => TL_slv (i := 4) rfl fun _ qb1 => TL_storeB (i := 13) (cs' := #[.bool e1, va1, vb1]) rfl rfl rfl rfl (by simp only [List.all_cons, List.all_nil, qa1, qb1]; rfl) rfl (TW_on (sub_pick [0] (by decide) rfl) ?_))
          repeat (first
            | ((first | refine TW_plain rfl rfl ?_ | refine TW_gmet rfl rfl rfl rfl ?_); first | refine TN_val (qp rfl) rfl rfl ?_ | refine TN_val (qlen Und.eq rfl) rfl rfl ?_ | refine TN_val (qfld FldC.fld rfl rfl) rfl rfl ?_ | refine TN_val (rr_nilc rfl) rfl rfl ?_ | refine TN_val (rr_eql rfl rfl (qT (by omega))) rfl rfl ?_ | refine TN_val (rr_eql rfl rfl (qF (by omega))) rfl rfl ?_)
            | refine TW_skip rfl rfl rfl rfl rfl rfl rfl ?_ | refine TW_done ?_)
          refine TW_one rfl (TL_slv (i := 11) rfl fun _ qa2 => TL_slv (i := 12) rfl fun _ qb2 => TL_storeB (i := 2) (cs' := #[.bool e2, va2, vb2]) rfl rfl rfl rfl (by simp only [List.all_cons, List.all_nil, qa2, qb2]; rfl) rfl (TW_on (sub_pick [0] (by decide) rfl) ?_))
          repeat (first
            | ((first | refine TW_plain rfl rfl ?_ | refine TW_gmet rfl rfl rfl rfl ?_); first | refine TN_val (qp rfl) rfl rfl ?_ | refine TN_val (qlen Und.eq rfl) rfl rfl ?_ | refine TN_val (qfld FldC.fld rfl rfl) rfl rfl ?_ | refine TN_val (rr_nilc rfl) rfl rfl ?_ | refine TN_val (rr_eql rfl rfl (qT (by omega))) rfl rfl ?_ | refine TN_val (rr_eql rfl rfl (qF (by omega))) rfl rfl ?_)
            | refine TW_skip rfl rfl rfl rfl rfl rfl rfl ?_ | refine TW_done ?_)
          refine E_pick [5, 6, 7, 8, 9, 10, 3, 4, 11, 12, 1, 13, 2] (by decide) rfl ?_
          exact E_mid (⟨vc2, vr2, vfol2, vl2, vs2, F2⟩, va1, vb1, va2, vb2, g7, g8) hx2 (by repeat' (first | exact True.intro | refine And.intro rfl ?_)) rfl
        · refine TL_new rfl fun g7 => (TW_on (sub_pick [0] (by decide) rfl) ?_)
          refine TW_one rfl (TL_callB [3, 4, 5, 6, 7, 8] [0, 1, 2, 9, 10, 11] (by decide) rfl rfl (he2 EntersC.en rfl rfl rfl) (fun w hm hb => hI2 ⟨vc1, vr1, vfol1, vl1, vs1, F1⟩ hx1 w _ (rex_on (hm.pick [3, 4, 5, 6, 7, 8] (by decide) rfl) hkid2) hb) rfl rfl rfl ?_)
          rintro ⟨⟨vc2, vr2, vfol2, vl2, vs2, F2⟩, va2, vb2⟩ hx2
          have hx2 : vs2.length = p2.follow.length := hx2
          conv => arg 8; simp only [zA, zB, zC, zD, zE, zF, zG, zH, zI, rowS, ret, id_eq, nodeSp, mkL]
          conv => arg 7; simp only [nodeSp]
          refine TW_on (sub_pick [0] (by decide) rfl) ?_
          refine TW_one rfl (TL_slv (i := 3) rfl fun _ qa1 => TL_slv (i := 4) rfl fun _ qb1 => TL_storeB (i := 5) (cs' := #[.bool e1, va1, vb1]) rfl rfl rfl rfl (by simp only [List.all_cons, List.all_nil, qa1, qb1]; rfl) rfl (TW_on (sub_pick [0] (by decide) rfl) ?_))
          repeat (first
            | ((first | refine TW_plain rfl rfl ?_ | refine TW_gmet rfl rfl rfl rfl ?_); first | refine TN_val (qp rfl) rfl rfl ?_ | refine TN_val (qlen Und.eq rfl) rfl rfl ?_ | refine TN_val (qfld FldC.fld rfl rfl) rfl rfl ?_ | refine TN_val (rr_nilc rfl) rfl rfl ?_ | refine TN_val (rr_eql rfl rfl (qT (by omega))) rfl rfl ?_ | refine TN_val (rr_eql rfl rfl (qF (by omega))) rfl rfl ?_)
            | refine TW_skip rfl rfl rfl rfl rfl rfl rfl ?_ | refine TW_done ?_)
          refine TW_one rfl (TL_slv (i := 12) rfl fun _ qa2 => TL_slv (i := 13) rfl fun _ qb2 => TL_storeB (i := 2) (cs' := #[.bool e2, va2, vb2]) rfl rfl rfl rfl (by simp only [List.all_cons, List.all_nil, qa2, qb2]; rfl) rfl (TW_on (sub_pick [0] (by decide) rfl) ?_))
          repeat (first
            | ((first | refine TW_plain rfl rfl ?_ | refine TW_gmet rfl rfl rfl rfl ?_); first | refine TN_val (qp rfl) rfl rfl ?_ | refine TN_val (qlen Und.eq rfl) rfl rfl ?_ | refine TN_val (qfld FldC.fld rfl rfl) rfl rfl ?_ | refine TN_val (rr_nilc rfl) rfl rfl ?_ | refine TN_val (rr_eql rfl rfl (qT (by omega))) rfl rfl ?_ | refine TN_val (rr_eql rfl rfl (qF (by omega))) rfl rfl ?_)
            | refine TW_skip rfl rfl rfl rfl rfl rfl rfl ?_ | refine TW_done ?_)
          refine E_pick [6, 7, 8, 9, 10, 11, 3, 4, 12, 13, 1, 5, 2] (by decide) rfl ?_
          exact E_mid (⟨vc2, vr2, vfol2, vl2, vs2, F2⟩, va1, vb1, va2, vb2, g7, g8) hx2 (by repeat' (first | exact True.intro | refine And.intro rfl ?_)) rfl
      · refine TL_new rfl fun g7 => (TW_on (sub_pick [6] (by decide) rfl) ?_)
        refine TW_one rfl (TL_callB [0, 1, 2, 3, 4, 5] [6, 7, 8, 9] (by decide) rfl rfl (he2 EntersC.en rfl rfl rfl) (fun w hm hb => hI1 w _ (rex_on (hm.pick [0, 1, 2, 3, 4, 5] (by decide) rfl) hkid1) hb) rfl rfl rfl ?_)
        rintro ⟨⟨vc1, vr1, vfol1, vl1, vs1, F1⟩, va1, vb1⟩ hx1
        have hx1 : vs1.length = p1.follow.length := hx1
        conv => arg 8; simp only [zA, zB, zC, zD, zE, zF, zG, zH, zI, rowS, ret, id_eq, nodeSp, mkL]
        conv => arg 7; simp only [nodeSp]
        refine TW_on (sub_pick [0] (by decide) rfl) ?_
        refine TW_one rfl (TL_callB [4, 5, 6, 7, 8, 9] [0, 1, 2, 3, 10, 11] (by decide) rfl rfl (he2 EntersC.en rfl rfl rfl) (fun w hm hb => hI2 ⟨vc1, vr1, vfol1, vl1, vs1, F1⟩ hx1 w _ (rex_on (hm.pick [4, 5, 6, 7, 8, 9] (by decide) rfl) hkid2) hb) rfl rfl rfl ?_)
        rintro ⟨⟨vc2, vr2, vfol2, vl2, vs2, F2⟩, va2, vb2⟩ hx2
        have hx2 : vs2.length = p2.follow.length := hx2
        conv => arg 8; simp only [zA, zB, zC, zD, zE, zF, zG, zH, zI, rowS, ret, id_eq, nodeSp, mkL]
        conv => arg 7; simp only [nodeSp]
        refine TW_on (sub_pick [0] (by decide) rfl) ?_
        refine TW_one rfl (TL_slv (i := 4) rfl fun _ qa1 => TL_slv (i := 5) rfl fun _ qb1 => TL_storeB (i := 3) (cs' := #[.bool e1, va1, vb1]) rfl rfl rfl rfl (by simp only [List.all_cons, List.all_nil, qa1, qb1]; rfl) rfl (TW_on (sub_pick [0] (by decide) rfl) ?_))
        repeat (first
          | ((first | refine TW_plain rfl rfl ?_ | refine TW_gmet rfl rfl rfl rfl ?_); first | refine TN_val (qp rfl) rfl rfl ?_ | refine TN_val (qlen Und.eq rfl) rfl rfl ?_ | refine TN_val (qfld FldC.fld rfl rfl) rfl rfl ?_ | refine TN_val (rr_nilc rfl) rfl rfl ?_ | refine TN_val (rr_eql rfl rfl (qT (by omega))) rfl rfl ?_ | refine TN_val (rr_eql rfl rfl (qF (by omega))) rfl rfl ?_)
          | refine TW_skip rfl rfl rfl rfl rfl rfl rfl ?_ | refine TW_done ?_)
        refine TW_one rfl (TL_slv (i := 12) rfl fun _ qa2 => TL_slv (i := 13) rfl fun _ qb2 => TL_storeB (i := 2) (cs' := #[.bool e2, va2, vb2]) rfl rfl rfl rfl (by simp only [List.all_cons, List.all_nil, qa2, qb2]; rfl) rfl (TW_on (sub_pick [0] (by decide) rfl) ?_))
        repeat (first
          | ((first | refine TW_plain rfl rfl ?_ | refine TW_gmet rfl rfl rfl rfl ?_); first | refine TN_val (qp rfl) rfl rfl ?_ | refine TN_val (qlen Und.eq rfl) rfl rfl ?_ | refine TN_val (qfld FldC.fld rfl rfl) rfl rfl ?_ | refine TN_val (rr_nilc rfl) rfl rfl ?_ | refine TN_val (rr_eql rfl rfl (qT (by omega))) rfl rfl ?_ | refine TN_val (rr_eql rfl rfl (qF (by omega))) rfl rfl ?_)
          | refine TW_skip rfl rfl rfl rfl rfl rfl rfl ?_ | refine TW_done ?_)
        refine E_pick [6, 7, 8, 9, 10, 11, 4, 5, 12, 13, 1, 3, 2] (by decide) rfl ?_
        exact E_mid (⟨vc2, vr2, vfol2, vl2, vs2, F2⟩, va1, vb1, va2, vb2, g7, g8) hx2 (by repeat' (first | exact True.intro | refine And.intro rfl ?_)) rfl
  clear hI1 hI2 hat1 hat2
  rintro ⟨⟨vc, vr, vfol, vl, vs, F⟩, va1, vb1, va2, vb2, g7, g8⟩ hx2
  have hx2 : vs.length = p2.follow.length := hx2
  dsimp only
  conv => arg 7; simp only [zA, zB, zC, zD, zE, zF, zG, zH, zI, rowS, ret, id_eq, mkL]
  have hl1 := ris_len hp4
  have hl2 := ris_len hp5
  have hl3 := ris_len kp4
  have hl4 := ris_len kp5
  repeat (first
    | refine qv rfl (qp rfl) rfl rfl ?_ | refine TL_nil ?_ | refine T_seq ?_ | refine T_region ?_ | refine qcT rfl ?_ | refine qcF rfl ?_ | refine T_skip ?_
    | refine T_ret ?_ | refine T_block ?_ | refine E_then ?_ | refine E_thenR ?_ | refine E_blockN ?_ | refine E_blockR ?_
    | refine qs rfl rfl rfl rfl rfl rfl ?_
    | ((try refine qg rfl rfl rfl ?_); first | refine qv rfl (qp rfl) rfl rfl ?_ | refine qv rfl (rr_load1 (v := vb1) TyC.ty rfl (at_blk (i := 11) rfl rfl)) rfl rfl ?_ | refine qv rfl (rr_load1 (v := va2) TyC.ty rfl (at_blk (i := 12) rfl rfl)) rfl rfl ?_ | refine qv rfl (qlen Und.eq rfl) rfl rfl ?_ | refine qv rfl (qfld FldC.fld rfl rfl) rfl rfl ?_ | refine qv rfl (rr_nilc rfl) rfl rfl ?_ | refine qv rfl (rr_eql rfl rfl (qT (by omega))) rfl rfl ?_ | refine qv rfl (rr_eql rfl rfl (qF (by omega))) rfl rfl ?_))
  refine TL_callB [0, 3, 4, 7, 8] [1, 2, 5, 6, 9, 10, 11, 12] (by decide) rfl rfl (he3 EntersC.en rfl rfl rfl rfl) (fun w hm hb => behind_calls g vc vr vf vfol vl ve rule vb1 va2 vs F p2.follow last1 first2 w _ hx2 (by rw [kp1.follow]; omega) (by rw [kp1.follow]; exact kp1.ris) (by rw [kp1.follow]; exact ris_mono hp5 kp2) (by rw [kp1.follow]; exact kp4) hb) rfl rfl rfl ?_
  rintro ⟨vs', F'⟩ hx3
  have hx3 : vs'.length = p2.follow.length := hx3
  conv => arg 8; simp only [zA, zB, zC, zD, zE, zF, zG, zH, zI, rowS, ret, id_eq, behSp]
  refine TL_rowv (i := 3) rfl fun ba ca hva _ _ => ?_
  refine TL_rowv (i := 4) rfl fun bb cb hvb _ _ => ?_
  subst hva hvb
  cases e1 with
  | true =>
    cases e2 with
    | true =>
      repeat (first
        | refine qv rfl (qp rfl) rfl rfl ?_ | refine TL_nil ?_ | refine T_seq ?_ | refine T_region ?_ | refine qcT rfl ?_ | refine qcF rfl ?_ | refine T_skip ?_
        | refine T_ret ?_ | refine T_block ?_ | refine E_then ?_ | refine E_thenR ?_ | refine E_blockN ?_ | refine E_blockR ?_
        | refine qs rfl rfl rfl rfl rfl rfl ?_
        | ((try refine qg rfl rfl rfl ?_); first | refine qv rfl (qp rfl) rfl rfl ?_ | refine qv rfl (rr_load1 TyC.ty rfl (at_blk (i := 6) rfl rfl)) rfl rfl ?_ | refine qv rfl (rr_load1 TyC.ty rfl (at_blk (i := 7) rfl rfl)) rfl rfl ?_ | refine qv rfl (rr_build rfl (build_shpA _ _ _ _ _ _ _)) rfl rfl ?_ | refine qv rfl (qlen Und.eq rfl) rfl rfl ?_ | refine qv rfl (qfld FldC.fld rfl rfl) rfl rfl ?_ | refine qv rfl (rr_nilc rfl) rfl rfl ?_ | refine qv rfl (rr_eql rfl rfl (qT (by omega))) rfl rfl ?_ | refine qv rfl (rr_eql rfl rfl (qF (by omega))) rfl rfl ?_))
      refine TL_new rfl fun g11 => ?_
      conv => arg 8; simp only [zA, zB, zC, zD, zE, zF, zG, zH, zI, rowS, ret, id_eq]
      refine TL_storeB (i := 13) (cs' := #[.bool true, .slice ba first1.length ca, .slice bb last2.length cb]) rfl rfl rfl rfl rfl rfl ?_
      conv => arg 8; simp only [zA, zB, zC, zD, zE, zF, zG, zH, zI, rowS, ret, id_eq]
      repeat (first
        | refine qv rfl (qp rfl) rfl rfl ?_ | refine TL_nil ?_ | refine T_seq ?_ | refine T_region ?_ | refine qcT rfl ?_ | refine qcF rfl ?_ | refine T_skip ?_
        | refine T_ret ?_ | refine T_block ?_ | refine E_then ?_ | refine E_thenR ?_ | refine E_blockN ?_ | refine E_blockR ?_
        | refine qs rfl rfl rfl rfl rfl rfl ?_
        | ((try refine qg rfl rfl rfl ?_); first | refine qv rfl (qp rfl) rfl rfl ?_ | refine qv rfl (rr_load1 TyC.ty rfl (at_blk (i := 6) rfl rfl)) rfl rfl ?_ | refine qv rfl (rr_load1 TyC.ty rfl (at_blk (i := 7) rfl rfl)) rfl rfl ?_ | refine qv rfl (qlen Und.eq rfl) rfl rfl ?_ | refine qv rfl (qfld FldC.fld rfl rfl) rfl rfl ?_ | refine qv rfl (rr_nilc rfl) rfl rfl ?_ | refine qv rfl (rr_eql rfl rfl (qT (by omega))) rfl rfl ?_ | refine qv rfl (rr_eql rfl rfl (qF (by omega))) rfl rfl ?_))
      refine TL_call (he2 EntersC.en rfl rfl rfl) (fun w' hm => union_calls _ va2 first1 first2 w' (Sl.of_own (hm.get (i := 3) rfl)) (Sl.of_own (hm.get (i := 12) rfl)) (by omega) (by omega)) rfl rfl rfl ?_
      intro vu _
      conv => arg 8; simp only [zA, zB, zC, zD, zE, zF, zG, zH, zI, rowS, ret, id_eq, intRS]
      repeat (first
        | refine qv rfl (qp rfl) rfl rfl ?_ | refine TL_nil ?_ | refine T_seq ?_ | refine T_region ?_ | refine qcT rfl ?_ | refine qcF rfl ?_ | refine T_skip ?_
        | refine T_ret ?_ | refine T_block ?_ | refine E_then ?_ | refine E_thenR ?_ | refine E_blockN ?_ | refine E_blockR ?_
        | refine qs rfl rfl rfl rfl rfl rfl ?_
        | ((try refine qg rfl rfl rfl ?_); first | refine qv rfl (qp rfl) rfl rfl ?_ | refine qv rfl (qlen Und.eq rfl) rfl rfl ?_ | refine qv rfl (qfld FldC.fld rfl rfl) rfl rfl ?_ | refine qv rfl (rr_nilc rfl) rfl rfl ?_ | refine qv rfl (rr_eql rfl rfl (qT (by omega))) rfl rfl ?_ | refine qv rfl (rr_eql rfl rfl (qF (by omega))) rfl rfl ?_))
      refine TL_slv (i := 14) rfl fun qu1 qu2 => TL_store1 (i := 13) rfl rfl rfl qu1 qu2 rfl ?_
      conv => arg 8; simp only [zA, zB, zC, zD, zE, zF, zG, zH, zI, rowS, ret, id_eq]
      repeat (first
        | refine qv rfl (qp rfl) rfl rfl ?_ | refine TL_nil ?_ | refine T_seq ?_ | refine T_region ?_ | refine qcT rfl ?_ | refine qcF rfl ?_ | refine T_skip ?_
        | refine T_ret ?_ | refine T_block ?_ | refine E_then ?_ | refine E_thenR ?_ | refine E_blockN ?_ | refine E_blockR ?_
        | refine qs rfl rfl rfl rfl rfl rfl ?_
        | ((try refine qg rfl rfl rfl ?_); first | refine qv rfl (qp rfl) rfl rfl ?_ | refine qv rfl (rr_load1 TyC.ty rfl (at_blk (i := 6) rfl rfl)) rfl rfl ?_ | refine qv rfl (rr_load1 TyC.ty rfl (at_blk (i := 7) rfl rfl)) rfl rfl ?_ | refine qv rfl (qlen Und.eq rfl) rfl rfl ?_ | refine qv rfl (qfld FldC.fld rfl rfl) rfl rfl ?_ | refine qv rfl (rr_nilc rfl) rfl rfl ?_ | refine qv rfl (rr_eql rfl rfl (qT (by omega))) rfl rfl ?_ | refine qv rfl (rr_eql rfl rfl (qF (by omega))) rfl rfl ?_))
      refine TL_call (he2 EntersC.en rfl rfl rfl) (fun w' hm => union_calls vb1 _ last1 last2 w' (Sl.of_own (hm.get (i := 11) rfl)) (Sl.of_own (hm.get (i := 4) rfl)) (by omega) (by omega)) rfl rfl rfl ?_
      intro vu2 _
      conv => arg 8; simp only [zA, zB, zC, zD, zE, zF, zG, zH, zI, rowS, ret, id_eq, intRS]
      repeat (first
        | refine qv rfl (qp rfl) rfl rfl ?_ | refine TL_nil ?_ | refine T_seq ?_ | refine T_region ?_ | refine qcT rfl ?_ | refine qcF rfl ?_ | refine T_skip ?_
        | refine T_ret ?_ | refine T_block ?_ | refine E_then ?_ | refine E_thenR ?_ | refine E_blockN ?_ | refine E_blockR ?_
        | refine qs rfl rfl rfl rfl rfl rfl ?_
        | ((try refine qg rfl rfl rfl ?_); first | refine qv rfl (qp rfl) rfl rfl ?_ | refine qv rfl (qlen Und.eq rfl) rfl rfl ?_ | refine qv rfl (qfld FldC.fld rfl rfl) rfl rfl ?_ | refine qv rfl (rr_nilc rfl) rfl rfl ?_ | refine qv rfl (rr_eql rfl rfl (qT (by omega))) rfl rfl ?_ | refine qv rfl (rr_eql rfl rfl (qF (by omega))) rfl rfl ?_))
      refine TL_slv (i := 15) rfl fun qv1 qv2 => TL_store1 (i := 13) rfl rfl rfl qv1 qv2 rfl ?_
      conv => arg 8; simp only [zA, zB, zC, zD, zE, zF, zG, zH, zI, rowS, ret, id_eq]
      repeat (first
        | refine qv rfl (qp rfl) rfl rfl ?_ | refine TL_nil ?_ | refine T_seq ?_ | refine T_region ?_ | refine qcT rfl ?_ | refine qcF rfl ?_ | refine T_skip ?_
        | refine T_ret ?_ | refine T_block ?_ | refine E_then ?_ | refine E_thenR ?_ | refine E_blockN ?_ | refine E_blockR ?_
        | refine qs rfl rfl rfl rfl rfl rfl ?_
        | ((try refine qg rfl rfl rfl ?_); first | refine qv rfl (qp rfl) rfl rfl ?_ | refine qv rfl (rr_loadB (i := 13) TyC.ty rfl rfl rfl) rfl rfl ?_ | refine qv rfl (rr_load1 TyC.ty rfl (at_blk (i := 6) rfl rfl)) rfl rfl ?_ | refine qv rfl (rr_load1 TyC.ty rfl (at_blk (i := 7) rfl rfl)) rfl rfl ?_ | refine qv rfl (qlen Und.eq rfl) rfl rfl ?_ | refine qv rfl (qfld FldC.fld rfl rfl) rfl rfl ?_ | refine qv rfl (rr_nilc rfl) rfl rfl ?_ | refine qv rfl (rr_eql rfl rfl (qT (by omega))) rfl rfl ?_ | refine qv rfl (rr_eql rfl rfl (qF (by omega))) rfl rfl ?_))
      refine TL_storeB (i := 5) (cs' := #[.bool true, vu, vu2]) rfl rfl rfl rfl (by simp only [List.all_cons, List.all_nil, qu2, qv2]; rfl) rfl ?_
      conv => arg 8; simp only [zA, zB, zC, zD, zE, zF, zG, zH, zI, rowS, ret, id_eq]
      repeat (first
        | refine qv rfl (qp rfl) rfl rfl ?_ | refine TL_nil ?_ | refine T_seq ?_ | refine T_region ?_ | refine qcT rfl ?_ | refine qcF rfl ?_ | refine T_skip ?_
        | refine T_ret ?_ | refine T_block ?_ | refine E_then ?_ | refine E_thenR ?_ | refine E_blockN ?_ | refine E_blockR ?_
        | refine qs rfl rfl rfl rfl rfl rfl ?_
        | ((try refine qg rfl rfl rfl ?_); first | refine qv rfl (qp rfl) rfl rfl ?_ | refine qv rfl (qlen Und.eq rfl) rfl rfl ?_ | refine qv rfl (qfld FldC.fld rfl rfl) rfl rfl ?_ | refine qv rfl (rr_nilc rfl) rfl rfl ?_ | refine qv rfl (rr_eql rfl rfl (qT (by omega))) rfl rfl ?_ | refine qv rfl (rr_eql rfl rfl (qF (by omega))) rfl rfl ?_))
      refine E_retc1 (i := 5) rfl rfl rfl rfl fun w hm => ?_
      exact hm.meetsB (S := nodeSp g vf ve rule (⟨true, uni first1 first2, uni last1 last2⟩, { p2 with follow := behindF p2.follow last1 first2 })) (⟨vc, vr, vfol, vl, vs', F'⟩, vu, vu2) (by show vs'.length = (behindF p2.follow last1 first2).length; rw [behind_len]; exact hx3) [8, 0, 1, 9, 10, 2, 14, 15] (by decide) rfl
    | false =>
      repeat (first
        | refine qv rfl (qp rfl) rfl rfl ?_ | refine TL_nil ?_ | refine T_seq ?_ | refine T_region ?_ | refine qcT rfl ?_ | refine qcF rfl ?_ | refine T_skip ?_
        | refine T_ret ?_ | refine T_block ?_ | refine E_then ?_ | refine E_thenR ?_ | refine E_blockN ?_ | refine E_blockR ?_
        | refine qs rfl rfl rfl rfl rfl rfl ?_
        | ((try refine qg rfl rfl rfl ?_); first | refine qv rfl (qp rfl) rfl rfl ?_ | refine qv rfl (rr_load1 TyC.ty rfl (at_blk (i := 6) rfl rfl)) rfl rfl ?_ | refine qv rfl (rr_load1 TyC.ty rfl (at_blk (i := 7) rfl rfl)) rfl rfl ?_ | refine qv rfl (rr_build rfl (build_shpA _ _ _ _ _ _ _)) rfl rfl ?_ | refine qv rfl (qlen Und.eq rfl) rfl rfl ?_ | refine qv rfl (qfld FldC.fld rfl rfl) rfl rfl ?_ | refine qv rfl (rr_nilc rfl) rfl rfl ?_ | refine qv rfl (rr_eql rfl rfl (qT (by omega))) rfl rfl ?_ | refine qv rfl (rr_eql rfl rfl (qF (by omega))) rfl rfl ?_))
      refine TL_new rfl fun g11 => ?_
      conv => arg 8; simp only [zA, zB, zC, zD, zE, zF, zG, zH, zI, rowS, ret, id_eq]
      refine TL_storeB (i := 13) (cs' := #[.bool false, .slice ba first1.length ca, .slice bb last2.length cb]) rfl rfl rfl rfl rfl rfl ?_
      conv => arg 8; simp only [zA, zB, zC, zD, zE, zF, zG, zH, zI, rowS, ret, id_eq]
      repeat (first
        | refine qv rfl (qp rfl) rfl rfl ?_ | refine TL_nil ?_ | refine T_seq ?_ | refine T_region ?_ | refine qcT rfl ?_ | refine qcF rfl ?_ | refine T_skip ?_
        | refine T_ret ?_ | refine T_block ?_ | refine E_then ?_ | refine E_thenR ?_ | refine E_blockN ?_ | refine E_blockR ?_
        | refine qs rfl rfl rfl rfl rfl rfl ?_
        | ((try refine qg rfl rfl rfl ?_); first | refine qv rfl (qp rfl) rfl rfl ?_ | refine qv rfl (rr_load1 TyC.ty rfl (at_blk (i := 6) rfl rfl)) rfl rfl ?_ | refine qv rfl (rr_load1 TyC.ty rfl (at_blk (i := 7) rfl rfl)) rfl rfl ?_ | refine qv rfl (qlen Und.eq rfl) rfl rfl ?_ | refine qv rfl (qfld FldC.fld rfl rfl) rfl rfl ?_ | refine qv rfl (rr_nilc rfl) rfl rfl ?_ | refine qv rfl (rr_eql rfl rfl (qT (by omega))) rfl rfl ?_ | refine qv rfl (rr_eql rfl rfl (qF (by omega))) rfl rfl ?_))
      refine TL_call (he2 EntersC.en rfl rfl rfl) (fun w' hm => union_calls _ va2 first1 first2 w' (Sl.of_own (hm.get (i := 3) rfl)) (Sl.of_own (hm.get (i := 12) rfl)) (by omega) (by omega)) rfl rfl rfl ?_
      intro vu _
      conv => arg 8; simp only [zA, zB, zC, zD, zE, zF, zG, zH, zI, rowS, ret, id_eq, intRS]
      repeat (first
        | refine qv rfl (qp rfl) rfl rfl ?_ | refine TL_nil ?_ | refine T_seq ?_ | refine T_region ?_ | refine qcT rfl ?_ | refine qcF rfl ?_ | refine T_skip ?_
        | refine T_ret ?_ | refine T_block ?_ | refine E_then ?_ | refine E_thenR ?_ | refine E_blockN ?_ | refine E_blockR ?_
        | refine qs rfl rfl rfl rfl rfl rfl ?_
        | ((try refine qg rfl rfl rfl ?_); first | refine qv rfl (qp rfl) rfl rfl ?_ | refine qv rfl (qlen Und.eq rfl) rfl rfl ?_ | refine qv rfl (qfld FldC.fld rfl rfl) rfl rfl ?_ | refine qv rfl (rr_nilc rfl) rfl rfl ?_ | refine qv rfl (rr_eql rfl rfl (qT (by omega))) rfl rfl ?_ | refine qv rfl (rr_eql rfl rfl (qF (by omega))) rfl rfl ?_))
      refine TL_slv (i := 14) rfl fun qu1 qu2 => TL_store1 (i := 13) rfl rfl rfl qu1 qu2 rfl ?_
      conv => arg 8; simp only [zA, zB, zC, zD, zE, zF, zG, zH, zI, rowS, ret, id_eq]
      repeat (first
        | refine qv rfl (qp rfl) rfl rfl ?_ | refine TL_nil ?_ | refine T_seq ?_ | refine T_region ?_ | refine qcT rfl ?_ | refine qcF rfl ?_ | refine T_skip ?_
        | refine T_ret ?_ | refine T_block ?_ | refine E_then ?_ | refine E_thenR ?_ | refine E_blockN ?_ | refine E_blockR ?_
        | refine qs rfl rfl rfl rfl rfl rfl ?_
        | ((try refine qg rfl rfl rfl ?_); first | refine qv rfl (qp rfl) rfl rfl ?_ | refine qv rfl (rr_loadB (i := 13) TyC.ty rfl rfl rfl) rfl rfl ?_ | refine qv rfl (rr_load1 TyC.ty rfl (at_blk (i := 6) rfl rfl)) rfl rfl ?_ | refine qv rfl (rr_load1 TyC.ty rfl (at_blk (i := 7) rfl rfl)) rfl rfl ?_ | refine qv rfl (qlen Und.eq rfl) rfl rfl ?_ | refine qv rfl (qfld FldC.fld rfl rfl) rfl rfl ?_ | refine qv rfl (rr_nilc rfl) rfl rfl ?_ | refine qv rfl (rr_eql rfl rfl (qT (by omega))) rfl rfl ?_ | refine qv rfl (rr_eql rfl rfl (qF (by omega))) rfl rfl ?_))
      refine TL_storeB (i := 5) (cs' := #[.bool false, vu, .slice bb last2.length cb]) rfl rfl rfl rfl (by simp only [List.all_cons, List.all_nil, qu2]; rfl) rfl ?_
      conv => arg 8; simp only [zA, zB, zC, zD, zE, zF, zG, zH, zI, rowS, ret, id_eq]
      repeat (first
        | refine qv rfl (qp rfl) rfl rfl ?_ | refine TL_nil ?_ | refine T_seq ?_ | refine T_region ?_ | refine qcT rfl ?_ | refine qcF rfl ?_ | refine T_skip ?_
        | refine T_ret ?_ | refine T_block ?_ | refine E_then ?_ | refine E_thenR ?_ | refine E_blockN ?_ | refine E_blockR ?_
        | refine qs rfl rfl rfl rfl rfl rfl ?_
        | ((try refine qg rfl rfl rfl ?_); first | refine qv rfl (qp rfl) rfl rfl ?_ | refine qv rfl (qlen Und.eq rfl) rfl rfl ?_ | refine qv rfl (qfld FldC.fld rfl rfl) rfl rfl ?_ | refine qv rfl (rr_nilc rfl) rfl rfl ?_ | refine qv rfl (rr_eql rfl rfl (qT (by omega))) rfl rfl ?_ | refine qv rfl (rr_eql rfl rfl (qF (by omega))) rfl rfl ?_))
      refine E_retc1 (i := 5) rfl rfl rfl rfl fun w hm => ?_
      exact hm.meetsB (S := nodeSp g vf ve rule (⟨false, uni first1 first2, last2⟩, { p2 with follow := behindF p2.follow last1 first2 })) (⟨vc, vr, vfol, vl, vs', F'⟩, vu, .slice bb last2.length cb) (by show vs'.length = (behindF p2.follow last1 first2).length; rw [behind_len]; exact hx3) [8, 0, 1, 9, 10, 2, 14, 4] (by decide) rfl
  | false =>
    cases e2 with
    | true =>
      repeat (first
        | refine qv rfl (qp rfl) rfl rfl ?_ | refine TL_nil ?_ | refine T_seq ?_ | refine T_region ?_ | refine qcT rfl ?_ | refine qcF rfl ?_ | refine T_skip ?_
        | refine T_ret ?_ | refine T_block ?_ | refine E_then ?_ | refine E_thenR ?_ | refine E_blockN ?_ | refine E_blockR ?_
        | refine qs rfl rfl rfl rfl rfl rfl ?_
        | ((try refine qg rfl rfl rfl ?_); first | refine qv rfl (qp rfl) rfl rfl ?_ | refine qv rfl (rr_load1 TyC.ty rfl (at_blk (i := 6) rfl rfl)) rfl rfl ?_ | refine qv rfl (rr_load1 TyC.ty rfl (at_blk (i := 7) rfl rfl)) rfl rfl ?_ | refine qv rfl (rr_build rfl (build_shpA _ _ _ _ _ _ _)) rfl rfl ?_ | refine qv rfl (qlen Und.eq rfl) rfl rfl ?_ | refine qv rfl (qfld FldC.fld rfl rfl) rfl rfl ?_ | refine qv rfl (rr_nilc rfl) rfl rfl ?_ | refine qv rfl (rr_eql rfl rfl (qT (by omega))) rfl rfl ?_ | refine qv rfl (rr_eql rfl rfl (qF (by omega))) rfl rfl ?_))
      refine TL_new rfl fun g11 => ?_
      conv => arg 8; simp only [zA, zB, zC, zD, zE, zF, zG, zH, zI, rowS, ret, id_eq]
      refine TL_storeB (i := 13) (cs' := #[.bool false, .slice ba first1.length ca, .slice bb last2.length cb]) rfl rfl rfl rfl rfl rfl ?_
      conv => arg 8; simp only [zA, zB, zC, zD, zE, zF, zG, zH, zI, rowS, ret, id_eq]
      repeat (first
        | refine qv rfl (qp rfl) rfl rfl ?_ | refine TL_nil ?_ | refine T_seq ?_ | refine T_region ?_ | refine qcT rfl ?_ | refine qcF rfl ?_ | refine T_skip ?_
        | refine T_ret ?_ | refine T_block ?_ | refine E_then ?_ | refine E_thenR ?_ | refine E_blockN ?_ | refine E_blockR ?_
        | refine qs rfl rfl rfl rfl rfl rfl ?_
        | ((try refine qg rfl rfl rfl ?_); first | refine qv rfl (qp rfl) rfl rfl ?_ | refine qv rfl (rr_load1 TyC.ty rfl (at_blk (i := 6) rfl rfl)) rfl rfl ?_ | refine qv rfl (rr_load1 TyC.ty rfl (at_blk (i := 7) rfl rfl)) rfl rfl ?_ | refine qv rfl (qlen Und.eq rfl) rfl rfl ?_ | refine qv rfl (qfld FldC.fld rfl rfl) rfl rfl ?_ | refine qv rfl (rr_nilc rfl) rfl rfl ?_ | refine qv rfl (rr_eql rfl rfl (qT (by omega))) rfl rfl ?_ | refine qv rfl (rr_eql rfl rfl (qF (by omega))) rfl rfl ?_))
      refine TL_call (he2 EntersC.en rfl rfl rfl) (fun w' hm => union_calls vb1 _ last1 last2 w' (Sl.of_own (hm.get (i := 11) rfl)) (Sl.of_own (hm.get (i := 4) rfl)) (by omega) (by omega)) rfl rfl rfl ?_
      intro vu2 _
      conv => arg 8; simp only [zA, zB, zC, zD, zE, zF, zG, zH, zI, rowS, ret, id_eq, intRS]
      repeat (first
        | refine qv rfl (qp rfl) rfl rfl ?_ | refine TL_nil ?_ | refine T_seq ?_ | refine T_region ?_ | refine qcT rfl ?_ | refine qcF rfl ?_ | refine T_skip ?_
        | refine T_ret ?_ | refine T_block ?_ | refine E_then ?_ | refine E_thenR ?_ | refine E_blockN ?_ | refine E_blockR ?_
        | refine qs rfl rfl rfl rfl rfl rfl ?_
        | ((try refine qg rfl rfl rfl ?_); first | refine qv rfl (qp rfl) rfl rfl ?_ | refine qv rfl (qlen Und.eq rfl) rfl rfl ?_ | refine qv rfl (qfld FldC.fld rfl rfl) rfl rfl ?_ | refine qv rfl (rr_nilc rfl) rfl rfl ?_ | refine qv rfl (rr_eql rfl rfl (qT (by omega))) rfl rfl ?_ | refine qv rfl (rr_eql rfl rfl (qF (by omega))) rfl rfl ?_))
      refine TL_slv (i := 14) rfl fun qv1 qv2 => TL_store1 (i := 13) rfl rfl rfl qv1 qv2 rfl ?_
      conv => arg 8; simp only [zA, zB, zC, zD, zE, zF, zG, zH, zI, rowS, ret, id_eq]
      repeat (first
        | refine qv rfl (qp rfl) rfl rfl ?_ | refine TL_nil ?_ | refine T_seq ?_ | refine T_region ?_ | refine qcT rfl ?_ | refine qcF rfl ?_ | refine T_skip ?_
        | refine T_ret ?_ | refine T_block ?_ | refine E_then ?_ | refine E_thenR ?_ | refine E_blockN ?_ | refine E_blockR ?_
        | refine qs rfl rfl rfl rfl rfl rfl ?_
        | ((try refine qg rfl rfl rfl ?_); first | refine qv rfl (qp rfl) rfl rfl ?_ | refine qv rfl (rr_loadB (i := 13) TyC.ty rfl rfl rfl) rfl rfl ?_ | refine qv rfl (rr_load1 TyC.ty rfl (at_blk (i := 6) rfl rfl)) rfl rfl ?_ | refine qv rfl (rr_load1 TyC.ty rfl (at_blk (i := 7) rfl rfl)) rfl rfl ?_ | refine qv rfl (qlen Und.eq rfl) rfl rfl ?_ | refine qv rfl (qfld FldC.fld rfl rfl) rfl rfl ?_ | refine qv rfl (rr_nilc rfl) rfl rfl ?_ | refine qv rfl (rr_eql rfl rfl (qT (by omega))) rfl rfl ?_ | refine qv rfl (rr_eql rfl rfl (qF (by omega))) rfl rfl ?_))
      refine TL_storeB (i := 5) (cs' := #[.bool false, .slice ba first1.length ca, vu2]) rfl rfl rfl rfl (by simp only [List.all_cons, List.all_nil, qv2]; rfl) rfl ?_
      conv => arg 8; simp only [zA, zB, zC, zD, zE, zF, zG, zH, zI, rowS, ret, id_eq]
      repeat (first
        | refine qv rfl (qp rfl) rfl rfl ?_ | refine TL_nil ?_ | refine T_seq ?_ | refine T_region ?_ | refine qcT rfl ?_ | refine qcF rfl ?_ | refine T_skip ?_
        | refine T_ret ?_ | refine T_block ?_ | refine E_then ?_ | refine E_thenR ?_ | refine E_blockN ?_ | refine E_blockR ?_
        | refine qs rfl rfl rfl rfl rfl rfl ?_
        | ((try refine qg rfl rfl rfl ?_); first | refine qv rfl (qp rfl) rfl rfl ?_ | refine qv rfl (qlen Und.eq rfl) rfl rfl ?_ | refine qv rfl (qfld FldC.fld rfl rfl) rfl rfl ?_ | refine qv rfl (rr_nilc rfl) rfl rfl ?_ | refine qv rfl (rr_eql rfl rfl (qT (by omega))) rfl rfl ?_ | refine qv rfl (rr_eql rfl rfl (qF (by omega))) rfl rfl ?_))
      refine E_retc1 (i := 5) rfl rfl rfl rfl fun w hm => ?_
      exact hm.meetsB (S := nodeSp g vf ve rule (⟨false, first1, uni last1 last2⟩, { p2 with follow := behindF p2.follow last1 first2 })) (⟨vc, vr, vfol, vl, vs', F'⟩, .slice ba first1.length ca, vu2) (by show vs'.length = (behindF p2.follow last1 first2).length; rw [behind_len]; exact hx3) [8, 0, 1, 9, 10, 2, 3, 14] (by decide) rfl
    | false =>
      repeat (first
        | refine qv rfl (qp rfl) rfl rfl ?_ | refine TL_nil ?_ | refine T_seq ?_ | refine T_region ?_ | refine qcT rfl ?_ | refine qcF rfl ?_ | refine T_skip ?_
        | refine T_ret ?_ | refine T_block ?_ | refine E_then ?_ | refine E_thenR ?_ | refine E_blockN ?_ | refine E_blockR ?_
        | refine qs rfl rfl rfl rfl rfl rfl ?_
        | ((try refine qg rfl rfl rfl ?_); first | refine qv rfl (qp rfl) rfl rfl ?_ | refine qv rfl (rr_load1 TyC.ty rfl (at_blk (i := 6) rfl rfl)) rfl rfl ?_ | refine qv rfl (rr_load1 TyC.ty rfl (at_blk (i := 7) rfl rfl)) rfl rfl ?_ | refine qv rfl (rr_build rfl (build_shpA _ _ _ _ _ _ _)) rfl rfl ?_ | refine qv rfl (qlen Und.eq rfl) rfl rfl ?_ | refine qv rfl (qfld FldC.fld rfl rfl) rfl rfl ?_ | refine qv rfl (rr_nilc rfl) rfl rfl ?_ | refine qv rfl (rr_eql rfl rfl (qT (by omega))) rfl rfl ?_ | refine qv rfl (rr_eql rfl rfl (qF (by omega))) rfl rfl ?_))
      refine TL_new rfl fun g11 => ?_
      conv => arg 8; simp only [zA, zB, zC, zD, zE, zF, zG, zH, zI, rowS, ret, id_eq]
      refine TL_storeB (i := 13) (cs' := #[.bool false, .slice ba first1.length ca, .slice bb last2.length cb]) rfl rfl rfl rfl rfl rfl ?_
      conv => arg 8; simp only [zA, zB, zC, zD, zE, zF, zG, zH, zI, rowS, ret, id_eq]
      repeat (first
        | refine qv rfl (qp rfl) rfl rfl ?_ | refine TL_nil ?_ | refine T_seq ?_ | refine T_region ?_ | refine qcT rfl ?_ | refine qcF rfl ?_ | refine T_skip ?_
        | refine T_ret ?_ | refine T_block ?_ | refine E_then ?_ | refine E_thenR ?_ | refine E_blockN ?_ | refine E_blockR ?_
        | refine qs rfl rfl rfl rfl rfl rfl ?_
        | ((try refine qg rfl rfl rfl ?_); first | refine qv rfl (qp rfl) rfl rfl ?_ | refine qv rfl (rr_loadB (i := 13) TyC.ty rfl rfl rfl) rfl rfl ?_ | refine qv rfl (rr_load1 TyC.ty rfl (at_blk (i := 6) rfl rfl)) rfl rfl ?_ | refine qv rfl (rr_load1 TyC.ty rfl (at_blk (i := 7) rfl rfl)) rfl rfl ?_ | refine qv rfl (qlen Und.eq rfl) rfl rfl ?_ | refine qv rfl (qfld FldC.fld rfl rfl) rfl rfl ?_ | refine qv rfl (rr_nilc rfl) rfl rfl ?_ | refine qv rfl (rr_eql rfl rfl (qT (by omega))) rfl rfl ?_ | refine qv rfl (rr_eql rfl rfl (qF (by omega))) rfl rfl ?_))
      refine TL_storeB (i := 5) (cs' := #[.bool false, .slice ba first1.length ca, .slice bb last2.length cb]) rfl rfl rfl rfl rfl rfl ?_
      conv => arg 8; simp only [zA, zB, zC, zD, zE, zF, zG, zH, zI, rowS, ret, id_eq]
      repeat (first
        | refine qv rfl (qp rfl) rfl rfl ?_ | refine TL_nil ?_ | refine T_seq ?_ | refine T_region ?_ | refine qcT rfl ?_ | refine qcF rfl ?_ | refine T_skip ?_
        | refine T_ret ?_ | refine T_block ?_ | refine E_then ?_ | refine E_thenR ?_ | refine E_blockN ?_ | refine E_blockR ?_
        | refine qs rfl rfl rfl rfl rfl rfl ?_
        | ((try refine qg rfl rfl rfl ?_); first | refine qv rfl (qp rfl) rfl rfl ?_ | refine qv rfl (qlen Und.eq rfl) rfl rfl ?_ | refine qv rfl (qfld FldC.fld rfl rfl) rfl rfl ?_ | refine qv rfl (rr_nilc rfl) rfl rfl ?_ | refine qv rfl (rr_eql rfl rfl (qT (by omega))) rfl rfl ?_ | refine qv rfl (rr_eql rfl rfl (qF (by omega))) rfl rfl ?_))
      refine E_retc1 (i := 5) rfl rfl rfl rfl fun w hm => ?_
      exact hm.meetsB (S := nodeSp g vf ve rule (⟨false, first1, last2⟩, { p2 with follow := behindF p2.follow last1 first2 })) (⟨vc, vr, vfol, vl, vs', F'⟩, .slice ba first1.length ca, .slice bb last2.length cb) (by show vs'.length = (behindF p2.follow last1 first2).length; rw [behind_len]; exact hx3) [8, 0, 1, 9, 10, 2, 3, 4] (by decide) rfl
end Go.Proofs.Ytcflcmlmlinbaaa.eng

/- PlD -/
namespace Go.Proofs.Ytcflcmlmlinbaaa.eng
open Go.RowKit kit mix classL rexL placesL
theorem node_at : ∀ M, NodeAt M
  | 0 => fun e h => by have := e.size_pos; omega
  | M + 1 => fun e h g vf ve rule p x v w B hp hx hn hr hv hm => by
    cases e with
    | none => exact node_none g vf ve rule p x v w B hx hv hm
    | empty => exact node_empty g vf ve rule p x v w B hx hv hm
    | byte c => exact node_byte c g vf ve rule p x v w B hp hx (by omega) hv hm
    | star a =>
      have h : a.size + 1 ≤ M + 1 := h
      exact node_star (node_at M) a (by omega) g vf ve rule p x v w B hp hx hn hr hv hm
    | alt a b =>
      have h : a.size + b.size + 1 ≤ M + 1 := h
      exact node_alt (node_at M) a b (by omega) (by omega) g vf ve rule p x v w B hp hx hn hr hv hm
    | cat a b =>
      have h : a.size + b.size + 1 ≤ M + 1 := h
      exact node_cat (node_at M) a b (by omega) (by omega) g vf ve rule p x v w B hp hx hn hr hv hm
end Go.Proofs.Ytcflcmlmlinbaaa.eng

/- PlacesM -/
namespace Go.Proofs.Ytcflcmlmlinbaaa.placesL
open classL rexL
structure MS where
  ps : PS
  first : List Int
  empty : List Bool
def MS.zero : MS := ⟨⟨[], [], [], []⟩, [], []⟩
def markF (last : List Bool) (l : List Int) : List Bool := l.foldl (fun b x => b.set x.toNat true) last
def stepM (i : Nat) (m : MS) (e : Re) : MS :=
  ⟨{ (nodeF i e m.ps).2 with last := markF (nodeF i e m.ps).2.last (nodeF i e m.ps).1.last }, uni m.first (nodeF i e m.ps).1.first, m.empty ++ [(nodeF i e m.ps).1.empty]⟩
def loopM : Nat → MS → List Re → Int × MS
  | _, m, [] => (0, m)
  | i, m, e :: r => if 200 < (stepM i m e).ps.classes.length then (2, .zero) else loopM (i + 1) (stepM i m e) r
abbrev chkR (r : Rx) : Int := (chk r 1 0).1
/-- the first rule that is none tells the error -/
def checkM : List Rx → Int
  | [] => 0
  | r :: l => if chkR r ≠ 0 then chkR r else checkM l
structure MSOk (m : MS) : Prop where
  ps : PSOk m.ps
  first : Ris m.ps.classes.length m.first
theorem mark_len (last : List Bool) (l : List Int) : (markF last l).length = last.length := by
  unfold markF
  induction l generalizing last with
  | nil => rfl
  | cons x r ih => rw [List.foldl_cons, ih, List.length_set]
theorem mark_step (last : List Bool) (l : List Int) {k : Nat} (hk : k < l.length) : markF last (l.take (k + 1)) = (markF last (l.take k)).set l[k].toNat true := by
  unfold markF
  rw [List.take_succ_eq_append_getElem hk, List.foldl_append]; rfl
theorem zero_ok : MSOk .zero := ⟨⟨rfl, rfl, rfl, fun l h => by cases h⟩, ris_nil _⟩
theorem step_ok (i : Nat) {m : MS} (h : MSOk m) (e : Re) : MSOk (stepM i m e) ∧ (stepM i m e).ps.classes.length ≤ m.ps.classes.length + e.size := by
  obtain ⟨h1, h2, h3, h4, h5⟩ := node_ok i e m.ps h.ps
  exact ⟨⟨⟨h1.rules, h1.follow, (mark_len _ _).trans h1.last, h1.ris⟩, ris_uni (ris_mono h.first h2).2 h4.2⟩, h3⟩
theorem check_all : ∀ {l : List Rx}, checkM l = 0 → ∀ r ∈ l, chkR r = 0
  | [], _, r, hr => by cases hr
  | q :: l, h, r, hr => by
    rw [checkM] at h
    split at h
    · contradiction
    · rename_i c
      rcases List.mem_cons.1 hr with rfl | hr
      · simpa using c
      · exact check_all h r hr
end Go.Proofs.Ytcflcmlmlinbaaa.placesL

/- ClsEq -/
namespace Go.Proofs.Ytcflcmlmlinbaaa.classSets
open Go.RowKit kit mix classL eng
set_option maxRecDepth 100000 in
theorem eq_cls (x y : C4) (w : World) : (Op.equalIn 10000 36 (.agg #[v64 x.a, v64 x.b, v64 x.c, v64 x.d]) (.agg #[v64 y.a, v64 y.b, v64 y.c, v64 y.d])).run Try.prog w = .ok (decide (x = y)) w := by
  have e : (Op.equalIn 10000 36 (.agg #[v64 x.a, v64 x.b, v64 x.c, v64 x.d]) (.agg #[v64 y.a, v64 y.b, v64 y.c, v64 y.d])).run Try.prog w = .ok ((n64 x.a == n64 y.a) && ((n64 x.b == n64 y.b) && ((n64 x.c == n64 y.c) && (n64 x.d == n64 y.d)))) w := by
    unfold v64
    rw [run_equalIn_array (P := Try.prog) w 9999 (n := 4) (e := 34) _ _ rfl rfl]
    have h1 : Try.prog.cellsOf 34 = 1 := rfl
    simp [Op.eqItems, go_sem, List.range_succ_eq_map, h1]
    by_cases e1 : n64 x.a = n64 y.a <;> by_cases e2 : n64 x.b = n64 y.b <;> by_cases e3 : n64 x.c = n64 y.c <;> by_cases e4 : n64 x.d = n64 y.d <;> simp [e1, e2, e3, e4]
  rw [e]
  congr 1
  by_cases h : x = y
  · subst h; simp
  · rw [decide_eq_false h]
    simp only [n64_eq, Bool.and_eq_false_iff]
    by_cases h1 : x.a = y.a
    · by_cases h2 : x.b = y.b
      · by_cases h3 : x.c = y.c
        · by_cases h4 : x.d = y.d
          · exact absurd (C4.ext' h1 h2 h3 h4) h
          · simp [h4]
        · simp [h3]
      · simp [h2]
    · simp [h1]
end Go.Proofs.Ytcflcmlmlinbaaa.classSets

/- RexC -/
namespace Go.Proofs.Ytcflcmlmlinbaaa.eng
open Go.RowKit kit mix classL rexL
theorem rkids_calls (k : Int) (w : World) : Calls Try.prog 29 #[.int .i64 k] w (Meets (ret (.int .i64 (kidsN k))) w) := by
  unfold kidsN
  refine enter (args := [.int .i64 k]) (n := 13) Try.func29 rfl rfl rfl ?_
  by_cases k1 : k = 1
  · rw [if_pos k1]
    repeat (first
      | refine qv rfl (qp rfl) rfl rfl ?_ | refine TL_nil ?_ | refine T_seq ?_ | refine T_region ?_ | refine qcT rfl ?_ | refine qcF rfl ?_ | refine T_skip ?_
      | refine T_ret ?_ | refine T_block ?_ | refine E_then ?_ | refine E_thenR ?_ | refine E_blockN ?_ | refine E_blockR ?_
      | refine qv rfl (rr_eql rfl rfl (qT (by omega))) rfl rfl ?_ | refine qv rfl (rr_eql rfl rfl (qF (by omega))) rfl rfl ?_)
    exact E_ret1 rfl rfl fun w hm => hm.ret
  rw [if_neg k1]
  by_cases k2 : k = 2
  · rw [if_pos k2]
    repeat (first
      | refine qv rfl (qp rfl) rfl rfl ?_ | refine TL_nil ?_ | refine T_seq ?_ | refine T_region ?_ | refine qcT rfl ?_ | refine qcF rfl ?_ | refine T_skip ?_
      | refine T_ret ?_ | refine T_block ?_ | refine E_then ?_ | refine E_thenR ?_ | refine E_blockN ?_ | refine E_blockR ?_
      | refine qv rfl (rr_eql rfl rfl (qT (by omega))) rfl rfl ?_ | refine qv rfl (rr_eql rfl rfl (qF (by omega))) rfl rfl ?_)
    exact E_ret1 rfl rfl fun w hm => hm.ret
  rw [if_neg k2]
  by_cases k3 : k = 3
  · rw [if_pos k3]
    repeat (first
      | refine qv rfl (qp rfl) rfl rfl ?_ | refine TL_nil ?_ | refine T_seq ?_ | refine T_region ?_ | refine qcT rfl ?_ | refine qcF rfl ?_ | refine T_skip ?_
      | refine T_ret ?_ | refine T_block ?_ | refine E_then ?_ | refine E_thenR ?_ | refine E_blockN ?_ | refine E_blockR ?_
      | refine qv rfl (rr_eql rfl rfl (qT (by omega))) rfl rfl ?_ | refine qv rfl (rr_eql rfl rfl (qF (by omega))) rfl rfl ?_)
    exact E_ret1 rfl rfl fun w hm => hm.ret
  rw [if_neg k3]
  by_cases k6 : k = 6
  · rw [if_pos k6]
    repeat (first
      | refine qv rfl (qp rfl) rfl rfl ?_ | refine TL_nil ?_ | refine T_seq ?_ | refine T_region ?_ | refine qcT rfl ?_ | refine qcF rfl ?_ | refine T_skip ?_
      | refine T_ret ?_ | refine T_block ?_ | refine E_then ?_ | refine E_thenR ?_ | refine E_blockN ?_ | refine E_blockR ?_
      | refine qv rfl (rr_eql rfl rfl (qT (by omega))) rfl rfl ?_ | refine qv rfl (rr_eql rfl rfl (qF (by omega))) rfl rfl ?_)
    exact E_ret1 rfl rfl fun w hm => hm.ret
  rw [if_neg k6]
  by_cases k4 : k = 4
  · rw [if_pos k4]
    repeat (first
      | refine qv rfl (qp rfl) rfl rfl ?_ | refine TL_nil ?_ | refine T_seq ?_ | refine T_region ?_ | refine qcT rfl ?_ | refine qcF rfl ?_ | refine T_skip ?_
      | refine T_ret ?_ | refine T_block ?_ | refine E_then ?_ | refine E_thenR ?_ | refine E_blockN ?_ | refine E_blockR ?_
      | refine qv rfl (rr_eql rfl rfl (qT (by omega))) rfl rfl ?_ | refine qv rfl (rr_eql rfl rfl (qF (by omega))) rfl rfl ?_)
    exact E_ret1 rfl rfl fun w hm => hm.ret
  rw [if_neg k4]
  by_cases k5 : k = 5
  · rw [if_pos k5]
    repeat (first
      | refine qv rfl (qp rfl) rfl rfl ?_ | refine TL_nil ?_ | refine T_seq ?_ | refine T_region ?_ | refine qcT rfl ?_ | refine qcF rfl ?_ | refine T_skip ?_
      | refine T_ret ?_ | refine T_block ?_ | refine E_then ?_ | refine E_thenR ?_ | refine E_blockN ?_ | refine E_blockR ?_
      | refine qv rfl (rr_eql rfl rfl (qT (by omega))) rfl rfl ?_ | refine qv rfl (rr_eql rfl rfl (qF (by omega))) rfl rfl ?_)
    exact E_ret1 rfl rfl fun w hm => hm.ret
  rw [if_neg k5]
  repeat (first
    | refine qv rfl (qp rfl) rfl rfl ?_ | refine TL_nil ?_ | refine T_seq ?_ | refine T_region ?_ | refine qcT rfl ?_ | refine qcF rfl ?_ | refine T_skip ?_
    | refine T_ret ?_ | refine T_block ?_ | refine E_then ?_ | refine E_thenR ?_ | refine E_blockN ?_ | refine E_blockR ?_
    | refine qv rfl (rr_eql rfl rfl (qT (by omega))) rfl rfl ?_ | refine qv rfl (rr_eql rfl rfl (qF (by omega))) rfl rfl ?_)
  exact E_ret1 rfl rfl fun w hm => hm.ret
theorem chk_le {r : Rx} {deep n : Nat} (h : (chk r deep n).1 = 0) : (chk r deep n).2 ≤ 100 := by
  obtain ⟨e, _, h1, h2⟩ := chk_fit _ r deep n (chk r deep n).2 (Nat.le_refl _) (Prod.ext h rfl)
  have := h1.sz
  omega
theorem build_cz (w : World) : (Instr.build 36 (#[] : Array (Nat × Value))).run Try.prog w = .ok (clsV C4.zero) w := by kernel_rfl
theorem eqCls (x y : C4) (w : World) : (Op.equalIn 10000 36 (clsV x) (clsV y)).run Try.prog w = .ok (decide (x = y)) w := classSets.eq_cls x y w
theorem at_oldR {W0 : World} {W : Base} {L : List Own} {b off : Nat} {cs : List Value} (ho : Old W0 W) (h : Rd W0 b off cs) (j : Nat) (v : Value) (hj : cs[j]? = some v) : At W L ⟨b, off + j, none⟩ v := at_old0 ho (h j v hj)
theorem rex_cls {k : Int} {c : C4} {vk : Value} {j : Nat} {v : Value} (h : (clsL c)[j]? = some v) : (rexC k c vk).toArray[0 + 1 + j]? = some v := by
  have hj : j < (clsL c).length := (List.getElem?_eq_some_iff.1 h).1
  rw [List.getElem?_toArray, show 0 + 1 + j = j + 1 by omega]
  show (clsL c ++ [vk])[j]? = _
  rw [List.getElem?_append_left hj]; exact h
set_option maxRecDepth 100000 in
set_option maxHeartbeats 16000000 in
theorem check_calls (w0 : World) (gn : Nat) : ∀ (N : Nat) (r : Rx), sizeX r ≤ N → ∀ (v : Value) (deep n : Nat) (w : World) (B : Base), RexR (Low w0) w0 v r → n ≤ 100 → deep ≤ 31 → Old w0 B → Mem B [blkO gn #[.int .i64 (n : Int)] 3] w →
    Calls Try.prog 20 #[v, .int .i64 (deep : Int), .pointer (some ⟨gn, 0, none⟩)] w (MeetsB ⟨fun (_ : Unit) => True, fun _ => .int .i64 (chk r deep n).1, fun _ => [blkO gn #[.int .i64 ((chk r deep n).2 : Int)] 3]⟩ B)
  | 0, r, h, _, _, _, _, _, _, _, _, _, _ => by have := sizeX_pos r; omega
  | N + 1, .mk k c kids, hN, v, deep, n, w, B, hv, hn, hd, ho, hm => by
    have IH := check_calls w0 gn N
    obtain ⟨vk, rfl, hk64, hks⟩ := hv
    dsimp only [Rx.kind, Rx.cls, Rx.kids] at hk64 hks ⊢
    obtain ⟨bk, ck, rfl, hck, hmk, hrk⟩ := hks
    unfold maxLen at hmk
    rw [chk]
    rw [sizeX] at hN
    have hkc := fun w => rkids_calls k w
    have heq := eqCls c C4.zero
    have hcz := build_cz
    refine enterB hm (args := [rexV k c (.slice bk kids.length ck), .int .i64 (deep : Int), .pointer (some ⟨gn, 0, none⟩)]) (n := 55) Try.func20 rfl rfl rfl ?_
    clear hm
    refine T_seq (T_region (TL_box rfl rfl rfl fun g3 => ?_))
    conv => arg 8; simp only [zA, zB, zC, zD, zE, zF, zG, zH, zI, rowS, ret, id_eq]
    repeat (first
      | refine qv rfl (qp rfl) rfl rfl ?_ | refine TL_nil ?_ | refine T_seq ?_ | refine T_region ?_ | refine qcT rfl ?_ | refine qcF rfl ?_ | refine T_skip ?_
      | refine T_exit ?_ | refine T_ret ?_ | refine T_block ?_ | refine E_then ?_ | refine E_thenX ?_ | refine E_thenR ?_ | refine E_blockN ?_
      | refine E_blockR ?_ | refine E_blockX ?_ | refine E_blockO rfl ?_ | refine qv rfl (rr_nilc rfl) rfl rfl ?_
      | refine qv rfl (rr_load1 TyC.ty rfl (at_blk (i := 0) rfl rfl)) rfl rfl ?_
      | refine qv rfl (rr_add64 (r := ((n + 1 : Nat) : Int)) rfl rfl (by omega) (by omega) (by omega)) rfl rfl ?_ | refine qv rfl (qlen Und.eq rfl) rfl rfl ?_
      | refine qv rfl (qfld FldC.fld rfl rfl) rfl rfl ?_ | refine qv rfl (rr_nilc rfl) rfl rfl ?_ | refine qv rfl (rr_lss rfl rfl (qT (by omega))) rfl rfl ?_
      | refine qv rfl (rr_lss rfl rfl (qF (by omega))) rfl rfl ?_ | refine qv rfl (rr_gtr rfl rfl (qT (by omega))) rfl rfl ?_
      | refine qv rfl (rr_gtr rfl rfl (qF (by omega))) rfl rfl ?_ | refine qv rfl (rr_eql rfl rfl (qT (by omega))) rfl rfl ?_
      | refine qv rfl (rr_eql rfl rfl (qF (by omega))) rfl rfl ?_ | refine qv rfl (rr_neq rfl rfl (qT (by omega))) rfl rfl ?_
      | refine qv rfl (rr_neq rfl rfl (qF (by omega))) rfl rfl ?_ | refine qv rfl (rr_add64 rfl rfl (by omega) (by omega) rfl) rfl rfl ?_)
    refine TL_store1 (i := 0) rfl rfl rfl rfl rfl rfl ?_
    rw [show (#[.int .i64 (n : Int)] : Array Value).setIfInBounds 0 (.int .i64 ((n + 1 : Nat) : Int)) = #[.int .i64 ((n + 1 : Nat) : Int)] from rfl]
    conv => arg 8; simp only [zA, zB, zC, zD, zE, zF, zG, zH, zI, rowS, ret, id_eq]
    by_cases c1 : 100 < n + 1
    · rw [if_pos c1]
      repeat (first
        | refine qv rfl (qp rfl) rfl rfl ?_ | refine TL_nil ?_ | refine T_seq ?_ | refine T_region ?_ | refine qcT rfl ?_ | refine qcF rfl ?_ | refine T_skip ?_
        | refine T_exit ?_ | refine T_ret ?_ | refine T_block ?_ | refine E_then ?_ | refine E_thenX ?_ | refine E_thenR ?_ | refine E_blockN ?_
        | refine E_blockR ?_ | refine E_blockX ?_ | refine E_blockO rfl ?_ | refine qv rfl (rr_nilc rfl) rfl rfl ?_
        | refine qv rfl (rr_load1 TyC.ty rfl (at_blk (i := 0) rfl rfl)) rfl rfl ?_ | refine qv rfl (qlen Und.eq rfl) rfl rfl ?_
        | refine qv rfl (qfld FldC.fld rfl rfl) rfl rfl ?_ | refine qv rfl (rr_nilc rfl) rfl rfl ?_ | refine qv rfl (rr_lss rfl rfl (qT (by omega))) rfl rfl ?_
        | refine qv rfl (rr_lss rfl rfl (qF (by omega))) rfl rfl ?_ | refine qv rfl (rr_gtr rfl rfl (qT (by omega))) rfl rfl ?_
        | refine qv rfl (rr_gtr rfl rfl (qF (by omega))) rfl rfl ?_ | refine qv rfl (rr_eql rfl rfl (qT (by omega))) rfl rfl ?_
        | refine qv rfl (rr_eql rfl rfl (qF (by omega))) rfl rfl ?_ | refine qv rfl (rr_neq rfl rfl (qT (by omega))) rfl rfl ?_
        | refine qv rfl (rr_neq rfl rfl (qF (by omega))) rfl rfl ?_ | refine qv rfl (rr_add64 rfl rfl (by omega) (by omega) rfl) rfl rfl ?_)
      exact E_ret1 rfl rfl fun w hm => hm.meetsB (S := ⟨fun (_ : Unit) => True, fun _ => .int .i64 2, fun _ => [blkO gn #[.int .i64 ((n + 1 : Nat) : Int)] 3]⟩) () trivial [0] (by decide) rfl
    rw [if_neg c1]
    by_cases c2 : 30 < deep
    · rw [if_pos c2]
      repeat (first
        | refine qv rfl (qp rfl) rfl rfl ?_ | refine TL_nil ?_ | refine T_seq ?_ | refine T_region ?_ | refine qcT rfl ?_ | refine qcF rfl ?_ | refine T_skip ?_
        | refine T_exit ?_ | refine T_ret ?_ | refine T_block ?_ | refine E_then ?_ | refine E_thenX ?_ | refine E_thenR ?_ | refine E_blockN ?_
        | refine E_blockR ?_ | refine E_blockX ?_ | refine E_blockO rfl ?_ | refine qv rfl (rr_nilc rfl) rfl rfl ?_
        | refine qv rfl (rr_load1 TyC.ty rfl (at_blk (i := 0) rfl rfl)) rfl rfl ?_ | refine qv rfl (qlen Und.eq rfl) rfl rfl ?_
        | refine qv rfl (qfld FldC.fld rfl rfl) rfl rfl ?_ | refine qv rfl (rr_nilc rfl) rfl rfl ?_ | refine qv rfl (rr_lss rfl rfl (qT (by omega))) rfl rfl ?_
        | refine qv rfl (rr_lss rfl rfl (qF (by omega))) rfl rfl ?_ | refine qv rfl (rr_gtr rfl rfl (qT (by omega))) rfl rfl ?_
        | refine qv rfl (rr_gtr rfl rfl (qF (by omega))) rfl rfl ?_ | refine qv rfl (rr_eql rfl rfl (qT (by omega))) rfl rfl ?_
        | refine qv rfl (rr_eql rfl rfl (qF (by omega))) rfl rfl ?_ | refine qv rfl (rr_neq rfl rfl (qT (by omega))) rfl rfl ?_
        | refine qv rfl (rr_neq rfl rfl (qF (by omega))) rfl rfl ?_ | refine qv rfl (rr_add64 rfl rfl (by omega) (by omega) rfl) rfl rfl ?_)
      exact E_ret1 rfl rfl fun w hm => hm.meetsB (S := ⟨fun (_ : Unit) => True, fun _ => .int .i64 7, fun _ => [blkO gn #[.int .i64 ((n + 1 : Nat) : Int)] 3]⟩) () trivial [0] (by decide) rfl
    rw [if_neg c2]
    repeat (first
      | refine qv rfl (qp rfl) rfl rfl ?_ | refine TL_nil ?_ | refine T_seq ?_ | refine T_region ?_ | refine qcT rfl ?_ | refine qcF rfl ?_ | refine T_skip ?_
      | refine T_exit ?_ | refine T_ret ?_ | refine T_block ?_ | refine E_then ?_ | refine E_thenX ?_ | refine E_thenR ?_ | refine E_blockN ?_
      | refine E_blockR ?_ | refine E_blockX ?_ | refine E_blockO rfl ?_ | refine qv rfl (rr_nilc rfl) rfl rfl ?_
      | refine qv rfl (rr_load1 TyC.ty rfl (at_blk (i := 0) rfl rfl)) rfl rfl ?_ | refine qv rfl (qlen Und.eq rfl) rfl rfl ?_
      | refine qv rfl (qfld FldC.fld rfl rfl) rfl rfl ?_ | refine qv rfl (rr_nilc rfl) rfl rfl ?_ | refine qv rfl (rr_lss rfl rfl (qT (by omega))) rfl rfl ?_
      | refine qv rfl (rr_lss rfl rfl (qF (by omega))) rfl rfl ?_ | refine qv rfl (rr_gtr rfl rfl (qT (by omega))) rfl rfl ?_
      | refine qv rfl (rr_gtr rfl rfl (qF (by omega))) rfl rfl ?_ | refine qv rfl (rr_eql rfl rfl (qT (by omega))) rfl rfl ?_
      | refine qv rfl (rr_eql rfl rfl (qF (by omega))) rfl rfl ?_ | refine qv rfl (rr_neq rfl rfl (qT (by omega))) rfl rfl ?_
      | refine qv rfl (rr_neq rfl rfl (qF (by omega))) rfl rfl ?_ | refine qv rfl (rr_add64 rfl rfl (by omega) (by omega) rfl) rfl rfl ?_)
    by_cases c3 : kidsN k ≠ (kids.length : Int)
    · rw [if_pos c3]
      (repeat refine T_seq ?_)
      refine T_ord ([blkO g3 (rexC k c (.slice bk kids.length ck)).toArray 38]) (.calm 0 (.calm 1 (.calm 2 (.calm 3 (.calm 4 (.calm 5 (.calm 6 (.calm 7 (.done))))))))) (sub_pick [1] (by decide) rfl) (by kernel_rfl) (by kernel_rfl) (by intro c a d v w h; cases d <;> exact h) ?_
      repeat (first
        | ((first | refine TW_plain rfl rfl ?_ | refine TW_gmet rfl rfl rfl rfl ?_); first | refine TN_val (qp rfl) rfl rfl ?_ | refine TN_val (rr_load1 TyC.ty rfl (at_blk (i := 0) rfl rfl)) rfl rfl ?_ | refine TN_val (qlen Und.eq rfl) rfl rfl ?_ | refine TN_val (qfld FldC.fld rfl rfl) rfl rfl ?_ | refine TN_val (rr_nilc rfl) rfl rfl ?_ | refine TN_val (rr_lss rfl rfl (qT (by omega))) rfl rfl ?_ | refine TN_val (rr_lss rfl rfl (qF (by omega))) rfl rfl ?_ | refine TN_val (rr_gtr rfl rfl (qT (by omega))) rfl rfl ?_ | refine TN_val (rr_gtr rfl rfl (qF (by omega))) rfl rfl ?_ | refine TN_val (rr_eql rfl rfl (qT (by omega))) rfl rfl ?_ | refine TN_val (rr_eql rfl rfl (qF (by omega))) rfl rfl ?_ | refine TN_val (rr_neq rfl rfl (qT (by omega))) rfl rfl ?_ | refine TN_val (rr_neq rfl rfl (qF (by omega))) rfl rfl ?_ | refine TN_val (rr_add64 rfl rfl (by omega) (by omega) rfl) rfl rfl ?_)
        | refine TW_done ?_)
      refine TW_call rfl (he1 EntersC.en rfl rfl) (fun w hm => hkc _) rfl rfl rfl ?_
      repeat (first
        | ((first | refine TW_plain rfl rfl ?_ | refine TW_gmet rfl rfl rfl rfl ?_); first | refine TN_val (qp rfl) rfl rfl ?_ | refine TN_val (rr_load1 TyC.ty rfl (at_blk (i := 0) rfl rfl)) rfl rfl ?_ | refine TN_val (rr_neq (b := true) rfl rfl (decide_eq_true c3)) rfl rfl ?_ | refine TN_val (qlen Und.eq rfl) rfl rfl ?_ | refine TN_val (qfld FldC.fld rfl rfl) rfl rfl ?_ | refine TN_val (rr_nilc rfl) rfl rfl ?_ | refine TN_val (rr_lss rfl rfl (qT (by omega))) rfl rfl ?_ | refine TN_val (rr_lss rfl rfl (qF (by omega))) rfl rfl ?_ | refine TN_val (rr_gtr rfl rfl (qT (by omega))) rfl rfl ?_ | refine TN_val (rr_gtr rfl rfl (qF (by omega))) rfl rfl ?_ | refine TN_val (rr_eql rfl rfl (qT (by omega))) rfl rfl ?_ | refine TN_val (rr_eql rfl rfl (qF (by omega))) rfl rfl ?_ | refine TN_val (rr_neq rfl rfl (qT (by omega))) rfl rfl ?_ | refine TN_val (rr_neq rfl rfl (qF (by omega))) rfl rfl ?_ | refine TN_val (rr_add64 rfl rfl (by omega) (by omega) rfl) rfl rfl ?_)
        | refine TW_done ?_)
      repeat (first
        | refine qv rfl (qp rfl) rfl rfl ?_ | refine TL_nil ?_ | refine T_seq ?_ | refine T_region ?_ | refine qcT rfl ?_ | refine qcF rfl ?_ | refine T_skip ?_
        | refine T_exit ?_ | refine T_ret ?_ | refine T_block ?_ | refine E_then ?_ | refine E_thenX ?_ | refine E_thenR ?_ | refine E_blockN ?_
        | refine E_blockR ?_ | refine E_blockX ?_ | refine E_blockO rfl ?_ | refine qv rfl (qlen Und.eq rfl) rfl rfl ?_
        | refine qv rfl (qfld FldC.fld rfl rfl) rfl rfl ?_ | refine qv rfl (rr_nilc rfl) rfl rfl ?_ | refine qv rfl (rr_lss rfl rfl (qT (by omega))) rfl rfl ?_
        | refine qv rfl (rr_lss rfl rfl (qF (by omega))) rfl rfl ?_ | refine qv rfl (rr_gtr rfl rfl (qT (by omega))) rfl rfl ?_
        | refine qv rfl (rr_gtr rfl rfl (qF (by omega))) rfl rfl ?_ | refine qv rfl (rr_eql rfl rfl (qT (by omega))) rfl rfl ?_
        | refine qv rfl (rr_eql rfl rfl (qF (by omega))) rfl rfl ?_ | refine qv rfl (rr_neq rfl rfl (qT (by omega))) rfl rfl ?_
        | refine qv rfl (rr_neq rfl rfl (qF (by omega))) rfl rfl ?_ | refine qv rfl (rr_add64 rfl rfl (by omega) (by omega) rfl) rfl rfl ?_)
      exact E_ret1 rfl rfl fun w hm => hm.meetsB (S := ⟨fun (_ : Unit) => True, fun _ => .int .i64 1, fun _ => [blkO gn #[.int .i64 ((n + 1 : Nat) : Int)] 3]⟩) () trivial [0] (by decide) rfl
    rw [if_neg c3]
    have c3' : kidsN k = (kids.length : Int) := by simpa using c3
    rw [c3'] at hkc
    (repeat refine T_seq ?_)
    refine T_ord ([blkO g3 (rexC k c (.slice bk kids.length ck)).toArray 38]) (.calm 0 (.calm 1 (.calm 2 (.calm 3 (.calm 4 (.calm 5 (.calm 6 (.calm 7 (.done))))))))) (sub_pick [1] (by decide) rfl) (by kernel_rfl) (by kernel_rfl) (by intro c a d v w h; cases d <;> exact h) ?_
    repeat (first
      | ((first | refine TW_plain rfl rfl ?_ | refine TW_gmet rfl rfl rfl rfl ?_); first | refine TN_val (qp rfl) rfl rfl ?_ | refine TN_val (rr_load1 TyC.ty rfl (at_blk (i := 0) rfl rfl)) rfl rfl ?_ | refine TN_val (qlen Und.eq rfl) rfl rfl ?_ | refine TN_val (qfld FldC.fld rfl rfl) rfl rfl ?_ | refine TN_val (rr_nilc rfl) rfl rfl ?_ | refine TN_val (rr_lss rfl rfl (qT (by omega))) rfl rfl ?_ | refine TN_val (rr_lss rfl rfl (qF (by omega))) rfl rfl ?_ | refine TN_val (rr_gtr rfl rfl (qT (by omega))) rfl rfl ?_ | refine TN_val (rr_gtr rfl rfl (qF (by omega))) rfl rfl ?_ | refine TN_val (rr_eql rfl rfl (qT (by omega))) rfl rfl ?_ | refine TN_val (rr_eql rfl rfl (qF (by omega))) rfl rfl ?_ | refine TN_val (rr_neq rfl rfl (qT (by omega))) rfl rfl ?_ | refine TN_val (rr_neq rfl rfl (qF (by omega))) rfl rfl ?_ | refine TN_val (rr_add64 rfl rfl (by omega) (by omega) rfl) rfl rfl ?_)
      | refine TW_done ?_)
    refine TW_call rfl (he1 EntersC.en rfl rfl) (fun w hm => hkc _) rfl rfl rfl ?_
    repeat (first
      | ((first | refine TW_plain rfl rfl ?_ | refine TW_gmet rfl rfl rfl rfl ?_); first | refine TN_val (qp rfl) rfl rfl ?_ | refine TN_val (rr_load1 TyC.ty rfl (at_blk (i := 0) rfl rfl)) rfl rfl ?_ | refine TN_val (rr_neq (b := false) rfl rfl (decide_eq_false (fun h => h rfl))) rfl rfl ?_ | refine TN_val (qlen Und.eq rfl) rfl rfl ?_ | refine TN_val (qfld FldC.fld rfl rfl) rfl rfl ?_ | refine TN_val (rr_nilc rfl) rfl rfl ?_ | refine TN_val (rr_lss rfl rfl (qT (by omega))) rfl rfl ?_ | refine TN_val (rr_lss rfl rfl (qF (by omega))) rfl rfl ?_ | refine TN_val (rr_gtr rfl rfl (qT (by omega))) rfl rfl ?_ | refine TN_val (rr_gtr rfl rfl (qF (by omega))) rfl rfl ?_ | refine TN_val (rr_eql rfl rfl (qT (by omega))) rfl rfl ?_ | refine TN_val (rr_eql rfl rfl (qF (by omega))) rfl rfl ?_ | refine TN_val (rr_neq rfl rfl (qT (by omega))) rfl rfl ?_ | refine TN_val (rr_neq rfl rfl (qF (by omega))) rfl rfl ?_ | refine TN_val (rr_add64 rfl rfl (by omega) (by omega) rfl) rfl rfl ?_)
      | refine TW_done ?_)
    repeat (first
      | refine qv rfl (qp rfl) rfl rfl ?_ | refine TL_nil ?_ | refine T_seq ?_ | refine T_region ?_ | refine qcT rfl ?_ | refine qcF rfl ?_ | refine T_skip ?_
      | refine T_exit ?_ | refine T_ret ?_ | refine T_block ?_ | refine E_then ?_ | refine E_thenX ?_ | refine E_thenR ?_ | refine E_blockN ?_
      | refine E_blockR ?_ | refine E_blockX ?_ | refine E_blockO rfl ?_ | refine qv rfl (qlen Und.eq rfl) rfl rfl ?_
      | refine qv rfl (qfld FldC.fld rfl rfl) rfl rfl ?_ | refine qv rfl (rr_nilc rfl) rfl rfl ?_ | refine qv rfl (rr_lss rfl rfl (qT (by omega))) rfl rfl ?_
      | refine qv rfl (rr_lss rfl rfl (qF (by omega))) rfl rfl ?_ | refine qv rfl (rr_gtr rfl rfl (qT (by omega))) rfl rfl ?_
      | refine qv rfl (rr_gtr rfl rfl (qF (by omega))) rfl rfl ?_ | refine qv rfl (rr_eql rfl rfl (qT (by omega))) rfl rfl ?_
      | refine qv rfl (rr_eql rfl rfl (qF (by omega))) rfl rfl ?_ | refine qv rfl (rr_neq rfl rfl (qT (by omega))) rfl rfl ?_
      | refine qv rfl (rr_neq rfl rfl (qF (by omega))) rfl rfl ?_ | refine qv rfl (rr_add64 rfl rfl (by omega) (by omega) rfl) rfl rfl ?_)
    generalize hD : (decide (k = 3) != decide (c ≠ C4.zero)) = D
    have hD' : (!(decide (k = 3) == !decide (c = C4.zero))) = D := by
      rw [← hD, decide_not]
      cases decide (k = 3) <;> cases decide (c = C4.zero) <;> rfl
    (repeat refine T_seq ?_)
    refine T_ord ([blkO g3 (rexC k c (.slice bk kids.length ck)).toArray 38]) (.calm 0 (.calm 1 (.calm 2 (.calm 3 (.calm 4 (.calm 5 (.calm 6 (.calm 7 (.calm 8 (.done)))))))))) (sub_pick [1] (by decide) rfl) (by kernel_rfl) (by kernel_rfl) (by intro c a d v w h; cases d <;> exact h) ?_
    repeat (first
      | ((first | refine TW_plain rfl rfl ?_ | refine TW_gmet rfl rfl rfl rfl ?_); first | refine TN_val (qp rfl) rfl rfl ?_ | refine TN_val (rr_load1 TyC.ty rfl (at_blk (i := 0) rfl rfl)) rfl rfl ?_ | refine TN_val (rr_eql (b := decide (k = 3)) rfl rfl rfl) rfl rfl ?_ | refine TN_val (rr_loadN (cs := clsL c) TyC.ty rfl rfl (fun j v hj => at_blk (i := 0) rfl (rex_cls hj))) rfl rfl ?_ | refine TN_val (rr_build rfl hcz) rfl rfl ?_ | refine TN_val (rr_aggne rfl rfl (by kernel_rfl) heq rfl) rfl rfl ?_ | refine TN_val (rr_boolne (c := D) Und.eq rfl rfl hD') rfl rfl ?_ | refine TN_val (qlen Und.eq rfl) rfl rfl ?_ | refine TN_val (qfld FldC.fld rfl rfl) rfl rfl ?_ | refine TN_val (rr_nilc rfl) rfl rfl ?_ | refine TN_val (rr_lss rfl rfl (qT (by omega))) rfl rfl ?_ | refine TN_val (rr_lss rfl rfl (qF (by omega))) rfl rfl ?_ | refine TN_val (rr_gtr rfl rfl (qT (by omega))) rfl rfl ?_ | refine TN_val (rr_gtr rfl rfl (qF (by omega))) rfl rfl ?_ | refine TN_val (rr_eql rfl rfl (qT (by omega))) rfl rfl ?_ | refine TN_val (rr_eql rfl rfl (qF (by omega))) rfl rfl ?_ | refine TN_val (rr_neq rfl rfl (qT (by omega))) rfl rfl ?_ | refine TN_val (rr_neq rfl rfl (qF (by omega))) rfl rfl ?_ | refine TN_val (rr_add64 rfl rfl (by omega) (by omega) rfl) rfl rfl ?_)
      | refine TW_done ?_)
    clear hD hD' heq hcz hkc
    cases D with
    | true =>
      rw [if_pos rfl]
      repeat (first
        | refine qv rfl (qp rfl) rfl rfl ?_ | refine TL_nil ?_ | refine T_seq ?_ | refine T_region ?_ | refine qcT rfl ?_ | refine qcF rfl ?_ | refine T_skip ?_
        | refine T_exit ?_ | refine T_ret ?_ | refine T_block ?_ | refine E_then ?_ | refine E_thenX ?_ | refine E_thenR ?_ | refine E_blockN ?_
        | refine E_blockR ?_ | refine E_blockX ?_ | refine E_blockO rfl ?_ | refine qv rfl (qlen Und.eq rfl) rfl rfl ?_
        | refine qv rfl (qfld FldC.fld rfl rfl) rfl rfl ?_ | refine qv rfl (rr_nilc rfl) rfl rfl ?_ | refine qv rfl (rr_lss rfl rfl (qT (by omega))) rfl rfl ?_
        | refine qv rfl (rr_lss rfl rfl (qF (by omega))) rfl rfl ?_ | refine qv rfl (rr_gtr rfl rfl (qT (by omega))) rfl rfl ?_
        | refine qv rfl (rr_gtr rfl rfl (qF (by omega))) rfl rfl ?_ | refine qv rfl (rr_eql rfl rfl (qT (by omega))) rfl rfl ?_
        | refine qv rfl (rr_eql rfl rfl (qF (by omega))) rfl rfl ?_ | refine qv rfl (rr_neq rfl rfl (qT (by omega))) rfl rfl ?_
        | refine qv rfl (rr_neq rfl rfl (qF (by omega))) rfl rfl ?_ | refine qv rfl (rr_add64 rfl rfl (by omega) (by omega) rfl) rfl rfl ?_)
      exact E_ret1 rfl rfl fun w hm => hm.meetsB (S := ⟨fun (_ : Unit) => True, fun _ => .int .i64 1, fun _ => [blkO gn #[.int .i64 ((n + 1 : Nat) : Int)] 3]⟩) () trivial [0] (by decide) rfl
    | false =>
      rw [if_neg (by decide)]
      repeat (first
        | refine qv rfl (qp rfl) rfl rfl ?_ | refine TL_nil ?_ | refine T_seq ?_ | refine T_region ?_ | refine qcT rfl ?_ | refine qcF rfl ?_ | refine T_skip ?_
        | refine T_exit ?_ | refine T_ret ?_ | refine T_block ?_ | refine E_then ?_ | refine E_thenX ?_ | refine E_thenR ?_ | refine E_blockN ?_
        | refine E_blockR ?_ | refine E_blockX ?_ | refine E_blockO rfl ?_ | refine qv rfl (rr_load1 TyC.ty rfl (at_blk (i := 1) rfl rfl)) rfl rfl ?_
        | refine qv rfl (qlen Und.eq rfl) rfl rfl ?_ | refine qv rfl (qfld FldC.fld rfl rfl) rfl rfl ?_ | refine qv rfl (rr_nilc rfl) rfl rfl ?_
        | refine qv rfl (rr_lss rfl rfl (qT (by omega))) rfl rfl ?_ | refine qv rfl (rr_lss rfl rfl (qF (by omega))) rfl rfl ?_
        | refine qv rfl (rr_gtr rfl rfl (qT (by omega))) rfl rfl ?_ | refine qv rfl (rr_gtr rfl rfl (qF (by omega))) rfl rfl ?_
        | refine qv rfl (rr_eql rfl rfl (qT (by omega))) rfl rfl ?_ | refine qv rfl (rr_eql rfl rfl (qF (by omega))) rfl rfl ?_
        | refine qv rfl (rr_neq rfl rfl (qT (by omega))) rfl rfl ?_ | refine qv rfl (rr_neq rfl rfl (qF (by omega))) rfl rfl ?_
        | refine qv rfl (rr_add64 rfl rfl (by omega) (by omega) rfl) rfl rfl ?_)
      refine T_pick [0] (by decide) rfl ?_
      refine T_loop (ι := Nat × Nat) (fun (j, q) => j ≤ kids.length ∧ q ≤ 100 ∧ chks kids (deep + 1) (n + 1) = chks (kids.drop j) (deep + 1) q) (fun (j, _) => [(1, .int .i64 (deep : Int)), (2, .pointer (some ⟨gn, 0, none⟩)), (40, .slice bk kids.length ck), (41, .int .i64 (kids.length : Int)), (42, .int .i64 (j : Int))])
        (fun (_, q) => [blkO gn #[.int .i64 (q : Int)] 3]) (fun (j, _) => kids.length - j) (0, n + 1) ⟨Nat.zero_le _, by omega, rfl⟩ (by repeat' (first | exact True.intro | refine And.intro rfl ?_)) rfl ?_
      rintro ⟨j, q⟩ ⟨hj, hq, hk⟩
      dsimp only at hj hq hk ⊢
      rw [hk]
      by_cases c4 : j < kids.length
      · obtain ⟨b, off, rfl, _, hr⟩ := hrk (by omega)
        obtain ⟨bj, cj, hrd, hkr⟩ := rkid_at hr c4
        have hd' : kids.drop j = kids[j] :: kids.drop (j + 1) := List.drop_eq_getElem_cons c4
        rw [hd', chks] at hk ⊢
        have hsz := sizesX_mem (List.getElem_mem c4)
        have hle := fun h => chk_le (r := kids[j]'c4) (deep := deep + 1) (n := q) h
        have hat := fun (L : List Own) j v hj => at_oldR (L := L) ho hrd j v hj
        generalize kids[j] = r at *
        generalize r.kids.length = m at *
        repeat (first
          | refine qv rfl (qp rfl) rfl rfl ?_ | refine TL_nil ?_ | refine T_seq ?_ | refine T_region ?_ | refine qcT rfl ?_ | refine qcF rfl ?_ | refine T_skip ?_
          | refine T_exit ?_ | refine T_ret ?_ | refine T_block ?_ | refine E_then ?_ | refine E_thenX ?_ | refine E_thenR ?_ | refine E_blockN ?_
          | refine E_blockR ?_ | refine E_blockX ?_ | refine E_blockO rfl ?_ | refine qv rfl (rr_idxc (j := j) Und.eq TyC.ty rfl rfl c4) rfl rfl ?_
          | refine qv rfl (rr_loadN TyC.ty rfl rfl (hat _)) rfl rfl ?_ | refine qv rfl (qlen Und.eq rfl) rfl rfl ?_
          | refine qv rfl (qfld FldC.fld rfl rfl) rfl rfl ?_ | refine qv rfl (rr_nilc rfl) rfl rfl ?_ | refine qv rfl (rr_lss rfl rfl (qT (by omega))) rfl rfl ?_
          | refine qv rfl (rr_lss rfl rfl (qF (by omega))) rfl rfl ?_ | refine qv rfl (rr_gtr rfl rfl (qT (by omega))) rfl rfl ?_
          | refine qv rfl (rr_gtr rfl rfl (qF (by omega))) rfl rfl ?_ | refine qv rfl (rr_eql rfl rfl (qT (by omega))) rfl rfl ?_
          | refine qv rfl (rr_eql rfl rfl (qF (by omega))) rfl rfl ?_ | refine qv rfl (rr_neq rfl rfl (qT (by omega))) rfl rfl ?_
          | refine qv rfl (rr_neq rfl rfl (qF (by omega))) rfl rfl ?_ | refine qv rfl (rr_add64 rfl rfl (by omega) (by omega) rfl) rfl rfl ?_)
        refine TL_new rfl fun g8 => ?_
        conv => arg 8; simp only [zA, zB, zC, zD, zE, zF, zG, zH, zI, rowS, ret, id_eq]
        refine TL_storeB (i := 1) (cs' := (rexC r.kind r.cls (.slice bj m cj)).toArray) rfl rfl rfl rfl rfl rfl ?_
        conv => arg 8; simp only [zA, zB, zC, zD, zE, zF, zG, zH, zI, rowS, ret, id_eq]
        repeat (first
          | refine qv rfl (qp rfl) rfl rfl ?_ | refine TL_nil ?_ | refine T_seq ?_ | refine T_region ?_ | refine qcT rfl ?_ | refine qcF rfl ?_ | refine T_skip ?_
          | refine T_exit ?_ | refine T_ret ?_ | refine T_block ?_ | refine E_then ?_ | refine E_thenX ?_ | refine E_thenR ?_ | refine E_blockN ?_
          | refine E_blockR ?_ | refine E_blockX ?_ | refine E_blockO rfl ?_ | refine qv rfl (rr_loadB (i := 1) TyC.ty rfl rfl rfl) rfl rfl ?_
          | refine qv rfl (rr_add64 (r := ((deep + 1 : Nat) : Int)) rfl rfl (by omega) (by omega) (by omega)) rfl rfl ?_
          | refine qv rfl (qlen Und.eq rfl) rfl rfl ?_ | refine qv rfl (qfld FldC.fld rfl rfl) rfl rfl ?_ | refine qv rfl (rr_nilc rfl) rfl rfl ?_
          | refine qv rfl (rr_lss rfl rfl (qT (by omega))) rfl rfl ?_ | refine qv rfl (rr_lss rfl rfl (qF (by omega))) rfl rfl ?_
          | refine qv rfl (rr_gtr rfl rfl (qT (by omega))) rfl rfl ?_ | refine qv rfl (rr_gtr rfl rfl (qF (by omega))) rfl rfl ?_
          | refine qv rfl (rr_eql rfl rfl (qT (by omega))) rfl rfl ?_ | refine qv rfl (rr_eql rfl rfl (qF (by omega))) rfl rfl ?_
          | refine qv rfl (rr_neq rfl rfl (qT (by omega))) rfl rfl ?_ | refine qv rfl (rr_neq rfl rfl (qF (by omega))) rfl rfl ?_
          | refine qv rfl (rr_add64 rfl rfl (by omega) (by omega) rfl) rfl rfl ?_)
        refine TL_callB [0] [1] (by decide) rfl rfl (he3 EntersC.en rfl rfl rfl rfl) (fun w hm hb => IH r (by omega) _ (deep + 1) q w _ hkr hq (by omega) (ho.on hm (by intro o ho; simp at ho ⊢; simp [ho])) hb) rfl rfl rfl ?_
        intro _ _
        dsimp only
        conv => arg 8; simp only [zA, zB, zC, zD, zE, zF, zG, zH, zI, rowS, ret, id_eq]
        by_cases e1 : (chk r (deep + 1) q).1 = 0
        · rw [if_neg (by simpa using e1)]
          rw [if_neg (by simpa using e1)] at hk
          have hq' := hle e1
          rw [e1]
          generalize (chk r (deep + 1) q).2 = q' at *
          repeat (first
            | refine qv rfl (qp rfl) rfl rfl ?_ | refine TL_nil ?_ | refine T_seq ?_ | refine T_region ?_ | refine qcT rfl ?_ | refine qcF rfl ?_ | refine T_skip ?_
            | refine T_exit ?_ | refine T_ret ?_ | refine T_block ?_ | refine E_then ?_ | refine E_thenX ?_ | refine E_thenR ?_ | refine E_blockN ?_
            | refine E_blockR ?_ | refine E_blockX ?_ | refine E_blockO rfl ?_ | refine qv rfl (qlen Und.eq rfl) rfl rfl ?_
            | refine qv rfl (qfld FldC.fld rfl rfl) rfl rfl ?_ | refine qv rfl (rr_nilc rfl) rfl rfl ?_ | refine qv rfl (rr_lss rfl rfl (qT (by omega))) rfl rfl ?_
            | refine qv rfl (rr_lss rfl rfl (qF (by omega))) rfl rfl ?_ | refine qv rfl (rr_gtr rfl rfl (qT (by omega))) rfl rfl ?_
            | refine qv rfl (rr_gtr rfl rfl (qF (by omega))) rfl rfl ?_ | refine qv rfl (rr_eql rfl rfl (qT (by omega))) rfl rfl ?_
            | refine qv rfl (rr_eql rfl rfl (qF (by omega))) rfl rfl ?_ | refine qv rfl (rr_neq rfl rfl (qT (by omega))) rfl rfl ?_
            | refine qv rfl (rr_neq rfl rfl (qF (by omega))) rfl rfl ?_ | refine qv rfl (rr_add64 rfl rfl (by omega) (by omega) rfl) rfl rfl ?_)
          refine E_pick [1] (by decide) rfl ?_
          exact E_round (j + 1, q') ⟨by show j + 1 ≤ kids.length; omega, hq', rfl⟩ (by show kids.length - (j + 1) < kids.length - j; omega) (by repeat' (first | exact True.intro | refine And.intro rfl ?_)) rfl
        · rw [if_pos e1]
          generalize chk r (deep + 1) q = z at *
          repeat (first
            | refine qv rfl (qp rfl) rfl rfl ?_ | refine TL_nil ?_ | refine T_seq ?_ | refine T_region ?_ | refine qcT rfl ?_ | refine qcF rfl ?_ | refine T_skip ?_
            | refine T_exit ?_ | refine T_ret ?_ | refine T_block ?_ | refine E_then ?_ | refine E_thenX ?_ | refine E_thenR ?_ | refine E_blockN ?_
            | refine E_blockR ?_ | refine E_blockX ?_ | refine E_blockO rfl ?_ | refine qv rfl (rr_neq (b := true) rfl rfl (decide_eq_true e1)) rfl rfl ?_
            | refine qv rfl (qlen Und.eq rfl) rfl rfl ?_ | refine qv rfl (qfld FldC.fld rfl rfl) rfl rfl ?_ | refine qv rfl (rr_nilc rfl) rfl rfl ?_
            | refine qv rfl (rr_lss rfl rfl (qT (by omega))) rfl rfl ?_ | refine qv rfl (rr_lss rfl rfl (qF (by omega))) rfl rfl ?_
            | refine qv rfl (rr_gtr rfl rfl (qT (by omega))) rfl rfl ?_ | refine qv rfl (rr_gtr rfl rfl (qF (by omega))) rfl rfl ?_
            | refine qv rfl (rr_eql rfl rfl (qT (by omega))) rfl rfl ?_ | refine qv rfl (rr_eql rfl rfl (qF (by omega))) rfl rfl ?_
            | refine qv rfl (rr_neq rfl rfl (qT (by omega))) rfl rfl ?_ | refine qv rfl (rr_neq rfl rfl (qF (by omega))) rfl rfl ?_
            | refine qv rfl (rr_add64 rfl rfl (by omega) (by omega) rfl) rfl rfl ?_)
          exact E_ret1 rfl rfl fun w hm => hm.meetsB (S := ⟨fun (_ : Unit) => True, fun _ => .int .i64 z.1, fun _ => [blkO gn #[.int .i64 (z.2 : Int)] 3]⟩) () trivial [1] (by decide) rfl
      · obtain rfl : j = kids.length := by omega
        rw [List.drop_length, chks] at hk ⊢
        repeat (first
          | refine qv rfl (qp rfl) rfl rfl ?_ | refine TL_nil ?_ | refine T_seq ?_ | refine T_region ?_ | refine qcT rfl ?_ | refine qcF rfl ?_ | refine T_skip ?_
          | refine T_exit ?_ | refine T_ret ?_ | refine T_block ?_ | refine E_then ?_ | refine E_thenX ?_ | refine E_thenR ?_ | refine E_blockN ?_
          | refine E_blockR ?_ | refine E_blockX ?_ | refine E_blockO rfl ?_ | refine qv rfl (qlen Und.eq rfl) rfl rfl ?_
          | refine qv rfl (qfld FldC.fld rfl rfl) rfl rfl ?_ | refine qv rfl (rr_nilc rfl) rfl rfl ?_ | refine qv rfl (rr_lss rfl rfl (qT (by omega))) rfl rfl ?_
          | refine qv rfl (rr_lss rfl rfl (qF (by omega))) rfl rfl ?_ | refine qv rfl (rr_gtr rfl rfl (qT (by omega))) rfl rfl ?_
          | refine qv rfl (rr_gtr rfl rfl (qF (by omega))) rfl rfl ?_ | refine qv rfl (rr_eql rfl rfl (qT (by omega))) rfl rfl ?_
          | refine qv rfl (rr_eql rfl rfl (qF (by omega))) rfl rfl ?_ | refine qv rfl (rr_neq rfl rfl (qT (by omega))) rfl rfl ?_
          | refine qv rfl (rr_neq rfl rfl (qF (by omega))) rfl rfl ?_ | refine qv rfl (rr_add64 rfl rfl (by omega) (by omega) rfl) rfl rfl ?_)
        exact E_ret1 rfl rfl fun w hm => hm.meetsB (S := ⟨fun (_ : Unit) => True, fun _ => .int .i64 0, fun _ => [blkO gn #[.int .i64 (q : Int)] 3]⟩) () trivial [0] (by decide) rfl
/-- what Check says -/
def chkX (r : Rx) : Int := (chk r 1 0).1
set_option maxHeartbeats 4000000 in
theorem rexCheck_calls (v : Value) (r : Rx) (w : World) (hv : RexR (Low w) w v r) : Calls Try.prog 12 #[v] w (Meets (ret (.int .i64 (chkX r))) w) := by
  have hc := fun gn w' B ho hm => check_calls w gn _ r (Nat.le_refl _) v 1 0 w' B hv (by omega) (by omega) ho hm
  obtain ⟨vk, rfl, _, hs⟩ := hv
  obtain ⟨bk, ck, rfl, -⟩ := hs
  generalize r.kids.length = m at *
  refine enter (args := [rexV r.kind r.cls (.slice bk m ck)]) (n := 6) Try.func12 rfl rfl rfl ?_
  refine T_seq (T_region (TL_box rfl rfl rfl fun g1 => ?_))
  repeat (first
    | refine qv rfl (qp rfl) rfl rfl ?_ | refine TL_nil ?_ | refine T_seq ?_ | refine T_region ?_ | refine T_ret ?_ | refine E_then ?_ | refine E_thenR ?_)
  refine TL_new rfl fun g3 => ?_
  conv => arg 8; simp only [zA, zB, zC, zD, zE, zF, zG, zH, zI, rowS, ret, id_eq]
  refine TL_store1 (i := 1) rfl rfl rfl rfl rfl rfl ?_
  conv => arg 8; simp only [zA, zB, zC, zD, zE, zF, zG, zH, zI, rowS, ret, id_eq]
  repeat (first
    | refine qv rfl (qp rfl) rfl rfl ?_ | refine TL_nil ?_ | refine T_seq ?_ | refine T_region ?_ | refine T_ret ?_ | refine E_then ?_ | refine E_thenR ?_
    | refine qv rfl (rr_loadB (i := 0) TyC.ty rfl rfl rfl) rfl rfl ?_)
  refine TL_callB [1] [0] (by decide) rfl rfl (he3 EntersC.en rfl rfl rfl rfl) (fun w hm hb => hc g3 w _ ((Old.self _).on hm (by intro o ho; simp at ho ⊢; simp [ho])) hb) rfl rfl rfl ?_
  intro _ _
  dsimp only
  unfold chkX
  repeat (first
    | refine qv rfl (qp rfl) rfl rfl ?_ | refine TL_nil ?_ | refine T_seq ?_ | refine T_region ?_ | refine T_ret ?_ | refine E_then ?_ | refine E_thenR ?_)
  exact E_ret1 rfl rfl fun w hm => hm.ret
end Go.Proofs.Ytcflcmlmlinbaaa.eng

/- PlM -/
namespace Go.Proofs.Ytcflcmlmlinbaaa.eng
open Go.RowKit kit mix classL rexL placesL
theorem build_posz (w : World) : (Instr.build 28 (#[] : Array (Nat × Value))).run Try.prog w = .ok (.agg #[.slice none 0 0, .slice none 0 0, .slice none 0 0, .slice none 0 0, .slice none 0 0, .slice none 0 0]) w := by
  go_simp
theorem build_mkz (w : World) : (Instr.build 54 (#[] : Array (Nat × Value))).run Try.prog w = .ok (.agg #[.slice none 0 0, .slice none 0 0, .slice none 0 0, .slice none 0 0, .slice none 0 0, .slice none 0 0, .int .i64 0]) w := by
  go_simp
/-- what Make hands back -/
structure PIx where
  vc : Value
  vr : Value
  vf : Value
  vfol : Value
  vl : Value
  ve : Value
  vs : List Value
  F : Nat → Prop
def posL (x : PIx) (m : MS) : List Own :=
  [rowO 36 4 x.vc m.ps.classes.length (m.ps.classes.flatMap clsL), intR x.vr m.ps.rules, intR x.vf m.first, folR x.vfol x.vs, folE x.F x.vs m.ps.follow, rowO 4 1 x.vl m.ps.last.length (m.ps.last.map Value.bool), rowO 4 1 x.ve m.empty.length (m.empty.map Value.bool)]
def posC (x : PIx) : Array Value := #[x.vc, x.vr, x.vf, x.vfol, x.vl, x.ve]
def makeSp (R : Int × MS) : Spec PIx := ⟨fun x => x.vs.length = R.2.ps.follow.length, fun x => .tuple #[.agg (posC x), .int .i64 R.1], fun x => posL x R.2⟩
def nilP : PIx := ⟨.slice none 0 0, .slice none 0 0, .slice none 0 0, .slice none 0 0, .slice none 0 0, .slice none 0 0, [], fun _ => False⟩
/-- nothing, as what Make hands back -/
theorem E_zero {n : Nat} {W : Base} {Q : Exit → Act → World → Prop} {fr : Fr} {L : List Own} {e' : Exit} (h : E n W e' Q fr (L ++ posL nilP .zero)) : E n W e' Q fr L := by
  refine E_nilrow 36 4 (E_nilrow 3 1 (E_nilrow 3 1 (E_nilrow 24 1 (E_extra (folE (fun _ => False) [] []) (fun k hk => hk.elim (fun h => by cases h) id) (fun w => els_nil) (E_nilrow 4 1 (E_nilrow 4 1 ?_))))))
  simp only [List.append_assoc, List.cons_append, List.nil_append]
  exact h
theorem posn_at {vc vr vf vfol vl ve v : Value} {rule : Int} {j : Nat} (h : [vc, vr, vf, vfol, vl, ve][j]? = some v) : (mkC vc vr vf vfol vl ve rule)[0 + j]? = some v := by
  rw [Nat.zero_add]
  match j, h with
  | 0, h => exact h
  | 1, h => exact h
  | 2, h => exact h
  | 3, h => exact h
  | 4, h => exact h
  | 5, h => exact h
def boolC (b : Bool) : List Value := [.bool b]
theorem boolC_len (b : Bool) : (boolC b).length = 1 := rfl
theorem bool_flat (l : List Bool) : l.flatMap boolC = l.map Value.bool := by
  induction l with
  | nil => rfl
  | cons x r ih => rw [List.flatMap_cons, ih]; rfl
def MakeR (rs : List Rx) (R : Int × MS) : Prop :=
  ((rs.length = 0 ∨ 20 < rs.length) ∧ R = (1, .zero)) ∨ (¬ (rs.length = 0 ∨ 20 < rs.length) ∧ checkM rs ≠ 0 ∧ R = (checkM rs, .zero)) ∨
    (¬ (rs.length = 0 ∨ 20 < rs.length) ∧ checkM rs = 0 ∧ ∃ es : List Re, rs = es.map emb ∧ (∀ e ∈ es, e.size ≤ 100) ∧ R = loopM 0 .zero es)
theorem check_drop {l : List Rx} {k : Nat} (h : k < l.length) : checkM (l.drop k) = if chkR l[k] ≠ 0 then chkR l[k] else checkM (l.drop (k + 1)) := by
  rw [List.drop_eq_getElem_cons h, checkM]
set_option maxHeartbeats 16000000 in
theorem make_calls (v : Value) (rs : List Rx) (R : Int × MS) (w : World) (hv : SlF rexS (Low w) w v rs) (hR : MakeR rs R) :
    Calls Try.prog 5 #[v] w (Meets (makeSp R) w) := by
  obtain ⟨bk, ck, rfl, h1, h2, h3⟩ := hv
  unfold maxLen at h2
  refine enter (args := [.slice bk rs.length ck]) (n := 104) Try.func5 rfl rfl rfl ?_
  refine T_seq (T_region (TL_new rfl fun g2 => ?_))
  conv => arg 8; simp only [zA, zB, zC, zD, zE, zF, zG, zH, zI, rowS, ret, id_eq]
  rcases hR with ⟨c1, rfl⟩ | hR
  · by_cases c2 : rs.length = 0
    · repeat (first
        | refine qv rfl (qp rfl) rfl rfl ?_ | refine TL_nil ?_ | refine T_seq ?_ | refine T_region ?_ | refine qcT rfl ?_ | refine qcF rfl ?_ | refine T_skip ?_
        | refine T_exit ?_ | refine T_ret ?_ | refine T_block ?_ | refine E_then ?_ | refine E_thenX ?_ | refine E_thenR ?_ | refine E_blockN ?_
        | refine E_blockR ?_ | refine E_blockX ?_ | refine E_blockO rfl ?_ | refine qs rfl rfl rfl rfl rfl rfl ?_
        | ((try refine qg rfl rfl rfl ?_); first | refine qv rfl (qp rfl) rfl rfl ?_ | refine qv rfl (rr_eql (b := true) rfl rfl (decide_eq_true (by omega))) rfl rfl ?_ | refine qv rfl (rr_build rfl build_posz) rfl rfl ?_ | refine qv rfl (qlen Und.eq rfl) rfl rfl ?_ | refine qv rfl (qfld FldC.fld rfl rfl) rfl rfl ?_ | refine qv rfl (rr_nilc rfl) rfl rfl ?_ | refine qv rfl (rr_lss rfl rfl (qT (by omega))) rfl rfl ?_ | refine qv rfl (rr_lss rfl rfl (qF (by omega))) rfl rfl ?_ | refine qv rfl (rr_gtr rfl rfl (qT (by omega))) rfl rfl ?_ | refine qv rfl (rr_gtr rfl rfl (qF (by omega))) rfl rfl ?_ | refine qv rfl (rr_eql rfl rfl (qT (by omega))) rfl rfl ?_ | refine qv rfl (rr_eql rfl rfl (qF (by omega))) rfl rfl ?_ | refine qv rfl (rr_neq rfl rfl (qT (by omega))) rfl rfl ?_ | refine qv rfl (rr_neq rfl rfl (qF (by omega))) rfl rfl ?_ | refine qv rfl (rr_add64 rfl rfl (by omega) (by omega) rfl) rfl rfl ?_))
      refine TL_storeB (i := 0) rfl rfl rfl rfl rfl rfl ?_
      conv => arg 8; simp only [zA, zB, zC, zD, zE, zF, zG, zH, zI, rowS, ret, id_eq]
      repeat (first
        | refine qv rfl (qp rfl) rfl rfl ?_ | refine TL_nil ?_ | refine T_seq ?_ | refine T_region ?_ | refine qcT rfl ?_ | refine qcF rfl ?_ | refine T_skip ?_
        | refine T_exit ?_ | refine T_ret ?_ | refine T_block ?_ | refine E_then ?_ | refine E_thenX ?_ | refine E_thenR ?_ | refine E_blockN ?_
        | refine E_blockR ?_ | refine E_blockX ?_ | refine E_blockO rfl ?_ | refine qs rfl rfl rfl rfl rfl rfl ?_
        | ((try refine qg rfl rfl rfl ?_); first | refine qv rfl (qp rfl) rfl rfl ?_ | refine qv rfl (qlen Und.eq rfl) rfl rfl ?_ | refine qv rfl (qfld FldC.fld rfl rfl) rfl rfl ?_ | refine qv rfl (rr_nilc rfl) rfl rfl ?_ | refine qv rfl (rr_lss rfl rfl (qT (by omega))) rfl rfl ?_ | refine qv rfl (rr_lss rfl rfl (qF (by omega))) rfl rfl ?_ | refine qv rfl (rr_gtr rfl rfl (qT (by omega))) rfl rfl ?_ | refine qv rfl (rr_gtr rfl rfl (qF (by omega))) rfl rfl ?_ | refine qv rfl (rr_eql rfl rfl (qT (by omega))) rfl rfl ?_ | refine qv rfl (rr_eql rfl rfl (qF (by omega))) rfl rfl ?_ | refine qv rfl (rr_neq rfl rfl (qT (by omega))) rfl rfl ?_ | refine qv rfl (rr_neq rfl rfl (qF (by omega))) rfl rfl ?_ | refine qv rfl (rr_add64 rfl rfl (by omega) (by omega) rfl) rfl rfl ?_))
      refine E_zero ?_
      exact E_retc2 (i := 0) rfl rfl rfl rfl rfl fun w hm => hm.meets (S := makeSp (1, .zero)) nilP rfl [1, 2, 3, 4, 5, 6, 7] (by decide) rfl
    · have c3 : 20 < rs.length := c1.resolve_left c2
      repeat (first
        | refine qv rfl (qp rfl) rfl rfl ?_ | refine TL_nil ?_ | refine T_seq ?_ | refine T_region ?_ | refine qcT rfl ?_ | refine qcF rfl ?_ | refine T_skip ?_
        | refine T_exit ?_ | refine T_ret ?_ | refine T_block ?_ | refine E_then ?_ | refine E_thenX ?_ | refine E_thenR ?_ | refine E_blockN ?_
        | refine E_blockR ?_ | refine E_blockX ?_ | refine E_blockO rfl ?_ | refine qs rfl rfl rfl rfl rfl rfl ?_
        | ((try refine qg rfl rfl rfl ?_); first | refine qv rfl (qp rfl) rfl rfl ?_ | refine qv rfl (rr_eql (b := false) rfl rfl (decide_eq_false (by omega))) rfl rfl ?_ | refine qv rfl (rr_gtr (b := true) rfl rfl (decide_eq_true (by omega))) rfl rfl ?_ | refine qv rfl (rr_build rfl build_posz) rfl rfl ?_ | refine qv rfl (qlen Und.eq rfl) rfl rfl ?_ | refine qv rfl (qfld FldC.fld rfl rfl) rfl rfl ?_ | refine qv rfl (rr_nilc rfl) rfl rfl ?_ | refine qv rfl (rr_lss rfl rfl (qT (by omega))) rfl rfl ?_ | refine qv rfl (rr_lss rfl rfl (qF (by omega))) rfl rfl ?_ | refine qv rfl (rr_gtr rfl rfl (qT (by omega))) rfl rfl ?_ | refine qv rfl (rr_gtr rfl rfl (qF (by omega))) rfl rfl ?_ | refine qv rfl (rr_eql rfl rfl (qT (by omega))) rfl rfl ?_ | refine qv rfl (rr_eql rfl rfl (qF (by omega))) rfl rfl ?_ | refine qv rfl (rr_neq rfl rfl (qT (by omega))) rfl rfl ?_ | refine qv rfl (rr_neq rfl rfl (qF (by omega))) rfl rfl ?_ | refine qv rfl (rr_add64 rfl rfl (by omega) (by omega) rfl) rfl rfl ?_))
      refine TL_storeB (i := 0) rfl rfl rfl rfl rfl rfl ?_
      conv => arg 8; simp only [zA, zB, zC, zD, zE, zF, zG, zH, zI, rowS, ret, id_eq]
      repeat (first
        | refine qv rfl (qp rfl) rfl rfl ?_ | refine TL_nil ?_ | refine T_seq ?_ | refine T_region ?_ | refine qcT rfl ?_ | refine qcF rfl ?_ | refine T_skip ?_
        | refine T_exit ?_ | refine T_ret ?_ | refine T_block ?_ | refine E_then ?_ | refine E_thenX ?_ | refine E_thenR ?_ | refine E_blockN ?_
        | refine E_blockR ?_ | refine E_blockX ?_ | refine E_blockO rfl ?_ | refine qs rfl rfl rfl rfl rfl rfl ?_
        | ((try refine qg rfl rfl rfl ?_); first | refine qv rfl (qp rfl) rfl rfl ?_ | refine qv rfl (qlen Und.eq rfl) rfl rfl ?_ | refine qv rfl (qfld FldC.fld rfl rfl) rfl rfl ?_ | refine qv rfl (rr_nilc rfl) rfl rfl ?_ | refine qv rfl (rr_lss rfl rfl (qT (by omega))) rfl rfl ?_ | refine qv rfl (rr_lss rfl rfl (qF (by omega))) rfl rfl ?_ | refine qv rfl (rr_gtr rfl rfl (qT (by omega))) rfl rfl ?_ | refine qv rfl (rr_gtr rfl rfl (qF (by omega))) rfl rfl ?_ | refine qv rfl (rr_eql rfl rfl (qT (by omega))) rfl rfl ?_ | refine qv rfl (rr_eql rfl rfl (qF (by omega))) rfl rfl ?_ | refine qv rfl (rr_neq rfl rfl (qT (by omega))) rfl rfl ?_ | refine qv rfl (rr_neq rfl rfl (qF (by omega))) rfl rfl ?_ | refine qv rfl (rr_add64 rfl rfl (by omega) (by omega) rfl) rfl rfl ?_))
      refine E_zero ?_
      exact E_retc2 (i := 0) rfl rfl rfl rfl rfl fun w hm => hm.meets (S := makeSp (1, .zero)) nilP rfl [1, 2, 3, 4, 5, 6, 7] (by decide) rfl
  have hlen : ¬ (rs.length = 0 ∨ 20 < rs.length) := by rcases hR with ⟨h, _⟩ | ⟨h, _⟩ <;> exact h
  repeat (first
    | refine qv rfl (qp rfl) rfl rfl ?_ | refine TL_nil ?_ | refine T_seq ?_ | refine T_region ?_ | refine qcT rfl ?_ | refine qcF rfl ?_ | refine T_skip ?_
    | refine T_exit ?_ | refine T_ret ?_ | refine T_block ?_ | refine E_then ?_ | refine E_thenX ?_ | refine E_thenR ?_ | refine E_blockN ?_
    | refine E_blockR ?_ | refine E_blockX ?_ | refine E_blockO rfl ?_ | refine qs rfl rfl rfl rfl rfl rfl ?_
    | ((try refine qg rfl rfl rfl ?_); first | refine qv rfl (qp rfl) rfl rfl ?_ | refine qv rfl (rr_eql (b := false) rfl rfl (decide_eq_false (by omega))) rfl rfl ?_ | refine qv rfl (rr_gtr (b := false) rfl rfl (decide_eq_false (by omega))) rfl rfl ?_ | refine qv rfl (qlen Und.eq rfl) rfl rfl ?_ | refine qv rfl (qfld FldC.fld rfl rfl) rfl rfl ?_ | refine qv rfl (rr_nilc rfl) rfl rfl ?_ | refine qv rfl (rr_lss rfl rfl (qT (by omega))) rfl rfl ?_ | refine qv rfl (rr_lss rfl rfl (qF (by omega))) rfl rfl ?_ | refine qv rfl (rr_gtr rfl rfl (qT (by omega))) rfl rfl ?_ | refine qv rfl (rr_gtr rfl rfl (qF (by omega))) rfl rfl ?_ | refine qv rfl (rr_eql rfl rfl (qT (by omega))) rfl rfl ?_ | refine qv rfl (rr_eql rfl rfl (qF (by omega))) rfl rfl ?_ | refine qv rfl (rr_neq rfl rfl (qT (by omega))) rfl rfl ?_ | refine qv rfl (rr_neq rfl rfl (qF (by omega))) rfl rfl ?_ | refine qv rfl (rr_add64 rfl rfl (by omega) (by omega) rfl) rfl rfl ?_))
  refine T_loop (ι := Nat) (fun k => k ≤ rs.length ∧ checkM rs = checkM (rs.drop k)) (fun k => [(0, .slice bk rs.length ck), (2, .pointer (some ⟨g2, 0, none⟩)), (22, .slice bk rs.length ck), (23, .int .i64 rs.length), (24, .int .i64 (k : Int))])
    (fun _ => [blkO g2 #[.slice none 0 0, .slice none 0 0, .slice none 0 0, .slice none 0 0, .slice none 0 0, .slice none 0 0] 28]) (fun k => rs.length - k) 0 ⟨Nat.zero_le _, rfl⟩ (by repeat' (first | exact True.intro | refine And.intro rfl ?_)) rfl ?_
  rintro k ⟨i1, i2⟩
  by_cases c6 : k < rs.length
  · obtain ⟨b, off, rfl, hF, hrd⟩ := h3 (by omega)
    obtain ⟨kb, kc, hr, hkid⟩ := rkid_at hrd c6
    have hat := fun (L : List Own) (j : Nat) (v : Value) (hj : (rexC rs[k].kind rs[k].cls (.slice kb rs[k].kids.length kc))[j]? = some v) => at_rd (L := L) hr hj
    have hck : ∀ w', Gr w w' → Calls Try.prog 12 #[rexV rs[k].kind rs[k].cls (.slice kb rs[k].kids.length kc)] w' (Meets (ret (.int .i64 (chkR rs[k]))) w') := fun w' hg => rexCheck_calls _ _ w' (hkid.gr hg)
    have hdr := check_drop c6
    clear h3 hrd hr
    generalize rs[k] = r at *
    repeat (first
      | refine qv rfl (qp rfl) rfl rfl ?_ | refine TL_nil ?_ | refine T_seq ?_ | refine T_region ?_ | refine qcT rfl ?_ | refine qcF rfl ?_ | refine T_skip ?_
      | refine T_exit ?_ | refine T_ret ?_ | refine T_block ?_ | refine E_then ?_ | refine E_thenX ?_ | refine E_thenR ?_ | refine E_blockN ?_
      | refine E_blockR ?_ | refine E_blockX ?_ | refine E_blockO rfl ?_ | refine qs rfl rfl rfl rfl rfl rfl ?_
      | ((try refine qg rfl rfl rfl ?_); first | refine qv rfl (qp rfl) rfl rfl ?_ | refine qv rfl (rr_idxc Und.eq TyC.ty rfl rfl c6) rfl rfl ?_ | refine qv rfl (rr_loadN TyC.ty rfl rfl (hat _)) rfl rfl ?_ | refine qv rfl (qlen Und.eq rfl) rfl rfl ?_ | refine qv rfl (qfld FldC.fld rfl rfl) rfl rfl ?_ | refine qv rfl (rr_nilc rfl) rfl rfl ?_ | refine qv rfl (rr_lss rfl rfl (qT (by omega))) rfl rfl ?_ | refine qv rfl (rr_lss rfl rfl (qF (by omega))) rfl rfl ?_ | refine qv rfl (rr_gtr rfl rfl (qT (by omega))) rfl rfl ?_ | refine qv rfl (rr_gtr rfl rfl (qF (by omega))) rfl rfl ?_ | refine qv rfl (rr_eql rfl rfl (qT (by omega))) rfl rfl ?_ | refine qv rfl (rr_eql rfl rfl (qF (by omega))) rfl rfl ?_ | refine qv rfl (rr_neq rfl rfl (qT (by omega))) rfl rfl ?_ | refine qv rfl (rr_neq rfl rfl (qF (by omega))) rfl rfl ?_ | refine qv rfl (rr_add64 rfl rfl (by omega) (by omega) rfl) rfl rfl ?_))
    refine TL_new rfl fun g5 => ?_
    conv => arg 8; simp only [zA, zB, zC, zD, zE, zF, zG, zH, zI, rowS, ret, id_eq]
    refine TL_storeB (i := 1) (cs' := (rexC r.kind r.cls (.slice kb r.kids.length kc)).toArray) rfl rfl rfl rfl rfl rfl ?_
    conv => arg 8; simp only [zA, zB, zC, zD, zE, zF, zG, zH, zI, rowS, ret, id_eq]
    repeat (first
      | refine qv rfl (qp rfl) rfl rfl ?_ | refine TL_nil ?_ | refine T_seq ?_ | refine T_region ?_ | refine qcT rfl ?_ | refine qcF rfl ?_ | refine T_skip ?_
      | refine T_exit ?_ | refine T_ret ?_ | refine T_block ?_ | refine E_then ?_ | refine E_thenX ?_ | refine E_thenR ?_ | refine E_blockN ?_
      | refine E_blockR ?_ | refine E_blockX ?_ | refine E_blockO rfl ?_ | refine qs rfl rfl rfl rfl rfl rfl ?_
      | ((try refine qg rfl rfl rfl ?_); first | refine qv rfl (qp rfl) rfl rfl ?_ | refine qv rfl (rr_loadB (i := 1) TyC.ty rfl rfl rfl) rfl rfl ?_ | refine qv rfl (qlen Und.eq rfl) rfl rfl ?_ | refine qv rfl (qfld FldC.fld rfl rfl) rfl rfl ?_ | refine qv rfl (rr_nilc rfl) rfl rfl ?_ | refine qv rfl (rr_lss rfl rfl (qT (by omega))) rfl rfl ?_ | refine qv rfl (rr_lss rfl rfl (qF (by omega))) rfl rfl ?_ | refine qv rfl (rr_gtr rfl rfl (qT (by omega))) rfl rfl ?_ | refine qv rfl (rr_gtr rfl rfl (qF (by omega))) rfl rfl ?_ | refine qv rfl (rr_eql rfl rfl (qT (by omega))) rfl rfl ?_ | refine qv rfl (rr_eql rfl rfl (qF (by omega))) rfl rfl ?_ | refine qv rfl (rr_neq rfl rfl (qT (by omega))) rfl rfl ?_ | refine qv rfl (rr_neq rfl rfl (qF (by omega))) rfl rfl ?_ | refine qv rfl (rr_add64 rfl rfl (by omega) (by omega) rfl) rfl rfl ?_))
    refine TL_call (he1 EntersC.en rfl rfl) (fun w hm => hck _ hm.below) rfl rfl rfl ?_
    intro _ _
    conv => arg 8; simp only [zA, zB, zC, zD, zE, zF, zG, zH, zI, rowS, ret, id_eq]
    by_cases c7 : chkR r = 0
    · repeat (first
        | refine qv rfl (qp rfl) rfl rfl ?_ | refine TL_nil ?_ | refine T_seq ?_ | refine T_region ?_ | refine qcT rfl ?_ | refine qcF rfl ?_ | refine T_skip ?_
        | refine T_exit ?_ | refine T_ret ?_ | refine T_block ?_ | refine E_then ?_ | refine E_thenX ?_ | refine E_thenR ?_ | refine E_blockN ?_
        | refine E_blockR ?_ | refine E_blockX ?_ | refine E_blockO rfl ?_ | refine qs rfl rfl rfl rfl rfl rfl ?_
        | ((try refine qg rfl rfl rfl ?_); first | refine qv rfl (qp rfl) rfl rfl ?_ | refine qv rfl (rr_neq (b := false) rfl rfl (decide_eq_false (by simpa using c7))) rfl rfl ?_ | refine qv rfl (qlen Und.eq rfl) rfl rfl ?_ | refine qv rfl (qfld FldC.fld rfl rfl) rfl rfl ?_ | refine qv rfl (rr_nilc rfl) rfl rfl ?_ | refine qv rfl (rr_lss rfl rfl (qT (by omega))) rfl rfl ?_ | refine qv rfl (rr_lss rfl rfl (qF (by omega))) rfl rfl ?_ | refine qv rfl (rr_gtr rfl rfl (qT (by omega))) rfl rfl ?_ | refine qv rfl (rr_gtr rfl rfl (qF (by omega))) rfl rfl ?_ | refine qv rfl (rr_eql rfl rfl (qT (by omega))) rfl rfl ?_ | refine qv rfl (rr_eql rfl rfl (qF (by omega))) rfl rfl ?_ | refine qv rfl (rr_neq rfl rfl (qT (by omega))) rfl rfl ?_ | refine qv rfl (rr_neq rfl rfl (qF (by omega))) rfl rfl ?_ | refine qv rfl (rr_add64 rfl rfl (by omega) (by omega) rfl) rfl rfl ?_))
      refine E_pick [0] (by decide) rfl ?_
      exact E_round (k + 1) ⟨by omega, by rw [i2, hdr, if_neg (by simpa using c7)]⟩ (by show rs.length - (k + 1) < rs.length - k; omega) (by repeat' (first | exact True.intro | refine And.intro rfl ?_)) rfl
    · have hne : checkM rs ≠ 0 := by rw [i2, hdr, if_pos c7]; exact c7
      rcases hR with ⟨_, _, rfl⟩ | ⟨_, h0, _⟩
      · rw [i2, hdr, if_pos c7]
        repeat (first
          | refine qv rfl (qp rfl) rfl rfl ?_ | refine TL_nil ?_ | refine T_seq ?_ | refine T_region ?_ | refine qcT rfl ?_ | refine qcF rfl ?_ | refine T_skip ?_
          | refine T_exit ?_ | refine T_ret ?_ | refine T_block ?_ | refine E_then ?_ | refine E_thenX ?_ | refine E_thenR ?_ | refine E_blockN ?_
          | refine E_blockR ?_ | refine E_blockX ?_ | refine E_blockO rfl ?_ | refine qs rfl rfl rfl rfl rfl rfl ?_
          | ((try refine qg rfl rfl rfl ?_); first | refine qv rfl (qp rfl) rfl rfl ?_ | refine qv rfl (rr_neq (b := true) rfl rfl (decide_eq_true c7)) rfl rfl ?_ | refine qv rfl (rr_build rfl build_posz) rfl rfl ?_ | refine qv rfl (qlen Und.eq rfl) rfl rfl ?_ | refine qv rfl (qfld FldC.fld rfl rfl) rfl rfl ?_ | refine qv rfl (rr_nilc rfl) rfl rfl ?_ | refine qv rfl (rr_lss rfl rfl (qT (by omega))) rfl rfl ?_ | refine qv rfl (rr_lss rfl rfl (qF (by omega))) rfl rfl ?_ | refine qv rfl (rr_gtr rfl rfl (qT (by omega))) rfl rfl ?_ | refine qv rfl (rr_gtr rfl rfl (qF (by omega))) rfl rfl ?_ | refine qv rfl (rr_eql rfl rfl (qT (by omega))) rfl rfl ?_ | refine qv rfl (rr_eql rfl rfl (qF (by omega))) rfl rfl ?_ | refine qv rfl (rr_neq rfl rfl (qT (by omega))) rfl rfl ?_ | refine qv rfl (rr_neq rfl rfl (qF (by omega))) rfl rfl ?_ | refine qv rfl (rr_add64 rfl rfl (by omega) (by omega) rfl) rfl rfl ?_))
        refine TL_storeB (i := 0) rfl rfl rfl rfl rfl rfl ?_
        conv => arg 8; simp only [zA, zB, zC, zD, zE, zF, zG, zH, zI, rowS, ret, id_eq]
        repeat (first
          | refine qv rfl (qp rfl) rfl rfl ?_ | refine TL_nil ?_ | refine T_seq ?_ | refine T_region ?_ | refine qcT rfl ?_ | refine qcF rfl ?_ | refine T_skip ?_
          | refine T_exit ?_ | refine T_ret ?_ | refine T_block ?_ | refine E_then ?_ | refine E_thenX ?_ | refine E_thenR ?_ | refine E_blockN ?_
          | refine E_blockR ?_ | refine E_blockX ?_ | refine E_blockO rfl ?_ | refine qs rfl rfl rfl rfl rfl rfl ?_
          | ((try refine qg rfl rfl rfl ?_); first | refine qv rfl (qp rfl) rfl rfl ?_ | refine qv rfl (qlen Und.eq rfl) rfl rfl ?_ | refine qv rfl (qfld FldC.fld rfl rfl) rfl rfl ?_ | refine qv rfl (rr_nilc rfl) rfl rfl ?_ | refine qv rfl (rr_lss rfl rfl (qT (by omega))) rfl rfl ?_ | refine qv rfl (rr_lss rfl rfl (qF (by omega))) rfl rfl ?_ | refine qv rfl (rr_gtr rfl rfl (qT (by omega))) rfl rfl ?_ | refine qv rfl (rr_gtr rfl rfl (qF (by omega))) rfl rfl ?_ | refine qv rfl (rr_eql rfl rfl (qT (by omega))) rfl rfl ?_ | refine qv rfl (rr_eql rfl rfl (qF (by omega))) rfl rfl ?_ | refine qv rfl (rr_neq rfl rfl (qT (by omega))) rfl rfl ?_ | refine qv rfl (rr_neq rfl rfl (qF (by omega))) rfl rfl ?_ | refine qv rfl (rr_add64 rfl rfl (by omega) (by omega) rfl) rfl rfl ?_))
        refine E_zero ?_
        exact E_retc2 (i := 0) rfl rfl rfl rfl rfl fun w hm => hm.meets (S := makeSp (chkR r, .zero)) nilP rfl [2, 3, 4, 5, 6, 7, 8] (by decide) rfl
      · exact absurd h0 hne
  · obtain rfl : k = rs.length := by omega
    have h0 : checkM rs = 0 := by rw [i2, List.drop_eq_nil_of_le (Nat.le_refl _)]; rfl
    obtain ⟨es, rfl, hsz, rfl⟩ : ∃ es : List Re, rs = es.map emb ∧ (∀ e ∈ es, e.size ≤ 100) ∧ R = loopM 0 .zero es := by
      rcases hR with ⟨_, h, _⟩ | ⟨_, _, h⟩
      · exact absurd h0 h
      · exact h
    have h20 : (List.map emb es).length ≤ 20 := by omega
    clear hR hlen i1 i2
    repeat (first
      | refine qv rfl (qp rfl) rfl rfl ?_ | refine TL_nil ?_ | refine T_seq ?_ | refine T_region ?_ | refine qcT rfl ?_ | refine qcF rfl ?_ | refine T_skip ?_
      | refine T_exit ?_ | refine T_ret ?_ | refine T_block ?_ | refine E_then ?_ | refine E_thenX ?_ | refine E_thenR ?_ | refine E_blockN ?_
      | refine E_blockR ?_ | refine E_blockX ?_ | refine E_blockO rfl ?_ | refine qs rfl rfl rfl rfl rfl rfl ?_
      | ((try refine qg rfl rfl rfl ?_); first | refine qv rfl (qp rfl) rfl rfl ?_ | refine qv rfl (rr_build rfl build_mkz) rfl rfl ?_ | refine qv rfl (qlen Und.eq rfl) rfl rfl ?_ | refine qv rfl (qfld FldC.fld rfl rfl) rfl rfl ?_ | refine qv rfl (rr_nilc rfl) rfl rfl ?_ | refine qv rfl (rr_lss rfl rfl (qT (by omega))) rfl rfl ?_ | refine qv rfl (rr_lss rfl rfl (qF (by omega))) rfl rfl ?_ | refine qv rfl (rr_gtr rfl rfl (qT (by omega))) rfl rfl ?_ | refine qv rfl (rr_gtr rfl rfl (qF (by omega))) rfl rfl ?_ | refine qv rfl (rr_eql rfl rfl (qT (by omega))) rfl rfl ?_ | refine qv rfl (rr_eql rfl rfl (qF (by omega))) rfl rfl ?_ | refine qv rfl (rr_neq rfl rfl (qT (by omega))) rfl rfl ?_ | refine qv rfl (rr_neq rfl rfl (qF (by omega))) rfl rfl ?_ | refine qv rfl (rr_add64 rfl rfl (by omega) (by omega) rfl) rfl rfl ?_))
    refine TL_box rfl rfl rfl fun g7 => ?_
    conv => arg 8; simp only [zA, zB, zC, zD, zE, zF, zG, zH, zI, rowS, ret, id_eq]
    repeat (first
      | refine qv rfl (qp rfl) rfl rfl ?_ | refine TL_nil ?_ | refine T_seq ?_ | refine T_region ?_ | refine qcT rfl ?_ | refine qcF rfl ?_ | refine T_skip ?_
      | refine T_exit ?_ | refine T_ret ?_ | refine T_block ?_ | refine E_then ?_ | refine E_thenX ?_ | refine E_thenR ?_ | refine E_blockN ?_
      | refine E_blockR ?_ | refine E_blockX ?_ | refine E_blockO rfl ?_ | refine qs rfl rfl rfl rfl rfl rfl ?_
      | ((try refine qg rfl rfl rfl ?_); first | refine qv rfl (qp rfl) rfl rfl ?_ | refine qv rfl (qlen Und.eq rfl) rfl rfl ?_ | refine qv rfl (qfld FldC.fld rfl rfl) rfl rfl ?_ | refine qv rfl (rr_nilc rfl) rfl rfl ?_ | refine qv rfl (rr_lss rfl rfl (qT (by omega))) rfl rfl ?_ | refine qv rfl (rr_lss rfl rfl (qF (by omega))) rfl rfl ?_ | refine qv rfl (rr_gtr rfl rfl (qT (by omega))) rfl rfl ?_ | refine qv rfl (rr_gtr rfl rfl (qF (by omega))) rfl rfl ?_ | refine qv rfl (rr_eql rfl rfl (qT (by omega))) rfl rfl ?_ | refine qv rfl (rr_eql rfl rfl (qF (by omega))) rfl rfl ?_ | refine qv rfl (rr_neq rfl rfl (qT (by omega))) rfl rfl ?_ | refine qv rfl (rr_neq rfl rfl (qF (by omega))) rfl rfl ?_ | refine qv rfl (rr_add64 rfl rfl (by omega) (by omega) rfl) rfl rfl ?_))
    refine T_nil 36 4 (T_nil 3 1 (T_nil 24 1 (T_extra (folE (fun _ => False) [] []) (fun k hk => hk.elim (fun h => by cases h) id) (fun w => els_nil) (T_nil 4 1 (T_nil 3 1 (T_nil 4 1 ?_))))))
    refine T_loop (ι := Nat × MS × MIx × Value × Value × Int) (fun (k, m, x, _, _, _) => k ≤ es.length ∧ loopM 0 .zero es = loopM k m (es.drop k) ∧ MSOk m ∧ m.ps.classes.length ≤ 200 ∧ x.vs.length = m.ps.follow.length ∧ m.empty.length = k) (fun (k, _, _, _, _, _) => [(2, .pointer (some ⟨g2, 0, none⟩)), (7, .pointer (some ⟨g7, 0, none⟩)), (37, .slice bk (es.map emb).length ck), (38, .int .i64 (es.map emb).length), (39, .int .i64 (k : Int))])
      (fun (_, m, x, vf, ve, rule) => [blkO g2 #[.slice none 0 0, .slice none 0 0, .slice none 0 0, .slice none 0 0, .slice none 0 0, .slice none 0 0] 28] ++ mkL g7 vf ve rule x m.ps ++ [intR vf m.first, rowO 4 1 ve m.empty.length (m.empty.map Value.bool)]) (fun (k, _, _, _, _, _) => es.length - k)
      (0, .zero, ⟨.slice none 0 0, .slice none 0 0, .slice none 0 0, .slice none 0 0, [], fun _ => False⟩, .slice none 0 0, .slice none 0 0, 0) ⟨Nat.zero_le _, rfl, zero_ok, Nat.zero_le _, rfl, rfl⟩ (by repeat' (first | exact True.intro | refine And.intro rfl ?_)) rfl ?_
    rintro ⟨k, m, ⟨vc, vr, vfol, vl, vs, F⟩, vf, ve, rule⟩ ⟨i1, i2, i3, i4, i5, i6⟩
    dsimp only at i1 i2 i3 i4 i5 i6 ⊢
    conv => arg 7; simp only [zA, zB, zC, zD, zE, zF, zG, zH, zI, rowS, ret, id_eq, mkL]
    have hml : (List.map emb es).length = es.length := List.length_map ..
    by_cases c6 : k < es.length
    · obtain ⟨b, off, rfl, hF, hrd⟩ := h3 (by omega)
      obtain ⟨kb, kc, hr, hkid⟩ := rkid_at (k := k) hrd (by omega)
      have hat := fun (L : List Own) (j : Nat) (v : Value) (hj : (rexC (es.map emb)[k].kind (es.map emb)[k].cls (.slice kb (es.map emb)[k].kids.length kc))[j]? = some v) => at_rd (L := L) hr hj
      have hke : (es.map emb)[k]'(by omega) = emb es[k] := List.getElem_map ..
      rw [hke] at hat hkid
      have hse := hsz es[k] (List.getElem_mem c6)
      rw [List.drop_eq_getElem_cons c6, loopM] at i2
      clear h3 hrd hr hke
      generalize es[k] = e at *
      have hst := step_ok k i3 e
      have hnd := node_ok k e m.ps i3.ps
      have hno := fun v w B hv hm => node_at 100 e hse g7 vf ve k m.ps ⟨vc, vr, vfol, vl, vs, F⟩ v w B i3.ps i5 (by omega) ⟨by omega, by omega⟩ hv hm
      repeat (first
        | refine qv rfl (qp rfl) rfl rfl ?_ | refine TL_nil ?_ | refine T_seq ?_ | refine T_region ?_ | refine qcT rfl ?_ | refine qcF rfl ?_ | refine T_skip ?_
        | refine T_exit ?_ | refine T_ret ?_ | refine T_block ?_ | refine E_then ?_ | refine E_thenX ?_ | refine E_thenR ?_ | refine E_blockN ?_
        | refine E_blockR ?_ | refine E_blockX ?_ | refine E_blockO rfl ?_ | refine qs rfl rfl rfl rfl rfl rfl ?_
        | ((try refine qg rfl rfl rfl ?_); first | refine qv rfl (qp rfl) rfl rfl ?_ | refine qv rfl (rr_idxc Und.eq TyC.ty rfl rfl (by omega)) rfl rfl ?_ | refine qv rfl (rr_loadN TyC.ty rfl rfl (hat _)) rfl rfl ?_ | refine qv rfl (qlen Und.eq rfl) rfl rfl ?_ | refine qv rfl (qfld FldC.fld rfl rfl) rfl rfl ?_ | refine qv rfl (rr_nilc rfl) rfl rfl ?_ | refine qv rfl (rr_lss rfl rfl (qT (by omega))) rfl rfl ?_ | refine qv rfl (rr_lss rfl rfl (qF (by omega))) rfl rfl ?_ | refine qv rfl (rr_gtr rfl rfl (qT (by omega))) rfl rfl ?_ | refine qv rfl (rr_gtr rfl rfl (qF (by omega))) rfl rfl ?_ | refine qv rfl (rr_eql rfl rfl (qT (by omega))) rfl rfl ?_ | refine qv rfl (rr_eql rfl rfl (qF (by omega))) rfl rfl ?_ | refine qv rfl (rr_neq rfl rfl (qT (by omega))) rfl rfl ?_ | refine qv rfl (rr_neq rfl rfl (qF (by omega))) rfl rfl ?_ | refine qv rfl (rr_add64 rfl rfl (by omega) (by omega) rfl) rfl rfl ?_))
      refine TL_new rfl fun g9 => ?_
      conv => arg 8; simp only [zA, zB, zC, zD, zE, zF, zG, zH, zI, rowS, ret, id_eq]
      repeat (first
        | refine qv rfl (qp rfl) rfl rfl ?_ | refine TL_nil ?_ | refine T_seq ?_ | refine T_region ?_ | refine qcT rfl ?_ | refine qcF rfl ?_ | refine T_skip ?_
        | refine T_exit ?_ | refine T_ret ?_ | refine T_block ?_ | refine E_then ?_ | refine E_thenX ?_ | refine E_thenR ?_ | refine E_blockN ?_
        | refine E_blockR ?_ | refine E_blockX ?_ | refine E_blockO rfl ?_ | refine qs rfl rfl rfl rfl rfl rfl ?_
        | ((try refine qg rfl rfl rfl ?_); first | refine qv rfl (qp rfl) rfl rfl ?_ | refine qv rfl (qlen Und.eq rfl) rfl rfl ?_ | refine qv rfl (qfld FldC.fld rfl rfl) rfl rfl ?_ | refine qv rfl (rr_nilc rfl) rfl rfl ?_ | refine qv rfl (rr_lss rfl rfl (qT (by omega))) rfl rfl ?_ | refine qv rfl (rr_lss rfl rfl (qF (by omega))) rfl rfl ?_ | refine qv rfl (rr_gtr rfl rfl (qT (by omega))) rfl rfl ?_ | refine qv rfl (rr_gtr rfl rfl (qF (by omega))) rfl rfl ?_ | refine qv rfl (rr_eql rfl rfl (qT (by omega))) rfl rfl ?_ | refine qv rfl (rr_eql rfl rfl (qF (by omega))) rfl rfl ?_ | refine qv rfl (rr_neq rfl rfl (qT (by omega))) rfl rfl ?_ | refine qv rfl (rr_neq rfl rfl (qF (by omega))) rfl rfl ?_ | refine qv rfl (rr_add64 rfl rfl (by omega) (by omega) rfl) rfl rfl ?_))
      refine TL_storeB (i := 9) (cs' := (rexC (emb e).kind (emb e).cls (.slice kb (emb e).kids.length kc)).toArray) rfl rfl rfl rfl rfl rfl ?_
      conv => arg 8; simp only [zA, zB, zC, zD, zE, zF, zG, zH, zI, rowS, ret, id_eq]
      repeat (first
        | refine qv rfl (qp rfl) rfl rfl ?_ | refine TL_nil ?_ | refine T_seq ?_ | refine T_region ?_ | refine qcT rfl ?_ | refine qcF rfl ?_ | refine T_skip ?_
        | refine T_exit ?_ | refine T_ret ?_ | refine T_block ?_ | refine E_then ?_ | refine E_thenX ?_ | refine E_thenR ?_ | refine E_blockN ?_
        | refine E_blockR ?_ | refine E_blockX ?_ | refine E_blockO rfl ?_ | refine qs rfl rfl rfl rfl rfl rfl ?_
        | ((try refine qg rfl rfl rfl ?_); first | refine qv rfl (qp rfl) rfl rfl ?_ | refine qv rfl (rr_nilc rfl) rfl rfl ?_ | refine qv rfl (qlen Und.eq rfl) rfl rfl ?_ | refine qv rfl (qfld FldC.fld rfl rfl) rfl rfl ?_ | refine qv rfl (rr_nilc rfl) rfl rfl ?_ | refine qv rfl (rr_lss rfl rfl (qT (by omega))) rfl rfl ?_ | refine qv rfl (rr_lss rfl rfl (qF (by omega))) rfl rfl ?_ | refine qv rfl (rr_gtr rfl rfl (qT (by omega))) rfl rfl ?_ | refine qv rfl (rr_gtr rfl rfl (qF (by omega))) rfl rfl ?_ | refine qv rfl (rr_eql rfl rfl (qT (by omega))) rfl rfl ?_ | refine qv rfl (rr_eql rfl rfl (qF (by omega))) rfl rfl ?_ | refine qv rfl (rr_neq rfl rfl (qT (by omega))) rfl rfl ?_ | refine qv rfl (rr_neq rfl rfl (qF (by omega))) rfl rfl ?_ | refine qv rfl (rr_add64 rfl rfl (by omega) (by omega) rfl) rfl rfl ?_))
      refine TL_store1 (i := 1) rfl rfl rfl rfl rfl rfl ?_
      conv => arg 8; simp only [zA, zB, zC, zD, zE, zF, zG, zH, zI, rowS, ret, id_eq]
      repeat (first
        | refine qv rfl (qp rfl) rfl rfl ?_ | refine TL_nil ?_ | refine T_seq ?_ | refine T_region ?_ | refine qcT rfl ?_ | refine qcF rfl ?_ | refine T_skip ?_
        | refine T_exit ?_ | refine T_ret ?_ | refine T_block ?_ | refine E_then ?_ | refine E_thenX ?_ | refine E_thenR ?_ | refine E_blockN ?_
        | refine E_blockR ?_ | refine E_blockX ?_ | refine E_blockO rfl ?_ | refine qs rfl rfl rfl rfl rfl rfl ?_
        | ((try refine qg rfl rfl rfl ?_); first | refine qv rfl (qp rfl) rfl rfl ?_ | refine qv rfl (rr_loadB (i := 9) TyC.ty rfl rfl rfl) rfl rfl ?_ | refine qv rfl (qlen Und.eq rfl) rfl rfl ?_ | refine qv rfl (qfld FldC.fld rfl rfl) rfl rfl ?_ | refine qv rfl (rr_nilc rfl) rfl rfl ?_ | refine qv rfl (rr_lss rfl rfl (qT (by omega))) rfl rfl ?_ | refine qv rfl (rr_lss rfl rfl (qF (by omega))) rfl rfl ?_ | refine qv rfl (rr_gtr rfl rfl (qT (by omega))) rfl rfl ?_ | refine qv rfl (rr_gtr rfl rfl (qF (by omega))) rfl rfl ?_ | refine qv rfl (rr_eql rfl rfl (qT (by omega))) rfl rfl ?_ | refine qv rfl (rr_eql rfl rfl (qF (by omega))) rfl rfl ?_ | refine qv rfl (rr_neq rfl rfl (qT (by omega))) rfl rfl ?_ | refine qv rfl (rr_neq rfl rfl (qF (by omega))) rfl rfl ?_ | refine qv rfl (rr_add64 rfl rfl (by omega) (by omega) rfl) rfl rfl ?_))
      refine TL_callB [1, 2, 3, 4, 5, 6] [0, 7, 8, 9] (by decide) rfl rfl (he2 EntersC.en rfl rfl rfl) (fun w hm hb => hno _ w _ (rex_on (hm.pick [1, 2, 3, 4, 5, 6] (by decide) rfl) (hkid.mono fun k hk => ⟨hk, id⟩)) hb) rfl rfl rfl ?_
      rintro ⟨⟨vc', vr', vfol', vl', vs', F'⟩, va, vb⟩ hx'
      conv => arg 8; simp only [zA, zB, zC, zD, zE, zF, zG, zH, zI, rowS, ret, id_eq, nodeSp, mkL]
      conv => arg 7; simp only [nodeSp]
      have hx' : vs'.length = (nodeF k e m.ps).2.follow.length := hx'
      unfold stepM at i2 hst
      generalize nodeF k e m.ps = R at *
      obtain ⟨⟨em, first, last⟩, p'⟩ := R
      dsimp only at i2 hst hnd hx' ⊢
      obtain ⟨n1, n2, n3, n4, n5⟩ := hnd
      have hl1 := ris_len i3.first
      have hl2 := ris_len n4
      have hl3 := ris_len n5
      refine TL_slv (i := 10) rfl fun _ qa => TL_slv (i := 11) rfl fun _ qb => TL_new rfl fun g10 => ?_
      conv => arg 8; simp only [zA, zB, zC, zD, zE, zF, zG, zH, zI, rowS, ret, id_eq]
      refine TL_storeB (i := 12) (cs' := #[.bool em, va, vb]) rfl rfl rfl rfl (by simp only [List.all_cons, List.all_nil, qa, qb]; rfl) rfl ?_
      conv => arg 8; simp only [zA, zB, zC, zD, zE, zF, zG, zH, zI, rowS, ret, id_eq]
      repeat (first
        | refine qv rfl (qp rfl) rfl rfl ?_ | refine TL_nil ?_ | refine T_seq ?_ | refine T_region ?_ | refine qcT rfl ?_ | refine qcF rfl ?_ | refine T_skip ?_
        | refine T_exit ?_ | refine T_ret ?_ | refine T_block ?_ | refine E_then ?_ | refine E_thenX ?_ | refine E_thenR ?_ | refine E_blockN ?_
        | refine E_blockR ?_ | refine E_blockX ?_ | refine E_blockO rfl ?_ | refine qs rfl rfl rfl rfl rfl rfl ?_
        | ((try refine qg rfl rfl rfl ?_); first | refine qv rfl (qp rfl) rfl rfl ?_ | refine qv rfl (qlen Und.eq rfl) rfl rfl ?_ | refine qv rfl (qfld FldC.fld rfl rfl) rfl rfl ?_ | refine qv rfl (rr_nilc rfl) rfl rfl ?_ | refine qv rfl (rr_lss rfl rfl (qT (by omega))) rfl rfl ?_ | refine qv rfl (rr_lss rfl rfl (qF (by omega))) rfl rfl ?_ | refine qv rfl (rr_gtr rfl rfl (qT (by omega))) rfl rfl ?_ | refine qv rfl (rr_gtr rfl rfl (qF (by omega))) rfl rfl ?_ | refine qv rfl (rr_eql rfl rfl (qT (by omega))) rfl rfl ?_ | refine qv rfl (rr_eql rfl rfl (qF (by omega))) rfl rfl ?_ | refine qv rfl (rr_neq rfl rfl (qT (by omega))) rfl rfl ?_ | refine qv rfl (rr_neq rfl rfl (qF (by omega))) rfl rfl ?_ | refine qv rfl (rr_add64 rfl rfl (by omega) (by omega) rfl) rfl rfl ?_))
      (repeat refine T_seq ?_)
      refine T_midq (ι := Value) (fun vf' => vf'.oneCell' = true) (fun _ => [(2, .pointer (some ⟨g2, 0, none⟩)), (7, .pointer (some ⟨g7, 0, none⟩)), (10, .pointer (some ⟨g10, 0, none⟩)), (37, .slice (some ⟨b, off, none⟩) (es.map emb).length ck), (38, .int .i64 (es.map emb).length), (39, .int .i64 (k : Int))])
        (fun vf' => [blkO g2 #[.slice none 0 0, .slice none 0 0, .slice none 0 0, .slice none 0 0, .slice none 0 0, .slice none 0 0] 28, blkO g7 (mkC vc' vr' vf' vfol' vl' ve (k : Int)) 54, rowO 36 4 vc' p'.classes.length (p'.classes.flatMap clsL), intR vr' p'.rules, folR vfol' vs', folE F' vs' p'.follow, rowO 4 1 vl' p'.last.length (p'.last.map Value.bool), intR vf' (uni m.first first), rowO 4 1 ve m.empty.length (m.empty.map Value.bool), blkO g10 #[.bool em, va, vb] 56, intR vb last]) ?_ ?_
      · refine T_ord ([blkO g10 #[.bool em, va, vb] 56]) (.calm 0 (.calm 1 (.calm 2 (.calm 3 (.calm 4 (.calm 6 (.calm 7 (.one 5 (.one 8 (.calm 9 (.calm 10 (.calm 11 (.one 12 (.done)))))))))))))) (sub_pick [12] (by decide) rfl) (by kernel_rfl) (by kernel_rfl) (by intro c a d v w h; cases d <;> exact h) ?_
        repeat (first
          | ((first | refine TW_plain rfl rfl ?_ | refine TW_gmet rfl rfl rfl rfl ?_); first | refine TN_val (qp rfl) rfl rfl ?_ | refine TN_val (rr_nilc rfl) rfl rfl ?_ | refine TN_val (rr_load1 TyC.ty rfl (at_blk (i := 0) rfl rfl)) rfl rfl ?_ | refine TN_val (qlen Und.eq rfl) rfl rfl ?_ | refine TN_val (qfld FldC.fld rfl rfl) rfl rfl ?_ | refine TN_val (rr_nilc rfl) rfl rfl ?_ | refine TN_val (rr_lss rfl rfl (qT (by omega))) rfl rfl ?_ | refine TN_val (rr_lss rfl rfl (qF (by omega))) rfl rfl ?_ | refine TN_val (rr_gtr rfl rfl (qT (by omega))) rfl rfl ?_ | refine TN_val (rr_gtr rfl rfl (qF (by omega))) rfl rfl ?_ | refine TN_val (rr_eql rfl rfl (qT (by omega))) rfl rfl ?_ | refine TN_val (rr_eql rfl rfl (qF (by omega))) rfl rfl ?_ | refine TN_val (rr_neq rfl rfl (qT (by omega))) rfl rfl ?_ | refine TN_val (rr_neq rfl rfl (qF (by omega))) rfl rfl ?_ | refine TN_val (rr_add64 rfl rfl (by omega) (by omega) rfl) rfl rfl ?_)
          | refine TW_skip rfl rfl rfl rfl rfl rfl rfl ?_ | refine TW_done ?_)
        refine TW_one rfl (TL_val (rr_load1 (v := vf) TyC.ty rfl (at_blk (i := 4) rfl rfl)) rfl rfl rfl (TW_on (sub_pick [12] (by decide) rfl) ?_))
        refine TW_one rfl (TL_call (he2 EntersC.en rfl rfl rfl) (fun w' hm => union_calls vf va m.first first w' (Sl.of_own (hm.get (i := 1) rfl)) (Sl.of_own (hm.get (i := 10) rfl)) (by omega) (by omega)) rfl rfl rfl ?_)
        intro vf' _
        conv => arg 8; simp only [zA, zB, zC, zD, zE, zF, zG, zH, zI, rowS, ret, id_eq, intRS]
        refine TW_on (sub_pick [12] (by decide) rfl) ?_
        repeat (first
          | ((first | refine TW_plain rfl rfl ?_ | refine TW_gmet rfl rfl rfl rfl ?_); first | refine TN_val (qp rfl) rfl rfl ?_ | refine TN_val (rr_nilc rfl) rfl rfl ?_ | refine TN_val (qlen Und.eq rfl) rfl rfl ?_ | refine TN_val (qfld FldC.fld rfl rfl) rfl rfl ?_ | refine TN_val (rr_nilc rfl) rfl rfl ?_ | refine TN_val (rr_lss rfl rfl (qT (by omega))) rfl rfl ?_ | refine TN_val (rr_lss rfl rfl (qF (by omega))) rfl rfl ?_ | refine TN_val (rr_gtr rfl rfl (qT (by omega))) rfl rfl ?_ | refine TN_val (rr_gtr rfl rfl (qF (by omega))) rfl rfl ?_ | refine TN_val (rr_eql rfl rfl (qT (by omega))) rfl rfl ?_ | refine TN_val (rr_eql rfl rfl (qF (by omega))) rfl rfl ?_ | refine TN_val (rr_neq rfl rfl (qT (by omega))) rfl rfl ?_ | refine TN_val (rr_neq rfl rfl (qF (by omega))) rfl rfl ?_ | refine TN_val (rr_add64 rfl rfl (by omega) (by omega) rfl) rfl rfl ?_)
          | refine TW_skip rfl rfl rfl rfl rfl rfl rfl ?_ | refine TW_done ?_)
        refine TW_one rfl (TL_slv (i := 13) rfl fun qf1 qf2 => TL_store1 (i := 4) rfl rfl rfl qf1 qf2 rfl (TW_on (sub_pick [12] (by decide) rfl) ?_))
        repeat (first
          | ((first | refine TW_plain rfl rfl ?_ | refine TW_gmet rfl rfl rfl rfl ?_); first | refine TN_val (qp rfl) rfl rfl ?_ | refine TN_val (qlen Und.eq rfl) rfl rfl ?_ | refine TN_val (qfld FldC.fld rfl rfl) rfl rfl ?_ | refine TN_val (rr_nilc rfl) rfl rfl ?_ | refine TN_val (rr_lss rfl rfl (qT (by omega))) rfl rfl ?_ | refine TN_val (rr_lss rfl rfl (qF (by omega))) rfl rfl ?_ | refine TN_val (rr_gtr rfl rfl (qT (by omega))) rfl rfl ?_ | refine TN_val (rr_gtr rfl rfl (qF (by omega))) rfl rfl ?_ | refine TN_val (rr_eql rfl rfl (qT (by omega))) rfl rfl ?_ | refine TN_val (rr_eql rfl rfl (qF (by omega))) rfl rfl ?_ | refine TN_val (rr_neq rfl rfl (qT (by omega))) rfl rfl ?_ | refine TN_val (rr_neq rfl rfl (qF (by omega))) rfl rfl ?_ | refine TN_val (rr_add64 rfl rfl (by omega) (by omega) rfl) rfl rfl ?_)
          | refine TW_skip rfl rfl rfl rfl rfl rfl rfl ?_ | refine TW_done ?_)
        refine E_pick [0, 4, 5, 6, 7, 8, 9, 13, 2, 12, 11] (by decide) rfl ?_
        exact E_mid vf' qf2 (by repeat' (first | exact True.intro | refine And.intro rfl ?_)) rfl
      intro vf' hf'
      (repeat refine T_seq ?_)
      refine T_midq (ι := Value) (fun ve' => ve'.oneCell' = true) (fun _ => [(2, .pointer (some ⟨g2, 0, none⟩)), (7, .pointer (some ⟨g7, 0, none⟩)), (10, .pointer (some ⟨g10, 0, none⟩)), (37, .slice (some ⟨b, off, none⟩) (es.map emb).length ck), (38, .int .i64 (es.map emb).length), (39, .int .i64 (k : Int))])
        (fun ve' => [blkO g2 #[.slice none 0 0, .slice none 0 0, .slice none 0 0, .slice none 0 0, .slice none 0 0, .slice none 0 0] 28, blkO g7 (mkC vc' vr' vf' vfol' vl' ve' (k : Int)) 54, rowO 36 4 vc' p'.classes.length (p'.classes.flatMap clsL), intR vr' p'.rules, folR vfol' vs', folE F' vs' p'.follow, rowO 4 1 vl' p'.last.length (p'.last.map Value.bool), intR vf' (uni m.first first), rowO 4 1 ve' (m.empty ++ [em]).length ((m.empty ++ [em]).map Value.bool), blkO g10 #[.bool em, va, vb] 56, intR vb last]) ?_ ?_
      · refine T_ord ([blkO g10 #[.bool em, va, vb] 56]) (.calm 0 (.calm 1 (.calm 2 (.calm 3 (.calm 4 (.calm 6 (.calm 7 (.two 5 (.one 8 (.one 9 (.calm 10 (.calm 11 (.calm 12 (.one 13 (.done))))))) 8 (.one 5 (.one 9 (.calm 10 (.calm 11 (.calm 12 (.one 13 (.done))))))))))))))) (sub_pick [9] (by decide) rfl) (by kernel_rfl) (by kernel_rfl) (by intro c a d v w h; cases d <;> exact h) ?_
        repeat (first
          | ((first | refine TW_plain rfl rfl ?_ | refine TW_gmet rfl rfl rfl rfl ?_); first | refine TN_val (qp rfl) rfl rfl ?_ | refine TN_val (rr_nilc rfl) rfl rfl ?_ | refine TN_val (rr_load1 TyC.ty rfl (at_blk (i := 0) rfl rfl)) rfl rfl ?_ | refine TN_val (qlen Und.eq rfl) rfl rfl ?_ | refine TN_val (qfld FldC.fld rfl rfl) rfl rfl ?_ | refine TN_val (rr_nilc rfl) rfl rfl ?_ | refine TN_val (rr_lss rfl rfl (qT (by omega))) rfl rfl ?_ | refine TN_val (rr_lss rfl rfl (qF (by omega))) rfl rfl ?_ | refine TN_val (rr_gtr rfl rfl (qT (by omega))) rfl rfl ?_ | refine TN_val (rr_gtr rfl rfl (qF (by omega))) rfl rfl ?_ | refine TN_val (rr_eql rfl rfl (qT (by omega))) rfl rfl ?_ | refine TN_val (rr_eql rfl rfl (qF (by omega))) rfl rfl ?_ | refine TN_val (rr_neq rfl rfl (qT (by omega))) rfl rfl ?_ | refine TN_val (rr_neq rfl rfl (qF (by omega))) rfl rfl ?_ | refine TN_val (rr_add64 rfl rfl (by omega) (by omega) rfl) rfl rfl ?_)
          | refine TW_skip rfl rfl rfl rfl rfl rfl rfl ?_ | refine TW_done ?_)
        refine TW_two rfl rfl ?_ ?_
        · refine TL_val (rr_load1 (v := ve) TyC.ty rfl (at_blk (i := 1) rfl rfl)) rfl rfl rfl (TW_on (sub_pick [9] (by decide) rfl) ?_)
          refine TW_one rfl (TL_litN (cs := #[.bool em]) [.bool em] rfl rfl rfl (by intro v hv; simp at hv; subst hv; rfl) rfl rfl rfl fun g71 => (TW_on (sub_pick [9] (by decide) rfl) ?_))
          refine TW_one rfl (TL_appSl (i := 8) (e := 4) (size := 1) (bytes := 1) (m := m.empty.length) (xs := m.empty.map Value.bool) (k := 1) (ys := [.bool em]) rfl (sl_blk (i := 11) rfl (fun j u h => by simpa using h) (Nat.le_refl 1) (by decide)) rfl rfl rfl (fun u hu => by rw [List.mem_singleton.1 hu]; rfl) (by omega) (by omega) rfl fun ve' => (TW_on (sub_pick [9] (by decide) rfl) ?_))
          repeat (first
            | ((first | refine TW_plain rfl rfl ?_ | refine TW_gmet rfl rfl rfl rfl ?_); first | refine TN_val (qp rfl) rfl rfl ?_ | refine TN_val (rr_nilc rfl) rfl rfl ?_ | refine TN_val (qlen Und.eq rfl) rfl rfl ?_ | refine TN_val (qfld FldC.fld rfl rfl) rfl rfl ?_ | refine TN_val (rr_nilc rfl) rfl rfl ?_ | refine TN_val (rr_lss rfl rfl (qT (by omega))) rfl rfl ?_ | refine TN_val (rr_lss rfl rfl (qF (by omega))) rfl rfl ?_ | refine TN_val (rr_gtr rfl rfl (qT (by omega))) rfl rfl ?_ | refine TN_val (rr_gtr rfl rfl (qF (by omega))) rfl rfl ?_ | refine TN_val (rr_eql rfl rfl (qT (by omega))) rfl rfl ?_ | refine TN_val (rr_eql rfl rfl (qF (by omega))) rfl rfl ?_ | refine TN_val (rr_neq rfl rfl (qT (by omega))) rfl rfl ?_ | refine TN_val (rr_neq rfl rfl (qF (by omega))) rfl rfl ?_ | refine TN_val (rr_add64 rfl rfl (by omega) (by omega) rfl) rfl rfl ?_)
            | refine TW_skip rfl rfl rfl rfl rfl rfl rfl ?_ | refine TW_done ?_)
          refine TW_one rfl (TL_slv (i := 8) rfl fun qe1 qe2 => TL_store1 (i := 1) rfl rfl rfl qe1 qe2 rfl (TW_on (sub_pick [9] (by decide) rfl) ?_))
          repeat (first
            | ((first | refine TW_plain rfl rfl ?_ | refine TW_gmet rfl rfl rfl rfl ?_); first | refine TN_val (qp rfl) rfl rfl ?_ | refine TN_val (qlen Und.eq rfl) rfl rfl ?_ | refine TN_val (qfld FldC.fld rfl rfl) rfl rfl ?_ | refine TN_val (rr_nilc rfl) rfl rfl ?_ | refine TN_val (rr_lss rfl rfl (qT (by omega))) rfl rfl ?_ | refine TN_val (rr_lss rfl rfl (qF (by omega))) rfl rfl ?_ | refine TN_val (rr_gtr rfl rfl (qT (by omega))) rfl rfl ?_ | refine TN_val (rr_gtr rfl rfl (qF (by omega))) rfl rfl ?_ | refine TN_val (rr_eql rfl rfl (qT (by omega))) rfl rfl ?_ | refine TN_val (rr_eql rfl rfl (qF (by omega))) rfl rfl ?_ | refine TN_val (rr_neq rfl rfl (qT (by omega))) rfl rfl ?_ | refine TN_val (rr_neq rfl rfl (qF (by omega))) rfl rfl ?_ | refine TN_val (rr_add64 rfl rfl (by omega) (by omega) rfl) rfl rfl ?_)
            | refine TW_skip rfl rfl rfl rfl rfl rfl rfl ?_ | refine TW_done ?_)
          refine E_pick [0, 1, 2, 3, 4, 5, 6, 7, 8, 9, 10] (by decide) rfl ?_
          exact E_mid ve' qe2 (by repeat' (first | exact True.intro | refine And.intro rfl ?_)) (by rw [← bool_snoc ve' m.empty em]; rfl)
        · refine TL_litN (cs := #[.bool em]) [.bool em] rfl rfl rfl (by intro v hv; simp at hv; subst hv; rfl) rfl rfl rfl fun g71 => (TW_on (sub_pick [9] (by decide) rfl) ?_)
          refine TW_one rfl (TL_val (rr_load1 (v := ve) TyC.ty rfl (at_blk (i := 1) rfl rfl)) rfl rfl rfl (TW_on (sub_pick [9] (by decide) rfl) ?_))
          refine TW_one rfl (TL_appSl (i := 8) (e := 4) (size := 1) (bytes := 1) (m := m.empty.length) (xs := m.empty.map Value.bool) (k := 1) (ys := [.bool em]) rfl (sl_blk (i := 11) rfl (fun j u h => by simpa using h) (Nat.le_refl 1) (by decide)) rfl rfl rfl (fun u hu => by rw [List.mem_singleton.1 hu]; rfl) (by omega) (by omega) rfl fun ve' => (TW_on (sub_pick [9] (by decide) rfl) ?_))
          repeat (first
            | ((first | refine TW_plain rfl rfl ?_ | refine TW_gmet rfl rfl rfl rfl ?_); first | refine TN_val (qp rfl) rfl rfl ?_ | refine TN_val (rr_nilc rfl) rfl rfl ?_ | refine TN_val (qlen Und.eq rfl) rfl rfl ?_ | refine TN_val (qfld FldC.fld rfl rfl) rfl rfl ?_ | refine TN_val (rr_nilc rfl) rfl rfl ?_ | refine TN_val (rr_lss rfl rfl (qT (by omega))) rfl rfl ?_ | refine TN_val (rr_lss rfl rfl (qF (by omega))) rfl rfl ?_ | refine TN_val (rr_gtr rfl rfl (qT (by omega))) rfl rfl ?_ | refine TN_val (rr_gtr rfl rfl (qF (by omega))) rfl rfl ?_ | refine TN_val (rr_eql rfl rfl (qT (by omega))) rfl rfl ?_ | refine TN_val (rr_eql rfl rfl (qF (by omega))) rfl rfl ?_ | refine TN_val (rr_neq rfl rfl (qT (by omega))) rfl rfl ?_ | refine TN_val (rr_neq rfl rfl (qF (by omega))) rfl rfl ?_ | refine TN_val (rr_add64 rfl rfl (by omega) (by omega) rfl) rfl rfl ?_)
            | refine TW_skip rfl rfl rfl rfl rfl rfl rfl ?_ | refine TW_done ?_)
          refine TW_one rfl (TL_slv (i := 8) rfl fun qe1 qe2 => TL_store1 (i := 1) rfl rfl rfl qe1 qe2 rfl (TW_on (sub_pick [9] (by decide) rfl) ?_))
          repeat (first
            | ((first | refine TW_plain rfl rfl ?_ | refine TW_gmet rfl rfl rfl rfl ?_); first | refine TN_val (qp rfl) rfl rfl ?_ | refine TN_val (qlen Und.eq rfl) rfl rfl ?_ | refine TN_val (qfld FldC.fld rfl rfl) rfl rfl ?_ | refine TN_val (rr_nilc rfl) rfl rfl ?_ | refine TN_val (rr_lss rfl rfl (qT (by omega))) rfl rfl ?_ | refine TN_val (rr_lss rfl rfl (qF (by omega))) rfl rfl ?_ | refine TN_val (rr_gtr rfl rfl (qT (by omega))) rfl rfl ?_ | refine TN_val (rr_gtr rfl rfl (qF (by omega))) rfl rfl ?_ | refine TN_val (rr_eql rfl rfl (qT (by omega))) rfl rfl ?_ | refine TN_val (rr_eql rfl rfl (qF (by omega))) rfl rfl ?_ | refine TN_val (rr_neq rfl rfl (qT (by omega))) rfl rfl ?_ | refine TN_val (rr_neq rfl rfl (qF (by omega))) rfl rfl ?_ | refine TN_val (rr_add64 rfl rfl (by omega) (by omega) rfl) rfl rfl ?_)
            | refine TW_skip rfl rfl rfl rfl rfl rfl rfl ?_ | refine TW_done ?_)
          refine E_pick [0, 1, 2, 3, 4, 5, 6, 7, 8, 9, 10] (by decide) rfl ?_
          exact E_mid ve' qe2 (by repeat' (first | exact True.intro | refine And.intro rfl ?_)) (by rw [← bool_snoc ve' m.empty em]; rfl)
      intro ve' he'
      rw [show p'.last.map Value.bool = p'.last.flatMap boolC from (bool_flat _).symm]
      refine T_know (i := 10) (φ := ∃ a c, vb = .slice a last.length c ∧ (0 < last.length → ∃ gl, a = some ⟨gl, 0, none⟩)) rfl (fun w h => by
        obtain ⟨y1, y2⟩ := (show w.ownsRow 0 3 1 vb last.length (last.map (Value.int .i64)) from h)
        rcases y2 with ⟨y3, y4⟩ | ⟨gl, cap, cur, hv, _⟩
        · exact ⟨none, 0, by rw [y3, y4], fun h => by omega⟩
        · exact ⟨_, _, hv, fun _ => ⟨gl, rfl⟩⟩) fun hvb => ?_
      obtain ⟨al, cl, rfl, hal⟩ := hvb
      refine T_know (i := 6) (φ := 0 < p'.last.length → ∃ gb cb, vl' = .slice (some ⟨gb, 0, none⟩) p'.last.length cb) rfl (fun w h => by
        obtain ⟨y1, y2⟩ := (show w.ownsRow 0 4 1 vl' p'.last.length (p'.last.flatMap boolC) from h)
        rcases y2 with ⟨y3, y4⟩ | ⟨gl, cap, cur, hv, _⟩
        · intro h; omega
        · exact fun _ => ⟨gl, cap, hv⟩) fun hvl => ?_
      repeat (first
        | refine qv rfl (qp rfl) rfl rfl ?_ | refine TL_nil ?_ | refine T_seq ?_ | refine T_region ?_ | refine qcT rfl ?_ | refine qcF rfl ?_ | refine T_skip ?_
        | refine T_exit ?_ | refine T_ret ?_ | refine T_block ?_ | refine E_then ?_ | refine E_thenX ?_ | refine E_thenR ?_ | refine E_blockN ?_
        | refine E_blockR ?_ | refine E_blockX ?_ | refine E_blockO rfl ?_ | refine qs rfl rfl rfl rfl rfl rfl ?_
        | ((try refine qg rfl rfl rfl ?_); first | refine qv rfl (qp rfl) rfl rfl ?_ | refine qv rfl (rr_load1 (v := .slice al last.length cl) TyC.ty rfl (at_blk (i := 9) rfl rfl)) rfl rfl ?_ | refine qv rfl (qlen Und.eq rfl) rfl rfl ?_ | refine qv rfl (qfld FldC.fld rfl rfl) rfl rfl ?_ | refine qv rfl (rr_nilc rfl) rfl rfl ?_ | refine qv rfl (rr_lss rfl rfl (qT (by omega))) rfl rfl ?_ | refine qv rfl (rr_lss rfl rfl (qF (by omega))) rfl rfl ?_ | refine qv rfl (rr_gtr rfl rfl (qT (by omega))) rfl rfl ?_ | refine qv rfl (rr_gtr rfl rfl (qF (by omega))) rfl rfl ?_ | refine qv rfl (rr_eql rfl rfl (qT (by omega))) rfl rfl ?_ | refine qv rfl (rr_eql rfl rfl (qF (by omega))) rfl rfl ?_ | refine qv rfl (rr_neq rfl rfl (qT (by omega))) rfl rfl ?_ | refine qv rfl (rr_neq rfl rfl (qF (by omega))) rfl rfl ?_ | refine qv rfl (rr_add64 rfl rfl (by omega) (by omega) rfl) rfl rfl ?_))
      refine T_pick [0, 1, 2, 3, 4, 5, 6, 7, 8, 10] (by decide) rfl ?_
      refine T_loop (ι := Nat) (fun j => j ≤ last.length) (fun j => [(2, .pointer (some ⟨g2, 0, none⟩)), (7, .pointer (some ⟨g7, 0, none⟩)), (37, .slice (some ⟨b, off, none⟩) (es.map emb).length ck), (38, .int .i64 (es.map emb).length), (39, .int .i64 (k : Int)), (77, .slice al last.length cl), (78, .int .i64 last.length), (79, .int .i64 (j : Int))])
        (fun j => [blkO g2 #[.slice none 0 0, .slice none 0 0, .slice none 0 0, .slice none 0 0, .slice none 0 0, .slice none 0 0] 28, blkO g7 (mkC vc' vr' vf' vfol' vl' ve' (k : Int)) 54, rowO 36 4 vc' p'.classes.length (p'.classes.flatMap clsL), intR vr' p'.rules, folR vfol' vs', folE F' vs' p'.follow, rowO 4 1 vl' p'.last.length ((markF p'.last (last.take j)).flatMap boolC), intR vf' (uni m.first first), rowO 4 1 ve' (m.empty ++ [em]).length ((m.empty ++ [em]).map Value.bool), intR (.slice al last.length cl) last]) (fun j => last.length - j) 0 (Nat.zero_le _) (by repeat' (first | exact True.intro | refine And.intro rfl ?_)) rfl ?_
      intro j j1
      by_cases c7 : j < last.length
      · obtain ⟨gl, rfl⟩ := hal (by omega)
        have hx := n5.2 last[j] (List.getElem_mem c7)
        have hgx : last[j]? = some last[j] := List.getElem?_eq_getElem c7
        have hms := mark_step p'.last last c7
        have hml2 := mark_len p'.last (last.take j)
        generalize last[j] = xx at *
        obtain ⟨xn, rfl⟩ := Int.eq_ofNat_of_zero_le hx.1
        rw [Int.toNat_natCast] at hms
        have hxn : xn < p'.last.length := by rw [n1.last]; omega
        obtain ⟨gb, cb, rfl⟩ := hvl (by omega)
        have hat3 : ∀ (L : List Own) (hi : L[9]? = some (intR (.slice (some ⟨gl, 0, none⟩) last.length cl) last)), At (w : Base) L ⟨gl, 0 + j * 1, none⟩ (.int .i64 (xn : Int)) := fun L hi => at_row hi (by rw [List.getElem?_map, Nat.zero_add, Nat.mul_one, hgx]; rfl)
        repeat (first
          | refine qv rfl (qp rfl) rfl rfl ?_ | refine TL_nil ?_ | refine T_seq ?_ | refine T_region ?_ | refine qcT rfl ?_ | refine qcF rfl ?_ | refine T_skip ?_
          | refine T_exit ?_ | refine T_ret ?_ | refine T_block ?_ | refine E_then ?_ | refine E_thenX ?_ | refine E_thenR ?_ | refine E_blockN ?_
          | refine E_blockR ?_ | refine E_blockX ?_ | refine E_blockO rfl ?_ | refine qs rfl rfl rfl rfl rfl rfl ?_
          | ((try refine qg rfl rfl rfl ?_); first | refine qv rfl (qp rfl) rfl rfl ?_ | refine qv rfl (rr_idxc Und.eq TyC.ty rfl rfl c7) rfl rfl ?_ | refine qv rfl (rr_load1 (v := .int .i64 (xn : Int)) TyC.ty rfl (hat3 _ rfl)) rfl rfl ?_ | refine qv rfl (rr_nilc rfl) rfl rfl ?_ | refine qv rfl (rr_load1 (v := .slice (some ⟨gb, 0, none⟩) p'.last.length cb) TyC.ty rfl (at_blk (i := 1) rfl rfl)) rfl rfl ?_ | refine qv rfl (rr_idxc Und.eq TyC.ty rfl rfl hxn) rfl rfl ?_ | refine qv rfl (qlen Und.eq rfl) rfl rfl ?_ | refine qv rfl (qfld FldC.fld rfl rfl) rfl rfl ?_ | refine qv rfl (rr_nilc rfl) rfl rfl ?_ | refine qv rfl (rr_lss rfl rfl (qT (by omega))) rfl rfl ?_ | refine qv rfl (rr_lss rfl rfl (qF (by omega))) rfl rfl ?_ | refine qv rfl (rr_gtr rfl rfl (qT (by omega))) rfl rfl ?_ | refine qv rfl (rr_gtr rfl rfl (qF (by omega))) rfl rfl ?_ | refine qv rfl (rr_eql rfl rfl (qT (by omega))) rfl rfl ?_ | refine qv rfl (rr_eql rfl rfl (qF (by omega))) rfl rfl ?_ | refine qv rfl (rr_neq rfl rfl (qT (by omega))) rfl rfl ?_ | refine qv rfl (rr_neq rfl rfl (qF (by omega))) rfl rfl ?_ | refine qv rfl (rr_add64 rfl rfl (by omega) (by omega) rfl) rfl rfl ?_))
        refine TL_setRow boolC_len (i := 6) (k := xn) (l := markF p'.last (last.take j)) (a := true) TyC.ty rfl rfl (by omega) (by omega) (by omega) rfl rfl rfl ?_
        rw [← hms]
        conv => arg 8; simp only [zA, zB, zC, zD, zE, zF, zG, zH, zI, rowS, ret, id_eq]
        repeat (first
          | refine qv rfl (qp rfl) rfl rfl ?_ | refine TL_nil ?_ | refine T_seq ?_ | refine T_region ?_ | refine qcT rfl ?_ | refine qcF rfl ?_ | refine T_skip ?_
          | refine T_exit ?_ | refine T_ret ?_ | refine T_block ?_ | refine E_then ?_ | refine E_thenX ?_ | refine E_thenR ?_ | refine E_blockN ?_
          | refine E_blockR ?_ | refine E_blockX ?_ | refine E_blockO rfl ?_ | refine qs rfl rfl rfl rfl rfl rfl ?_
          | ((try refine qg rfl rfl rfl ?_); first | refine qv rfl (qp rfl) rfl rfl ?_ | refine qv rfl (qlen Und.eq rfl) rfl rfl ?_ | refine qv rfl (qfld FldC.fld rfl rfl) rfl rfl ?_ | refine qv rfl (rr_nilc rfl) rfl rfl ?_ | refine qv rfl (rr_lss rfl rfl (qT (by omega))) rfl rfl ?_ | refine qv rfl (rr_lss rfl rfl (qF (by omega))) rfl rfl ?_ | refine qv rfl (rr_gtr rfl rfl (qT (by omega))) rfl rfl ?_ | refine qv rfl (rr_gtr rfl rfl (qF (by omega))) rfl rfl ?_ | refine qv rfl (rr_eql rfl rfl (qT (by omega))) rfl rfl ?_ | refine qv rfl (rr_eql rfl rfl (qF (by omega))) rfl rfl ?_ | refine qv rfl (rr_neq rfl rfl (qT (by omega))) rfl rfl ?_ | refine qv rfl (rr_neq rfl rfl (qF (by omega))) rfl rfl ?_ | refine qv rfl (rr_add64 rfl rfl (by omega) (by omega) rfl) rfl rfl ?_))
        exact E_round (j + 1) (by omega) (by show last.length - (j + 1) < last.length - j; omega) (by repeat' (first | exact True.intro | refine And.intro rfl ?_)) rfl
      · obtain rfl : j = last.length := by omega
        rw [List.take_of_length_le (Nat.le_refl _), bool_flat]
        refine T_know (i := 2) (φ := ∃ a c, vc' = .slice a p'.classes.length c) rfl (fun w h => by
          obtain ⟨a, c, h, _⟩ := Sl.of_own (show w.ownsRow 0 36 4 vc' p'.classes.length (p'.classes.flatMap clsL) from h)
          exact ⟨a, c, h⟩) fun hvc => ?_
        obtain ⟨ac, cc, rfl⟩ := hvc
        by_cases c8 : 200 < p'.classes.length
        · rw [if_pos c8] at i2
          rw [i2]
          repeat (first
            | refine qv rfl (qp rfl) rfl rfl ?_ | refine TL_nil ?_ | refine T_seq ?_ | refine T_region ?_ | refine qcT rfl ?_ | refine qcF rfl ?_ | refine T_skip ?_
            | refine T_exit ?_ | refine T_ret ?_ | refine T_block ?_ | refine E_then ?_ | refine E_thenX ?_ | refine E_thenR ?_ | refine E_blockN ?_
            | refine E_blockR ?_ | refine E_blockX ?_ | refine E_blockO rfl ?_ | refine qs rfl rfl rfl rfl rfl rfl ?_
            | ((try refine qg rfl rfl rfl ?_); first | refine qv rfl (qp rfl) rfl rfl ?_ | refine qv rfl (rr_nilc rfl) rfl rfl ?_ | refine qv rfl (rr_load1 (v := .slice ac p'.classes.length cc) TyC.ty rfl (at_blk (i := 1) rfl rfl)) rfl rfl ?_ | refine qv rfl (rr_gtr (b := true) rfl rfl (decide_eq_true (by omega))) rfl rfl ?_ | refine qv rfl (rr_build rfl build_posz) rfl rfl ?_ | refine qv rfl (qlen Und.eq rfl) rfl rfl ?_ | refine qv rfl (qfld FldC.fld rfl rfl) rfl rfl ?_ | refine qv rfl (rr_nilc rfl) rfl rfl ?_ | refine qv rfl (rr_lss rfl rfl (qT (by omega))) rfl rfl ?_ | refine qv rfl (rr_lss rfl rfl (qF (by omega))) rfl rfl ?_ | refine qv rfl (rr_gtr rfl rfl (qT (by omega))) rfl rfl ?_ | refine qv rfl (rr_gtr rfl rfl (qF (by omega))) rfl rfl ?_ | refine qv rfl (rr_eql rfl rfl (qT (by omega))) rfl rfl ?_ | refine qv rfl (rr_eql rfl rfl (qF (by omega))) rfl rfl ?_ | refine qv rfl (rr_neq rfl rfl (qT (by omega))) rfl rfl ?_ | refine qv rfl (rr_neq rfl rfl (qF (by omega))) rfl rfl ?_ | refine qv rfl (rr_add64 rfl rfl (by omega) (by omega) rfl) rfl rfl ?_))
          refine TL_storeB (i := 0) rfl rfl rfl rfl rfl rfl ?_
          conv => arg 8; simp only [zA, zB, zC, zD, zE, zF, zG, zH, zI, rowS, ret, id_eq]
          repeat (first
            | refine qv rfl (qp rfl) rfl rfl ?_ | refine TL_nil ?_ | refine T_seq ?_ | refine T_region ?_ | refine qcT rfl ?_ | refine qcF rfl ?_ | refine T_skip ?_
            | refine T_exit ?_ | refine T_ret ?_ | refine T_block ?_ | refine E_then ?_ | refine E_thenX ?_ | refine E_thenR ?_ | refine E_blockN ?_
            | refine E_blockR ?_ | refine E_blockX ?_ | refine E_blockO rfl ?_ | refine qs rfl rfl rfl rfl rfl rfl ?_
            | ((try refine qg rfl rfl rfl ?_); first | refine qv rfl (qp rfl) rfl rfl ?_ | refine qv rfl (qlen Und.eq rfl) rfl rfl ?_ | refine qv rfl (qfld FldC.fld rfl rfl) rfl rfl ?_ | refine qv rfl (rr_nilc rfl) rfl rfl ?_ | refine qv rfl (rr_lss rfl rfl (qT (by omega))) rfl rfl ?_ | refine qv rfl (rr_lss rfl rfl (qF (by omega))) rfl rfl ?_ | refine qv rfl (rr_gtr rfl rfl (qT (by omega))) rfl rfl ?_ | refine qv rfl (rr_gtr rfl rfl (qF (by omega))) rfl rfl ?_ | refine qv rfl (rr_eql rfl rfl (qT (by omega))) rfl rfl ?_ | refine qv rfl (rr_eql rfl rfl (qF (by omega))) rfl rfl ?_ | refine qv rfl (rr_neq rfl rfl (qT (by omega))) rfl rfl ?_ | refine qv rfl (rr_neq rfl rfl (qF (by omega))) rfl rfl ?_ | refine qv rfl (rr_add64 rfl rfl (by omega) (by omega) rfl) rfl rfl ?_))
          refine E_zero ?_
          exact E_retc2 (i := 0) rfl rfl rfl rfl rfl fun w hm => hm.meets (S := makeSp (2, .zero)) nilP rfl [10, 11, 12, 13, 14, 15, 16] (by decide) rfl
        · rw [if_neg c8] at i2
          repeat (first
            | refine qv rfl (qp rfl) rfl rfl ?_ | refine TL_nil ?_ | refine T_seq ?_ | refine T_region ?_ | refine qcT rfl ?_ | refine qcF rfl ?_ | refine T_skip ?_
            | refine T_exit ?_ | refine T_ret ?_ | refine T_block ?_ | refine E_then ?_ | refine E_thenX ?_ | refine E_thenR ?_ | refine E_blockN ?_
            | refine E_blockR ?_ | refine E_blockX ?_ | refine E_blockO rfl ?_ | refine qs rfl rfl rfl rfl rfl rfl ?_
            | ((try refine qg rfl rfl rfl ?_); first | refine qv rfl (qp rfl) rfl rfl ?_ | refine qv rfl (rr_nilc rfl) rfl rfl ?_ | refine qv rfl (rr_load1 (v := .slice ac p'.classes.length cc) TyC.ty rfl (at_blk (i := 1) rfl rfl)) rfl rfl ?_ | refine qv rfl (rr_gtr (b := false) rfl rfl (decide_eq_false (by omega))) rfl rfl ?_ | refine qv rfl (qlen Und.eq rfl) rfl rfl ?_ | refine qv rfl (qfld FldC.fld rfl rfl) rfl rfl ?_ | refine qv rfl (rr_nilc rfl) rfl rfl ?_ | refine qv rfl (rr_lss rfl rfl (qT (by omega))) rfl rfl ?_ | refine qv rfl (rr_lss rfl rfl (qF (by omega))) rfl rfl ?_ | refine qv rfl (rr_gtr rfl rfl (qT (by omega))) rfl rfl ?_ | refine qv rfl (rr_gtr rfl rfl (qF (by omega))) rfl rfl ?_ | refine qv rfl (rr_eql rfl rfl (qT (by omega))) rfl rfl ?_ | refine qv rfl (rr_eql rfl rfl (qF (by omega))) rfl rfl ?_ | refine qv rfl (rr_neq rfl rfl (qT (by omega))) rfl rfl ?_ | refine qv rfl (rr_neq rfl rfl (qF (by omega))) rfl rfl ?_ | refine qv rfl (rr_add64 rfl rfl (by omega) (by omega) rfl) rfl rfl ?_))
          refine E_pick [0, 1, 2, 3, 4, 5, 6, 7, 8] (by decide) rfl ?_
          exact E_round (k + 1, ⟨{ p' with last := markF p'.last last }, uni m.first first, m.empty ++ [em]⟩, ⟨.slice ac p'.classes.length cc, vr', vfol', vl', vs', F'⟩, vf', ve', (k : Int)) ⟨by omega, i2, hst.1, by show p'.classes.length ≤ 200; omega, hx', by rw [List.length_append, List.length_singleton, i6]⟩ (by show es.length - (k + 1) < es.length - k; omega) (by repeat' (first | exact True.intro | refine And.intro rfl ?_)) (by dsimp only; rw [show p'.last.length = (markF p'.last last).length from (mark_len _ _).symm]; rfl)
    · obtain rfl : k = es.length := by omega
      rw [List.drop_eq_nil_of_le (Nat.le_refl _)] at i2
      rw [i2]
      repeat (first
        | refine qv rfl (qp rfl) rfl rfl ?_ | refine TL_nil ?_ | refine T_seq ?_ | refine T_region ?_ | refine qcT rfl ?_ | refine qcF rfl ?_ | refine T_skip ?_
        | refine T_exit ?_ | refine T_ret ?_ | refine T_block ?_ | refine E_then ?_ | refine E_thenX ?_ | refine E_thenR ?_ | refine E_blockN ?_
        | refine E_blockR ?_ | refine E_blockX ?_ | refine E_blockO rfl ?_ | refine qs rfl rfl rfl rfl rfl rfl ?_
        | ((try refine qg rfl rfl rfl ?_); first | refine qv rfl (qp rfl) rfl rfl ?_ | refine qv rfl (rr_nilc rfl) rfl rfl ?_ | refine qv rfl (qlen Und.eq rfl) rfl rfl ?_ | refine qv rfl (qfld FldC.fld rfl rfl) rfl rfl ?_ | refine qv rfl (rr_nilc rfl) rfl rfl ?_ | refine qv rfl (rr_lss rfl rfl (qT (by omega))) rfl rfl ?_ | refine qv rfl (rr_lss rfl rfl (qF (by omega))) rfl rfl ?_ | refine qv rfl (rr_gtr rfl rfl (qT (by omega))) rfl rfl ?_ | refine qv rfl (rr_gtr rfl rfl (qF (by omega))) rfl rfl ?_ | refine qv rfl (rr_eql rfl rfl (qT (by omega))) rfl rfl ?_ | refine qv rfl (rr_eql rfl rfl (qF (by omega))) rfl rfl ?_ | refine qv rfl (rr_neq rfl rfl (qT (by omega))) rfl rfl ?_ | refine qv rfl (rr_neq rfl rfl (qF (by omega))) rfl rfl ?_ | refine qv rfl (rr_add64 rfl rfl (by omega) (by omega) rfl) rfl rfl ?_))
      refine TL_slv (i := 2) rfl fun _ a1 => TL_slv (i := 3) rfl fun _ a2 => TL_slv (i := 4) rfl fun _ a3 => TL_slv (i := 6) rfl fun _ a4 => TL_slv (i := 7) rfl fun _ a5 => TL_slv (i := 8) rfl fun _ a6 => ?_
      repeat (first
        | refine qv rfl (qp rfl) rfl rfl ?_ | refine TL_nil ?_ | refine T_seq ?_ | refine T_region ?_ | refine qcT rfl ?_ | refine qcF rfl ?_ | refine T_skip ?_
        | refine T_exit ?_ | refine T_ret ?_ | refine T_block ?_ | refine E_then ?_ | refine E_thenX ?_ | refine E_thenR ?_ | refine E_blockN ?_
        | refine E_blockR ?_ | refine E_blockX ?_ | refine E_blockO rfl ?_ | refine qs rfl rfl rfl rfl rfl rfl ?_
        | ((try refine qg rfl rfl rfl ?_); first | refine qv rfl (qp rfl) rfl rfl ?_ | refine qv rfl (rr_loadN (cs := [vc, vr, vf, vfol, vl, ve]) TyC.ty rfl rfl (fun j v hj => at_blk (i := 1) rfl (posn_at hj))) rfl rfl ?_ | refine qv rfl (qlen Und.eq rfl) rfl rfl ?_ | refine qv rfl (qfld FldC.fld rfl rfl) rfl rfl ?_ | refine qv rfl (rr_nilc rfl) rfl rfl ?_ | refine qv rfl (rr_lss rfl rfl (qT (by omega))) rfl rfl ?_ | refine qv rfl (rr_lss rfl rfl (qF (by omega))) rfl rfl ?_ | refine qv rfl (rr_gtr rfl rfl (qT (by omega))) rfl rfl ?_ | refine qv rfl (rr_gtr rfl rfl (qF (by omega))) rfl rfl ?_ | refine qv rfl (rr_eql rfl rfl (qT (by omega))) rfl rfl ?_ | refine qv rfl (rr_eql rfl rfl (qF (by omega))) rfl rfl ?_ | refine qv rfl (rr_neq rfl rfl (qT (by omega))) rfl rfl ?_ | refine qv rfl (rr_neq rfl rfl (qF (by omega))) rfl rfl ?_ | refine qv rfl (rr_add64 rfl rfl (by omega) (by omega) rfl) rfl rfl ?_))
      refine TL_storeB (i := 0) (cs' := #[vc, vr, vf, vfol, vl, ve]) rfl rfl rfl rfl (by simp only [List.all_cons, List.all_nil, a1, a2, a3, a4, a5, a6]; rfl) rfl ?_
      conv => arg 8; simp only [zA, zB, zC, zD, zE, zF, zG, zH, zI, rowS, ret, id_eq]
      repeat (first
        | refine qv rfl (qp rfl) rfl rfl ?_ | refine TL_nil ?_ | refine T_seq ?_ | refine T_region ?_ | refine qcT rfl ?_ | refine qcF rfl ?_ | refine T_skip ?_
        | refine T_exit ?_ | refine T_ret ?_ | refine T_block ?_ | refine E_then ?_ | refine E_thenX ?_ | refine E_thenR ?_ | refine E_blockN ?_
        | refine E_blockR ?_ | refine E_blockX ?_ | refine E_blockO rfl ?_ | refine qs rfl rfl rfl rfl rfl rfl ?_
        | ((try refine qg rfl rfl rfl ?_); first | refine qv rfl (qp rfl) rfl rfl ?_ | refine qv rfl (qlen Und.eq rfl) rfl rfl ?_ | refine qv rfl (qfld FldC.fld rfl rfl) rfl rfl ?_ | refine qv rfl (rr_nilc rfl) rfl rfl ?_ | refine qv rfl (rr_lss rfl rfl (qT (by omega))) rfl rfl ?_ | refine qv rfl (rr_lss rfl rfl (qF (by omega))) rfl rfl ?_ | refine qv rfl (rr_gtr rfl rfl (qT (by omega))) rfl rfl ?_ | refine qv rfl (rr_gtr rfl rfl (qF (by omega))) rfl rfl ?_ | refine qv rfl (rr_eql rfl rfl (qT (by omega))) rfl rfl ?_ | refine qv rfl (rr_eql rfl rfl (qF (by omega))) rfl rfl ?_ | refine qv rfl (rr_neq rfl rfl (qT (by omega))) rfl rfl ?_ | refine qv rfl (rr_neq rfl rfl (qF (by omega))) rfl rfl ?_ | refine qv rfl (rr_add64 rfl rfl (by omega) (by omega) rfl) rfl rfl ?_))
      exact E_retc2 (i := 0) rfl rfl rfl rfl rfl fun w hm => hm.meets (S := makeSp (0, m)) ⟨vc, vr, vf, vfol, vl, ve, vs, F⟩ i5 [2, 3, 7, 4, 5, 6, 8] (by decide) rfl
end Go.Proofs.Ytcflcmlmlinbaaa.eng

/- ClassB -/
namespace Go.Proofs.Ytcflcmlmlinbaaa
open Go.RowKit kit mix classL
attribute [local go_sem] and64 or64 xor64 not64
theorem gr_alloc (w : World) (o : Obj) : Below w.heap.size w (w.alloc o) := (Below.refl _ _).alloc (Nat.le_refl _) _
end Go.Proofs.Ytcflcmlmlinbaaa

/- RexPl -/
namespace Go.Proofs.Ytcflcmlmlinbaaa.eng
open Go.RowKit kit mix classL rexL classSets
/-- kids that were put into a list -/
def kidO (g : Nat) (l : List (List Value)) : Own := blkO g l.flatten.toArray 38
/-- what was put together can be read -/
theorem kids_rex {w : World} {g : Nat} {k : Int} {l : List (Int × C4 × Value × Rx)} (hk : kit.okI64 k) (h : (kidO g (l.map fun x => rexC x.1 x.2.1 x.2.2.1)).holds w) (hl : l.length ≤ 2) (hr : ∀ x ∈ l, RexIs (Low w) w (rexC x.1 x.2.1 x.2.2.1) x.2.2.2) :
    RexR (Low w) w (rexV k C4.zero (.slice (some ⟨g, 0, none⟩) l.length l.length)) (.mk k C4.zero (l.map fun x => x.2.2.2)) := by
  have hb : w.heap[g]? = some (.cells (l.map fun x => rexC x.1 x.2.1 x.2.2.1).flatten.toArray 38 (0, 0)) := h
  refine ⟨_, rfl, hk, some ⟨g, 0, none⟩, l.length, by show Value.slice _ l.length _ = _; rw [show (Rx.mk k C4.zero (l.map fun x => x.2.2.2)).kids.length = l.length from List.length_map ..], by rw [show (Rx.mk k C4.zero (l.map fun x => x.2.2.2)).kids.length = l.length from List.length_map ..]; exact Nat.le_refl _, by unfold maxLen; omega, fun _ => ⟨g, 0, rfl, (Array.getElem?_eq_some_iff.1 hb).1, fun i hi => ?_⟩⟩
  have hi' : i < l.length := by have : i < (l.map fun x => x.2.2.2).length := hi; simpa using this
  refine ⟨rexC l[i].1 l[i].2.1 l[i].2.2.1, ?_, fun j u hj => ?_⟩
  · have e : (Rx.mk k C4.zero (l.map fun x => x.2.2.2)).kids[i] = l[i].2.2.2 := by exact List.getElem_map (h := by simpa using hi') ..
    rw [e]
    exact hr l[i] (List.getElem_mem hi')
  · rw [cell_of_row w g _ _ _ _ hb, List.getElem?_toArray, Nat.zero_add]
    have hj6 : j < 6 := by have := (List.getElem?_eq_some_iff.1 hj).1; simpa [rexC, clsL] using this
    have := flatten_get (c := 6) (l.map fun x => rexC x.1 x.2.1 x.2.2.1) (fun x hx => by obtain ⟨y, _, rfl⟩ := List.mem_map.1 hx; rfl) i j (by simpa using hi') hj6
    show (l.map fun x => rexC x.1 x.2.1 x.2.2.1).flatten[i * 6 + j]? = some u
    rw [this, List.getElem_map]; exact hj
theorem rex_cs {F : Nat → Prop} {w : World} {vk : Value} {r : Rx} (h : RexR F w (rexV r.kind r.cls vk) r) : RexIs F w (rexC r.kind r.cls vk) r := by
  obtain ⟨k, c, kids⟩ := r
  obtain ⟨vk', e, h1, h2⟩ := h
  dsimp only [Rx.kind, Rx.cls, Rx.kids] at e h1 h2 ⊢
  have : vk = vk' := by simpa [rexV, rexC, clsL] using e
  subst this
  exact rex_iff.2 ⟨_, rfl, h1, h2⟩
theorem star_rex {w : World} {g : Nat} {r : Rx} {vk : Value} (h : (kidO g [rexC r.kind r.cls vk]).holds w) (hr : RexR (Low w) w (rexV r.kind r.cls vk) r) :
    RexR (Low w) w (rexV 6 C4.zero (.slice (some ⟨g, 0, none⟩) 1 1)) (.mk 6 C4.zero [r]) :=
  kids_rex (l := [(r.kind, r.cls, vk, r)]) ⟨by decide, by decide⟩ h (by show 1 ≤ 2; omega) fun x hx => by
    simp only [List.mem_cons, List.not_mem_nil, or_false] at hx
    subst hx
    exact rex_cs hr
theorem star_rexK {w : World} {g : Nat} {k : Int} {c : C4} {kids : List Rx} {vk : Value} (h : (kidO g [rexC k c vk]).holds w) (hr : RexR (Low w) w (rexV k c vk) (.mk k c kids)) :
    RexR (Low w) w (rexV 6 C4.zero (.slice (some ⟨g, 0, none⟩) 1 1)) (.mk 6 C4.zero [.mk k c kids]) := star_rex (r := .mk k c kids) h hr
end Go.Proofs.Ytcflcmlmlinbaaa.eng

/- PlR -/
namespace Go.Proofs.Ytcflcmlmlinbaaa.eng
open Go.RowKit kit mix classL rexL placesL classSets
theorem slr_gr {w w' : World} {v : Value} {l : List Rx} (h : SlF rexS (Low w) w v l) (hg : Gr w w') : SlF rexS (Low w') w' v l :=
  (h.stay fun k hk => hg.block k hk).mono fun k hk => Nat.lt_of_lt_of_le hk hg.size
theorem one_rexs {w : World} {g : Nat} {k : Int} {c : C4} {kids : List Rx} {vk : Value} (h : (blkO g (rexC k c vk).toArray 38).holds w) (hr : RexR (Low w) w (rexV k c vk) (.mk k c kids)) : SlF rexS (Low w) w (.slice (some ⟨g, 0, none⟩) 1 1) [.mk k c kids] := by
  obtain ⟨vk', e, _, hs⟩ := star_rexK (w := w) (g := g) (by show w.heap[g]? = _; rw [List.flatten_cons, List.flatten_nil, List.append_nil]; exact h) hr
  have : vk' = .slice (some ⟨g, 0, none⟩) 1 1 := by simp [rexV, rexC, clsL, Rx.kind, Rx.cls] at e; exact e.symm
  subst this
  exact hs
theorem embs_of : ∀ {rs : List Rx}, checkM rs = 0 → ∃ es : List Re, rs = es.map emb ∧ ∀ e ∈ es, Fit e 1 0
  | [], _ => ⟨[], rfl, fun _ h => by cases h⟩
  | r :: l, h => by
    have hr := check_all h r (List.mem_cons_self ..)
    have hl : checkM l = 0 := by rw [checkM, if_neg (by simpa using hr)] at h; exact h
    obtain ⟨es, rfl, h2⟩ := embs_of hl
    obtain ⟨e, rfl, hf, _⟩ := chk_fit (sizeX r) r 1 0 (chk r 1 0).2 (Nat.le_refl _) (by rw [← hr])
    refine ⟨e :: es, rfl, fun x hx => ?_⟩
    rcases List.mem_cons.1 hx with rfl | hx
    · exact hf
    · exact h2 x hx
theorem fit_size {e : Re} (h : Fit e 1 0) : e.size ≤ 100 := by have := h.sz; omega
theorem checkM_fit : ∀ {es : List Re}, (∀ e ∈ es, Fit e 1 0) → checkM (es.map emb) = 0
  | [], _ => rfl
  | e :: es, h => by
    have h1 : chkR (emb e) = 0 := by show (chk (emb e) 1 0).1 = 0; rw [fit_chk e 1 0 (h e (List.mem_cons_self ..))]
    rw [List.map_cons, checkM, if_neg (by simpa using h1)]
    exact checkM_fit fun x hx => h x (List.mem_cons_of_mem _ hx)
theorem loop_zero : ∀ (es : List Re) (i : Nat) (m : MS), (loopM i m es).1 ≠ 0 → (loopM i m es).2 = .zero
  | [], _, _, h => absurd rfl h
  | e :: r, i, m, h => by
    rw [loopM] at h ⊢
    split at h
    · rename_i c; rw [if_pos c]
    · rename_i c; rw [if_neg c]; exact loop_zero r _ _ h
/-- nothing with an error, or what the rules make -/
theorem makeR_two (rs : List Rx) : (∃ k : Int, k ≠ 0 ∧ MakeR rs (k, .zero)) ∨ ∃ (es : List Re) (m : MS), rs = es.map emb ∧ (∀ e ∈ es, Fit e 1 0) ∧ 0 < es.length ∧ es.length ≤ 20 ∧ loopM 0 .zero es = (0, m) ∧ MakeR rs (0, m) := by
  by_cases c : rs.length = 0 ∨ 20 < rs.length
  · exact .inl ⟨1, by decide, .inl ⟨c, rfl⟩⟩
  · by_cases h : checkM rs = 0
    · obtain ⟨es, h1, h2⟩ := embs_of h
      have hR : MakeR rs (loopM 0 .zero es) := .inr (.inr ⟨c, h, es, h1, fun e he => fit_size (h2 e he), rfl⟩)
      have hz := loop_zero es 0 .zero
      have hl : rs.length = es.length := by rw [h1, List.length_map]
      obtain ⟨k, m, e⟩ : ∃ k m, loopM 0 .zero es = (k, m) := ⟨_, _, rfl⟩
      rw [e] at hR hz
      by_cases h0 : k = 0
      · subst h0
        exact .inr ⟨es, m, h1, h2, by omega, by omega, e, hR⟩
      · obtain rfl : m = .zero := hz h0
        exact .inl ⟨k, h0, hR⟩
    · exact .inl ⟨checkM rs, h, .inr (.inl ⟨c, h, rfl⟩)⟩
theorem make_fit {es : List Re} (h0 : es ≠ []) (h20 : es.length ≤ 20) (h : ∀ e ∈ es, Fit e 1 0) : MakeR (es.map emb) (loopM 0 .zero es) :=
  .inr (.inr ⟨by rw [List.length_map]; have := List.length_pos_iff.2 h0; omega, checkM_fit h, es, rfl, fun e he => fit_size (h e he), rfl⟩)
/-- an own row is a slice -/
theorem row_sl {e : TypeId} {size n : Nat} {v : Value} {xs : List Value} (w : World) (h : (rowO e size v n xs).holds w) : ∃ a c, v = .slice a n c ∧ (0 < n → ∃ g, a = some ⟨g, 0, none⟩) := by
  rcases (show w.ownsRow 0 e size v n xs from h).2 with ⟨rfl, rfl⟩ | ⟨g, cap, cur, rfl, _⟩
  · exact ⟨_, _, rfl, fun h => by omega⟩
  · exact ⟨_, _, rfl, fun _ => ⟨g, rfl⟩⟩
/-- what Make made, as it can be read -/
theorem pos_slf {F : Nat → Prop} {v : Value} {vs : List Value} {fol : List (List Int)} {w : World} (hr : (folR v vs).holds w) (he : (folE F vs fol).holds w) (hl : vs.length = fol.length) : SlF (sliceS intS) (Low w) w v fol := by
  have hr' : w.ownsRow 0 24 1 v vs.length (vs.flatMap one1) := hr
  obtain ⟨base, cap, h1, h2, h3, h4⟩ := Sl.of_own hr'
  rw [hl] at h1 h2
  refine ⟨base, cap, h1, h2, h3, fun h0 => ?_⟩
  obtain ⟨b, off, h5, h6⟩ := h4 (by omega)
  rw [one1_flat] at h6
  refine ⟨b, off, h5, ?_, fun i hi => ⟨[vs[i]'(by omega)], ⟨vs[i]'(by omega), rfl, ?_⟩, fun j u hj => ?_⟩⟩
  · have := h6 0 _ (List.getElem?_eq_getElem (by omega))
    exact World.block_lt_of_cell? w _ this
  · have hs := fol_sl he hi (by omega)
    obtain ⟨⟨q1, q2⟩, q3⟩ := he
    obtain ⟨v', hv', hok, _, hF⟩ := q2 i hi (by rw [List.length_map]; omega)
    rw [List.getElem_map] at hv'
    simp only [one1, List.cons.injEq, and_true] at hv'
    rw [← int_flat] at hs
    refine SlF.of_flat hs hok (fun b hb => q3 b (hF b (by rw [← hv']; exact hb))) fun a n cp hv => q3 a.block (hF _ (by rw [← hv', hv]; rfl))
  · have hj0 : j = 0 := by have := (List.getElem?_eq_some_iff.1 hj).1; simp at this; exact this
    subst hj0
    have := h6 i u (by rw [List.getElem?_eq_getElem (by omega)]; exact hj)
    show w.cell? ⟨b, off + i * 1 + 0, none⟩ = some u
    rw [Nat.mul_one, Nat.add_zero]
    exact this
end Go.Proofs.Ytcflcmlmlinbaaa.eng

/- SmIe -/
namespace Go.Proofs.Ytcflcmlmlinbaaa.eng
open Go.RowKit kit mix
theorem SmIn_len (a : Int) : (kit.intC a).length = 1 := rfl
end Go.Proofs.Ytcflcmlmlinbaaa.eng

/- BoE -/
namespace Go.Proofs.Ytcflcmlmlinbaaa.eng
open Go.RowKit kit mix
def boC (b : Bool) : List Value := [.bool b]
theorem BoE_len (a : Bool) : (boC a).length = 1 := rfl
end Go.Proofs.Ytcflcmlmlinbaaa.eng

/- PlE -/
namespace Go.Proofs.Ytcflcmlmlinbaaa.eng
open Go.RowKit kit mix classL placesL
theorem folS_sl {F : Nat → Prop} {w : World} {cs : List Value} {l : List Int} (h : (sliceS intS).is F w cs l) : ∃ v, cs = [v] ∧ Sl w v l.length (l.flatMap kit.intC) := by
  obtain ⟨v, h1, h2⟩ := h
  exact ⟨v, h1, h2.flat (by decide)⟩
theorem slii_gr {w w' : World} {v : Value} {l : List (List Int)} (h : SlF (sliceS intS) (Low w) w v l) (hg : Gr w w') : SlF (sliceS intS) (Low w') w' v l :=
  (h.stay fun k hk => hg.block k hk).mono fun k hk => Nat.lt_of_lt_of_le hk hg.size
/-- a Posn that can be read -/
def PosR (w : World) (v : Value) (m : MS) : Prop :=
  ∃ vc vr vf vfol vl ve, v = .agg #[vc, vr, vf, vfol, vl, ve] ∧ Sl w vc m.ps.classes.length (m.ps.classes.flatMap clsL) ∧ Sl w vr m.ps.rules.length (m.ps.rules.flatMap kit.intC) ∧ Sl w vf m.first.length (m.first.flatMap kit.intC) ∧
    SlF (sliceS intS) (Low w) w vfol m.ps.follow ∧ Sl w vl m.ps.last.length (m.ps.last.flatMap boC) ∧ Sl w ve m.empty.length (m.empty.flatMap boC)
theorem PosR.gr {w w' : World} {v : Value} {m : MS} (h : PosR w v m) (hg : Gr w w') : PosR w' v m := by
  obtain ⟨vc, vr, vf, vfol, vl, ve, h0, h1, h2, h3, h4, h5, h6⟩ := h
  exact ⟨vc, vr, vf, vfol, vl, ve, h0, h1.gr hg, h2.gr hg, h3.gr hg, slii_gr h4 hg, h5.gr hg, h6.gr hg⟩
end Go.Proofs.Ytcflcmlmlinbaaa.eng

/- PlP -/
namespace Go.Proofs.Ytcflcmlmlinbaaa.eng
open Go.RowKit kit mix classL rexL placesL
theorem boC_flat (l : List Bool) : l.flatMap boC = l.map Value.bool := bool_flat l
theorem posR_of {w : World} {x : PIx} {m : MS} (hl : x.vs.length = m.ps.follow.length) (h0 : (rowO 36 4 x.vc m.ps.classes.length (m.ps.classes.flatMap clsL)).holds w) (h1 : (intR x.vr m.ps.rules).holds w) (h2 : (intR x.vf m.first).holds w) (h3 : (folR x.vfol x.vs).holds w) (h4 : (folE x.F x.vs m.ps.follow).holds w)
    (h5 : (rowO 4 1 x.vl m.ps.last.length (m.ps.last.map Value.bool)).holds w) (h6 : (rowO 4 1 x.ve m.empty.length (m.empty.map Value.bool)).holds w) : PosR w (.agg (posC x)) m := by
  refine ⟨_, _, _, _, _, _, rfl, Sl.of_own h0, ?_, ?_, pos_slf h3 h4 hl, ?_, ?_⟩
  · rw [int_flat]; exact Sl.of_own h1
  · rw [int_flat]; exact Sl.of_own h2
  · rw [boC_flat]; exact Sl.of_own h5
  · rw [boC_flat]; exact Sl.of_own h6
theorem Mem.posR {w : World} {B : Base} {L : List Own} {x : PIx} {m : MS} (i : Nat) (hm : Mem B L w) (hl : x.vs.length = m.ps.follow.length) (h : posL x m = [i, i + 1, i + 2, i + 3, i + 4, i + 5, i + 6].filterMap fun j => L[j]?) (hlen : i + 6 < L.length) : PosR w (.agg (posC x)) m := by
  have g : ∀ j, j < 7 → ∃ o, L[i + j]? = some o ∧ (posL x m)[j]? = some o := by
    intro j hj
    have e : ∀ k, k < 7 → ∃ o, L[i + k]? = some o := fun k hk => ⟨_, List.getElem?_eq_getElem (by omega)⟩
    rw [h]
    obtain ⟨o0, e0⟩ : ∃ o, L[i]? = some o := e 0 (by omega)
    obtain ⟨o1, e1⟩ := e 1 (by omega)
    obtain ⟨o2, e2⟩ := e 2 (by omega)
    obtain ⟨o3, e3⟩ := e 3 (by omega)
    obtain ⟨o4, e4⟩ := e 4 (by omega)
    obtain ⟨o5, e5⟩ := e 5 (by omega)
    obtain ⟨o6, e6⟩ := e 6 (by omega)
    simp only [List.filterMap_cons, e0, e1, e2, e3, e4, e5, e6, List.filterMap_nil]
    match j, hj with
    | 0, _ => exact ⟨_, e0, rfl⟩
    | 1, _ => exact ⟨_, e1, rfl⟩
    | 2, _ => exact ⟨_, e2, rfl⟩
    | 3, _ => exact ⟨_, e3, rfl⟩
    | 4, _ => exact ⟨_, e4, rfl⟩
    | 5, _ => exact ⟨_, e5, rfl⟩
    | 6, _ => exact ⟨_, e6, rfl⟩
  have k : ∀ j o, j < 7 → (posL x m)[j]? = some o → o.holds w := fun j o hj ho => by
    obtain ⟨o', h1, h2⟩ := g j hj
    rw [h2] at ho
    cases ho
    exact hm.get h1
  exact posR_of hl (k 0 _ (by omega) rfl) (k 1 _ (by omega) rfl) (k 2 _ (by omega) rfl) (k 3 _ (by omega) rfl) (k 4 _ (by omega) rfl) (k 5 _ (by omega) rfl) (k 6 _ (by omega) rfl)
end Go.Proofs.Ytcflcmlmlinbaaa.eng


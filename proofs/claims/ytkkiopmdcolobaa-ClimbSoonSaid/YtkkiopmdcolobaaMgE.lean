/- Part 5 of what ClimbSoon needs: LlM, LlN, LlC, ClimbB, ClimbC, ClimbD, Opens, BeginL, BeginW. -/
import Derived.Test.YtkkiopmdcolobaaMgD
import Derived.WalkKit
import Derived.WalkSpells
import Derived.WalkLawsBesides
import Derived.Deep.RegionLaw
import Derived.Deep.AppendLies
import Derived.Deep.QuietTactic
import Derived.BigQuiet
import Derived.Deep.DeepCutAuto
import Derived.Lib.Hide
import Derived.Test.YtkkiopmdcolobaaRows
import Derived.ProofKit
import Derived.OpenShut
import Derived.ShutString
import Derived.SizedLaws
import Derived.JoinedCond
import Derived.Deep.CondSized
import Derived.Deep.Quiet
import Derived.StillTail
import Derived.Deep.LoopGhost
import Derived.Laws.BitsLemmas
import Derived.Laws.BytesString
import Derived.Test.YtkkiopmdcolobaaProg
import Derived.Laws.StructEq
import Derived.Laws.MakeOwn
import Derived.Laws.AppendOwn
import Derived.Laws.Entries
import Derived.Maps.OwnSet
import Derived.DeepKeys4
import Derived.WideKeyEntry
/- LlM -/
namespace Go.Proofs.Ytkkiopmdcolobaa.eng
open Go.RowKit kit mix gramL treeL countL factsL derL llL
attribute [local irreducible] Op.shift Go.bits in
theorem bit_calls (t : Nat) (n : Int) (vp : Value) (col : Nat) (w : World) (ht : t ≤ 30) (hc : col ≤ t) (hv : ∃ b m c, vp = .slice b m c) :
    Calls Try.prog 27 #[graV (t : Int) n vp, .int .i64 (col : Int)] w (Meets (ret (bitV (bitC t col))) w) := by
  obtain ⟨b, m, c, rfl⟩ := hv
  have hsh := fun w => shl1 (P := Try.prog) col (by omega) w
  unfold bitC
  refine enter (args := [graV (t : Int) n (.slice b m c), .int .i64 (col : Int)]) (n := 11) Try.func27 rfl rfl rfl ?_
  refine T_seq (T_region (TL_box rfl rfl rfl fun g2 => ?_))
  by_cases e : col = t
  · rw [if_pos e]
    repeat (first
      | refine qv rfl (qp rfl) rfl rfl ?_ | refine TL_nil ?_ | refine T_seq ?_ | refine T_region ?_ | refine qcT rfl ?_ | refine qcF rfl ?_ | refine T_skip ?_
      | refine T_ret ?_ | refine E_then ?_ | refine E_thenR ?_ | refine qv rfl (rr_load1 TyC.ty rfl (at_blk (i := 0) rfl rfl)) rfl rfl ?_
      | refine qv rfl (qfld FldC.fld rfl rfl) rfl rfl ?_ | refine qv rfl (rr_eql rfl rfl (qT (by omega))) rfl rfl ?_
      | refine qv rfl (rr_eql rfl rfl (qF (by omega))) rfl rfl ?_)
    exact E_ret1 rfl rfl fun w hm => hm.ret
  · rw [if_neg e]
    repeat (first
      | refine qv rfl (qp rfl) rfl rfl ?_ | refine TL_nil ?_ | refine T_seq ?_ | refine T_region ?_ | refine qcT rfl ?_ | refine qcF rfl ?_ | refine T_skip ?_
      | refine T_ret ?_ | refine E_then ?_ | refine E_thenR ?_ | refine qv rfl (rr_load1 TyC.ty rfl (at_blk (i := 0) rfl rfl)) rfl rfl ?_
      | refine qv rfl (rr_shl rfl rfl hsh) rfl rfl ?_ | refine qv rfl (qfld FldC.fld rfl rfl) rfl rfl ?_
      | refine qv rfl (rr_eql rfl rfl (qT (by omega))) rfl rfl ?_ | refine qv rfl (rr_eql rfl rfl (qF (by omega))) rfl rfl ?_)
    exact E_ret1 rfl rfl fun w hm => hm.ret
def clC (x : Cl) : List Value := [.int .i64 x.1, .int .i64 x.2.1, .int .i64 x.2.2.1, .int .i64 x.2.2.2]
theorem build_cl (a b c d : Int) (w : World) : (Instr.build 86 #[(0, .int .i64 a), (1, .int .i64 b), (2, .int .i64 c), (3, .int .i64 d)]).run Try.prog w = .ok (.agg (clC (a, b, c, d)).toArray) w := by
  unfold clC; go_simp
abbrev vals (v : Value) : Value := v
def intV (n : Int) : Value := .int .i64 n
/-- how far the rows are -/
def cntL (T n c j : Nat) : Nat := if j < n then T + 1 else if j = n then c else 0
def rowsF (l : List gramL.Prod) (may : Nat → Nat) (T : Nat) (vs : Nat → Value) (n c : Nat) (j : Nat) : Own := rowO 3 1 (vs j) (cntL T n c j) ((tabA (cntL T n c j) (llL.rowAt l may T j)).map intV)
def makeS (N T : Nat) (l : List gramL.Prod) (may : Nat → Nat) : Spec (Nat × (Nat → Value) × Value) :=
  ⟨fun _ => True, fun x => .tuple #[.slice (some ⟨x.1, 0, none⟩) N N, x.2.2, .int .i64 0], fun x => [rowA 25 vals x.1 N x.2.1, famP (fun j => j < N) (rowsF l may T x.2.1 N 0), rowO 86 4 x.2.2 (rowO' l may T N).length ((rowO' l may T N).flatMap clC)]⟩
def mayG (n : Nat) (l : List gramL.Prod) (i : Nat) : Nat := beginF (ofS n l).E (ofF n l) (prodAt l (i : Int)).2 ((ofW n l).getD (prodAt l (i : Int)).1.toNat 0)
section
variable {l : List gramL.Prod} {may : Nat → Nat} {T : Nat}
theorem outL_len (n col : Nat) : ∀ (k : Nat) (out : List Cl), (outL l may T n col k out).length ≤ out.length + k
  | 0, out => by rw [outL]; omega
  | k + 1, out => by
    have := outL_len n col k out
    rw [outL]
    split
    · split
      · omega
      · rw [List.length_append]; simp; omega
    · omega
theorem colO_len (n : Nat) : ∀ (c : Nat) (out : List Cl), (colO l may T n c out).length ≤ out.length + c * l.length
  | 0, out => by rw [colO]; omega
  | c + 1, out => by
    have h1 := colO_len n c out
    have h2 := outL_len (l := l) (may := may) (T := T) n c l.length (colO l may T n c out)
    rw [colO, Nat.succ_mul]; omega
theorem rowO_len : ∀ (N : Nat), (rowO' l may T N).length ≤ N * ((T + 1) * l.length)
  | 0 => by rw [rowO']; simp
  | N + 1 => by
    have h1 := rowO_len N
    have h2 := colO_len (l := l) (may := may) (T := T) N (T + 1) (rowO' l may T N)
    rw [rowO', Nat.succ_mul]; omega
end
theorem ofW_okW2 {g : Gram} {n : Nat} (hck : checkG g = 0) (hn : g.nons = n) : okW n (ofW n g.prods) := by
  obtain ⟨_, _, a3, _⟩ := checkG_ok hck
  have hf := fine_of hck hn
  have hF := (ofW_ok hck hn).2
  have hfl := fallsW (E := (ofS n g.prods).E) hF hf
  obtain ⟨s', h1, h2, h3⟩ := fix_end hfl _ ((List.replicate n 0).set 0 9223372036854775808) ⟨by simp, fun x hx => by
    rcases List.mem_or_eq_of_mem_set hx with h | h
    · rw [List.eq_of_mem_replicate h]; decide
    · rw [h]; decide⟩ (Nat.le_refl _)
  obtain ⟨_, h4, h5⟩ := passW_still _ _ _ h2
  have h6 : ofW n g.prods = s' := by unfold ofW setsW; rw [h3]; exact h4
  rw [h6]
  exact h1
attribute [local irreducible] Op.shift Go.bits Instr.build in
set_option maxRecDepth 100000 in
set_option maxHeartbeats 16000000 in
theorem make_calls (v : Value) (g : Gram) (w : World) (h : GraR (fun k => k < w.heap.size) w v g) (hg : checkG g = 0) (T N : Nat) (hT : g.terms = T) (hN : g.nons = N) :
    Calls Try.prog 11 #[v] w (Meets (makeS N T g.prods (mayG N g.prods)) w) := by
  obtain ⟨a1, a2, a3, a4, a5, a6⟩ := checkG_ok hg
  have hof := fun w' (hg' : Gr w w') => of_calls v g w' (h.gr hg') hg N hN
  have hbe : ∀ body : List Sym, body ∈ g.prods.map (·.2) → begE g body = 0 ∧ ∀ b, begV g body b = beginF (ofS N g.prods).E (ofF N g.prods) body b := fun body hb => by
    obtain ⟨p, hp, rfl⟩ := List.mem_map.1 hb
    obtain ⟨b1, b2, b3, b4⟩ := a6 p hp
    have e : begE g p.2 = 0 := by
      unfold begE
      rw [if_neg (by simpa using hg), if_neg (by omega)]
      exact badE_of b4
    refine ⟨e, fun b => ?_⟩
    unfold begV
    rw [if_pos e, show g.nons.toNat = N by omega]
  have hBg := fun vb body b w' (hg : Gr w w') hs => factsBegin_calls v vb g body b w' (h.gr hg) hs
  obtain ⟨_, hF⟩ := ofW_ok hg hN
  have hWW := ofW_okW2 hg hN
  have hfi := fineC_of hg hN
  have hmay : mayG N g.prods = fun i : Nat => beginF (ofS N g.prods).E (ofF N g.prods) (prodAt g.prods (i : Int)).2 ((ofW N g.prods).getD (prodAt g.prods (i : Int)).1.toNat 0) := rfl
  have hmlt : ∀ i, mayG N g.prods i < 18446744073709551616 := fun i => by
    refine beginF_lt hF (getD_lt hWW _) fun x hx h1 => ?_
    by_cases c : i < g.prods.length
    · rw [prodAt_get c] at hx
      have := (a6 _ (List.getElem_mem c)).2.2.2 x hx
      unfold right at this
      rw [if_pos h1] at this
      simp at this; omega
    · unfold prodAt at hx
      rw [Int.toNat_natCast, List.getD_eq_getElem?_getD, List.getElem?_eq_none (by omega)] at hx
      cases hx
  generalize hmm : mayG N g.prods = may at *
  obtain ⟨vp, rfl, h1, _⟩ := h
  obtain ⟨t, nn, prods⟩ := g
  dsimp only at *
  subst hT hN
  have h10 := h1
  obtain ⟨bp, cp, rfl, hcp, hmp, hrp⟩ := h1
  unfold maxLen at hmp
  refine enter (args := [graV (T : Int) (N : Int) (.slice bp prods.length cp)]) (n := 119) Try.func11 rfl rfl rfl ?_
  refine T_seq (T_region (TL_box rfl rfl rfl fun g1 => ?_))
  conv => arg 8; simp only [zA, zB, zC, zD, zE, zF, zG, zH, zI, rowS, ret, id_eq]
  repeat (first
    | refine qv rfl (qp rfl) rfl rfl ?_ | refine TL_nil ?_ | refine T_seq ?_ | refine T_region ?_ | refine qcT rfl ?_ | refine qcF rfl ?_ | refine T_skip ?_
    | refine T_exit ?_ | refine T_ret ?_ | refine T_block ?_ | refine E_then ?_ | refine E_thenX ?_ | refine E_thenR ?_ | refine E_blockN ?_
    | refine E_blockR ?_ | refine E_blockX ?_ | refine E_blockO rfl ?_ | refine qs rfl rfl rfl rfl rfl rfl ?_
    | ((try refine qg rfl rfl rfl ?_); first | refine qv rfl (qp rfl) rfl rfl ?_ | refine qv rfl (rr_loadB (i := 0) TyC.ty rfl rfl rfl) rfl rfl ?_ | refine qv rfl (qlen Und.eq rfl) rfl rfl ?_ | refine qv rfl (qfld FldC.fld rfl rfl) rfl rfl ?_ | refine qv rfl (rr_lss rfl rfl (qT (by omega))) rfl rfl ?_ | refine qv rfl (rr_lss rfl rfl (qF (by omega))) rfl rfl ?_ | refine qv rfl (rr_neq rfl rfl (qT (by omega))) rfl rfl ?_ | refine qv rfl (rr_neq rfl rfl (qF (by omega))) rfl rfl ?_ | refine qv rfl (rr_add64 rfl rfl (by omega) (by omega) rfl) rfl rfl ?_ | refine qv rfl (rr_eql rfl rfl (qT (by omega))) rfl rfl ?_ | refine qv rfl (rr_eql rfl rfl (qF (by omega))) rfl rfl ?_))
  refine TL_call (he1 EntersC.en rfl rfl) (fun w' hm => (hof w' hm.below).mono fun e w2 h => meets_of h) rfl rfl rfl ?_
  intro x _
  conv => arg 8; simp only [zA, zB, zC, zD, zE, zF, zG, zH, zI, rowS, ret, id_eq, Rows5.val]
  refine TL_pick [0, 3] (by decide) rfl ?_
  repeat (first
    | refine qv rfl (qp rfl) rfl rfl ?_ | refine TL_nil ?_ | refine T_seq ?_ | refine T_region ?_ | refine qcT rfl ?_ | refine qcF rfl ?_ | refine T_skip ?_
    | refine T_exit ?_ | refine T_ret ?_ | refine T_block ?_ | refine E_then ?_ | refine E_thenX ?_ | refine E_thenR ?_ | refine E_blockN ?_
    | refine E_blockR ?_ | refine E_blockX ?_ | refine E_blockO rfl ?_ | refine qs rfl rfl rfl rfl rfl rfl ?_
    | ((try refine qg rfl rfl rfl ?_); first | refine qv rfl (qp rfl) rfl rfl ?_ | refine qv rfl (qlen Und.eq rfl) rfl rfl ?_ | refine qv rfl (qfld FldC.fld rfl rfl) rfl rfl ?_ | refine qv rfl (rr_lss rfl rfl (qT (by omega))) rfl rfl ?_ | refine qv rfl (rr_lss rfl rfl (qF (by omega))) rfl rfl ?_ | refine qv rfl (rr_neq rfl rfl (qT (by omega))) rfl rfl ?_ | refine qv rfl (rr_neq rfl rfl (qF (by omega))) rfl rfl ?_ | refine qv rfl (rr_add64 rfl rfl (by omega) (by omega) rfl) rfl rfl ?_ | refine qv rfl (rr_eql rfl rfl (qT (by omega))) rfl rfl ?_ | refine qv rfl (rr_eql rfl rfl (qF (by omega))) rfl rfl ?_))
  refine TL_new rfl fun g5 => ?_
  refine TL_storeB (i := 2) rfl rfl rfl rfl rfl rfl ?_
  conv => arg 8; simp only [zA, zB, zC, zD, zE, zF, zG, zH, zI, rowS, ret, id_eq]
  repeat (first
    | refine qv rfl (qp rfl) rfl rfl ?_ | refine TL_nil ?_ | refine T_seq ?_ | refine T_region ?_ | refine qcT rfl ?_ | refine qcF rfl ?_ | refine T_skip ?_
    | refine T_exit ?_ | refine T_ret ?_ | refine T_block ?_ | refine E_then ?_ | refine E_thenX ?_ | refine E_thenR ?_ | refine E_blockN ?_
    | refine E_blockR ?_ | refine E_blockX ?_ | refine E_blockO rfl ?_ | refine qs rfl rfl rfl rfl rfl rfl ?_
    | ((try refine qg rfl rfl rfl ?_); first | refine qv rfl (qp rfl) rfl rfl ?_ | refine qv rfl (rr_load1 TyC.ty rfl (at_blk (i := 0) rfl rfl)) rfl rfl ?_ | refine qv rfl (qlen Und.eq rfl) rfl rfl ?_ | refine qv rfl (qfld FldC.fld rfl rfl) rfl rfl ?_ | refine qv rfl (rr_lss rfl rfl (qT (by omega))) rfl rfl ?_ | refine qv rfl (rr_lss rfl rfl (qF (by omega))) rfl rfl ?_ | refine qv rfl (rr_neq rfl rfl (qT (by omega))) rfl rfl ?_ | refine qv rfl (rr_neq rfl rfl (qF (by omega))) rfl rfl ?_ | refine qv rfl (rr_add64 rfl rfl (by omega) (by omega) rfl) rfl rfl ?_ | refine qv rfl (rr_eql rfl rfl (qT (by omega))) rfl rfl ?_ | refine qv rfl (rr_eql rfl rfl (qF (by omega))) rfl rfl ?_))
  have hz : ZeroC Try.prog 81 #[bitV 0] := (inferInstance : ZeroC Try.prog 81 #[.int .u64 0])
  refine TL_makeA bitV 0 rfl rfl (by omega) (by omega) rfl fun g7 => ?_
  conv => arg 8; simp only [zA, zB, zC, zD, zE, zF, zG, zH, zI, rowS, ret, id_eq]
  repeat (first
    | refine qv rfl (qp rfl) rfl rfl ?_ | refine TL_nil ?_ | refine T_seq ?_ | refine T_region ?_ | refine qcT rfl ?_ | refine qcF rfl ?_ | refine T_skip ?_
    | refine T_exit ?_ | refine T_ret ?_ | refine T_block ?_ | refine E_then ?_ | refine E_thenX ?_ | refine E_thenR ?_ | refine E_blockN ?_
    | refine E_blockR ?_ | refine E_blockX ?_ | refine E_blockO rfl ?_ | refine qs rfl rfl rfl rfl rfl rfl ?_
    | ((try refine qg rfl rfl rfl ?_); first | refine qv rfl (qp rfl) rfl rfl ?_ | refine qv rfl (rr_load1 TyC.ty rfl (at_blk (i := 0) rfl rfl)) rfl rfl ?_ | refine qv rfl (qlen Und.eq rfl) rfl rfl ?_ | refine qv rfl (qfld FldC.fld rfl rfl) rfl rfl ?_ | refine qv rfl (rr_lss rfl rfl (qT (by omega))) rfl rfl ?_ | refine qv rfl (rr_lss rfl rfl (qF (by omega))) rfl rfl ?_ | refine qv rfl (rr_neq rfl rfl (qT (by omega))) rfl rfl ?_ | refine qv rfl (rr_neq rfl rfl (qF (by omega))) rfl rfl ?_ | refine qv rfl (rr_add64 rfl rfl (by omega) (by omega) rfl) rfl rfl ?_ | refine qv rfl (rr_eql rfl rfl (qT (by omega))) rfl rfl ?_ | refine qv rfl (rr_eql rfl rfl (qF (by omega))) rfl rfl ?_))
  refine T_loop (ι := Nat) (fun k => k ≤ prods.length) (fun k => [(1, .pointer (some ⟨g1, 0, none⟩)), (5, .pointer (some ⟨g5, 0, none⟩)), (7, .slice (some ⟨g7, 0, none⟩) prods.length prods.length), (30, .slice bp prods.length cp), (31, .int .i64 prods.length), (32, .int .i64 (k : Int))])
    (fun k => [blkO g1 (graV (T : Int) (N : Int) (.slice bp prods.length cp)).cells 24, rowNn N x.gW x.cW (ofW N prods), blkO g5 (facV (vRow N x.gE x.cE) (vRow N x.gF x.cF) (vRow N x.gW x.cW) (vRow N x.gR x.cR) (vRow N x.gM x.cM)).cells 67, rowA 81 bitV g7 prods.length (fun j => if j < k then may j else 0)]) (fun k => prods.length - k) 0 (Nat.zero_le _) (by repeat' (first | exact True.intro | refine And.intro rfl ?_)) (by rw [show (fun j => if j < 0 then may j else 0) = fun _ => 0 from funext fun j => if_neg (by omega)]; rfl) ?_
  intro k k1
  by_cases c7 : k < prods.length
  · obtain ⟨b, off, rfl, _, hr⟩ := hrp (by omega)
    obtain ⟨bb, cb, y1, y2, y3⟩ := prod_at hr c7
    have hat : ∀ (L : List Own) (j : Nat) (v : Value), ([.int .i64 prods[k].1, .slice bb prods[k].2.length cb] : List Value)[j]? = some v → At w L ⟨b, off + k * 2 + j, none⟩ v := fun L j v hj => at_old (y1 j v hj)
    have hfl := y3.flat (by decide)
    obtain ⟨b1, b2, b3, b4⟩ := a6 _ (List.getElem_mem c7)
    obtain ⟨hb1, hb2⟩ := hbe prods[k].2 (List.mem_map.2 ⟨_, List.getElem_mem c7, rfl⟩)
    have hmk : may k = beginF (ofS N prods).E (ofF N prods) prods[k].2 ((ofW N prods).getD prods[k].1.toNat 0) := by rw [hmay]; dsimp only; rw [prodAt_get c7]
    clear y1 y3 hr hbe hrp
    generalize prods[k] = pd at *
    obtain ⟨hd, body⟩ := pd
    dsimp only at *
    obtain ⟨hn, rfl⟩ : ∃ hn : Nat, hd = hn := ⟨hd.toNat, by omega⟩
    have hlt : hn < N := by omega
    rw [Int.toNat_natCast] at hmk
    have hWat : ((ofW N prods).map bitV)[0 + hn]? = some (bitV ((ofW N prods).getD hn 0)) := by rw [Nat.zero_add]; exact bit_at (by rw [hWW.1]; exact hlt)
    have hWlt := getD_lt hWW hn
    have hBg := fun w' hg hs => hBg (.slice bb body.length cb) body ((ofW N prods).getD hn 0) w' hg hs hWlt
    rw [hb1, hb2, ← hmk] at hBg
    generalize (ofW N prods).getD hn 0 = wv at *
    repeat (first
      | refine qv rfl (qp rfl) rfl rfl ?_ | refine TL_nil ?_ | refine T_seq ?_ | refine T_region ?_ | refine qcT rfl ?_ | refine qcF rfl ?_ | refine T_skip ?_
      | refine T_exit ?_ | refine T_ret ?_ | refine T_block ?_ | refine E_then ?_ | refine E_thenX ?_ | refine E_thenR ?_ | refine E_blockN ?_
      | refine E_blockR ?_ | refine E_blockX ?_ | refine E_blockO rfl ?_ | refine qs rfl rfl rfl rfl rfl rfl ?_
      | ((try refine qg rfl rfl rfl ?_); first | refine qv rfl (qp rfl) rfl rfl ?_ | refine qv rfl (rr_idxc Und.eq TyC.ty rfl rfl c7) rfl rfl ?_ | refine qv rfl (rr_loadN TyC.ty rfl rfl (hat _)) rfl rfl ?_ | refine qv rfl (qlen Und.eq rfl) rfl rfl ?_ | refine qv rfl (qfld FldC.fld rfl rfl) rfl rfl ?_ | refine qv rfl (rr_lss rfl rfl (qT (by omega))) rfl rfl ?_ | refine qv rfl (rr_lss rfl rfl (qF (by omega))) rfl rfl ?_ | refine qv rfl (rr_neq rfl rfl (qT (by omega))) rfl rfl ?_ | refine qv rfl (rr_neq rfl rfl (qF (by omega))) rfl rfl ?_ | refine qv rfl (rr_add64 rfl rfl (by omega) (by omega) rfl) rfl rfl ?_ | refine qv rfl (rr_eql rfl rfl (qT (by omega))) rfl rfl ?_ | refine qv rfl (rr_eql rfl rfl (qF (by omega))) rfl rfl ?_))
    refine TL_new rfl fun g9 => ?_
    repeat (first
      | refine qv rfl (qp rfl) rfl rfl ?_ | refine TL_nil ?_ | refine T_seq ?_ | refine T_region ?_ | refine qcT rfl ?_ | refine qcF rfl ?_ | refine T_skip ?_
      | refine T_exit ?_ | refine T_ret ?_ | refine T_block ?_ | refine E_then ?_ | refine E_thenX ?_ | refine E_thenR ?_ | refine E_blockN ?_
      | refine E_blockR ?_ | refine E_blockX ?_ | refine E_blockO rfl ?_ | refine qs rfl rfl rfl rfl rfl rfl ?_
      | ((try refine qg rfl rfl rfl ?_); first | refine qv rfl (qp rfl) rfl rfl ?_ | refine qv rfl (qlen Und.eq rfl) rfl rfl ?_ | refine qv rfl (qfld FldC.fld rfl rfl) rfl rfl ?_ | refine qv rfl (rr_lss rfl rfl (qT (by omega))) rfl rfl ?_ | refine qv rfl (rr_lss rfl rfl (qF (by omega))) rfl rfl ?_ | refine qv rfl (rr_neq rfl rfl (qT (by omega))) rfl rfl ?_ | refine qv rfl (rr_neq rfl rfl (qF (by omega))) rfl rfl ?_ | refine qv rfl (rr_add64 rfl rfl (by omega) (by omega) rfl) rfl rfl ?_ | refine qv rfl (rr_eql rfl rfl (qT (by omega))) rfl rfl ?_ | refine qv rfl (rr_eql rfl rfl (qF (by omega))) rfl rfl ?_))
    refine TL_storeB (i := 4) rfl rfl rfl rfl rfl rfl ?_
    conv => arg 8; simp only [zA, zB, zC, zD, zE, zF, zG, zH, zI, rowS, ret, id_eq]
    repeat (first
      | refine qv rfl (qp rfl) rfl rfl ?_ | refine TL_nil ?_ | refine T_seq ?_ | refine T_region ?_ | refine qcT rfl ?_ | refine qcF rfl ?_ | refine T_skip ?_
      | refine T_exit ?_ | refine T_ret ?_ | refine T_block ?_ | refine E_then ?_ | refine E_thenX ?_ | refine E_thenR ?_ | refine E_blockN ?_
      | refine E_blockR ?_ | refine E_blockX ?_ | refine E_blockO rfl ?_ | refine qs rfl rfl rfl rfl rfl rfl ?_
      | ((try refine qg rfl rfl rfl ?_); first | refine qv rfl (qp rfl) rfl rfl ?_ | refine qv rfl (qlen Und.eq rfl) rfl rfl ?_ | refine qv rfl (qfld FldC.fld rfl rfl) rfl rfl ?_ | refine qv rfl (rr_lss rfl rfl (qT (by omega))) rfl rfl ?_ | refine qv rfl (rr_lss rfl rfl (qF (by omega))) rfl rfl ?_ | refine qv rfl (rr_neq rfl rfl (qT (by omega))) rfl rfl ?_ | refine qv rfl (rr_neq rfl rfl (qF (by omega))) rfl rfl ?_ | refine qv rfl (rr_add64 rfl rfl (by omega) (by omega) rfl) rfl rfl ?_ | refine qv rfl (rr_eql rfl rfl (qT (by omega))) rfl rfl ?_ | refine qv rfl (rr_eql rfl rfl (qF (by omega))) rfl rfl ?_))
    refine T_ord ([blkO g1 (graV (T : Int) (N : Int) (.slice (some ⟨b, off, none⟩) prods.length cp)).cells 24, rowNn N x.gW x.cW (ofW N prods), blkO g5 (facV (vRow N x.gE x.cE) (vRow N x.gF x.cF) (vRow N x.gW x.cW) (vRow N x.gR x.cR) (vRow N x.gM x.cM)).cells 67, blkO g9 #[.int .i64 (hn : Int), .slice bb body.length cb] 46]) (.calm 0 (.calm 1 (.calm 2 (.calm 3 (.calm 4 (.calm 5 (.calm 6 (.calm 7 (.calm 8 (.calm 9 (.calm 10 (.calm 11 (.calm 12 (.calm 13 (.calm 14 (.calm 15 (.one 16 (.done)))))))))))))))))) (sub_pick [0, 1, 2, 4] (by decide) rfl) (by kernel_rfl) (by kernel_rfl) (by intro c a d v w h; cases d <;> exact h) ?_
    repeat (first
      | ((first | refine TW_plain rfl rfl ?_ | refine TW_gmet rfl rfl rfl rfl ?_); first | refine TN_val (qp rfl) rfl rfl ?_ | refine TN_val (rr_loadB (i := 0) TyC.ty rfl rfl rfl) rfl rfl ?_ | refine TN_val (rr_load1 TyC.ty rfl (at_blk (i := 3) rfl rfl)) rfl rfl ?_ | refine TN_val (rr_load1 TyC.ty rfl (at_blk (i := 2) rfl rfl)) rfl rfl ?_ | refine TN_val (rr_idx1 Und.eq TyC.ty rfl rfl hlt) rfl rfl ?_ | refine TN_val (rr_load1 TyC.ty rfl (at_row (i := 1) rfl hWat)) rfl rfl ?_ | refine TN_val (qlen Und.eq rfl) rfl rfl ?_ | refine TN_val (qfld FldC.fld rfl rfl) rfl rfl ?_ | refine TN_val (rr_lss rfl rfl (qT (by omega))) rfl rfl ?_ | refine TN_val (rr_lss rfl rfl (qF (by omega))) rfl rfl ?_ | refine TN_val (rr_neq rfl rfl (qT (by omega))) rfl rfl ?_ | refine TN_val (rr_neq rfl rfl (qF (by omega))) rfl rfl ?_ | refine TN_val (rr_add64 rfl rfl (by omega) (by omega) rfl) rfl rfl ?_ | refine TN_val (rr_eql rfl rfl (qT (by omega))) rfl rfl ?_ | refine TN_val (rr_eql rfl rfl (qF (by omega))) rfl rfl ?_)
      | refine TW_skip rfl rfl rfl rfl rfl rfl rfl ?_ | refine TW_done ?_)
    refine TW_call rfl (he3 EntersC.en rfl rfl rfl rfl) (fun w hm => hBg _ hm.below (hfl.gr hm.below)) rfl rfl rfl ?_
    repeat (first
      | ((first | refine TW_plain rfl rfl ?_ | refine TW_gmet rfl rfl rfl rfl ?_); first | refine TN_val (qp rfl) rfl rfl ?_ | refine TN_val (rr_idx1 Und.eq TyC.ty rfl rfl c7) rfl rfl ?_ | refine TN_val (qlen Und.eq rfl) rfl rfl ?_ | refine TN_val (qfld FldC.fld rfl rfl) rfl rfl ?_ | refine TN_val (rr_lss rfl rfl (qT (by omega))) rfl rfl ?_ | refine TN_val (rr_lss rfl rfl (qF (by omega))) rfl rfl ?_ | refine TN_val (rr_neq rfl rfl (qT (by omega))) rfl rfl ?_ | refine TN_val (rr_neq rfl rfl (qF (by omega))) rfl rfl ?_ | refine TN_val (rr_add64 rfl rfl (by omega) (by omega) rfl) rfl rfl ?_ | refine TN_val (rr_eql rfl rfl (qT (by omega))) rfl rfl ?_ | refine TN_val (rr_eql rfl rfl (qF (by omega))) rfl rfl ?_)
      | refine TW_skip rfl rfl rfl rfl rfl rfl rfl ?_ | refine TW_done ?_)
    refine TW_one rfl ?_
    refine TL_storeA (i := 3) (v := may k) (fun j => if j < k + 1 then may j else 0) TyC.ty rfl rfl rfl rfl rfl c7 (fun j _ => by
      by_cases e : j = k
      · subst e; simp
      · by_cases e2 : j < k
        · simp [e, e2, show j < k + 1 by omega]
        · simp [e, e2, show ¬ j < k + 1 by omega]) ?_
    conv => arg 8; simp only [zA, zB, zC, zD, zE, zF, zG, zH, zI, rowS, ret, id_eq]
    refine TW_on (sub_pick [0, 1, 2, 4] (by decide) rfl) ?_
    repeat (first
      | ((first | refine TW_plain rfl rfl ?_ | refine TW_gmet rfl rfl rfl rfl ?_); first | refine TN_val (qp rfl) rfl rfl ?_ | refine TN_val (qlen Und.eq rfl) rfl rfl ?_ | refine TN_val (qfld FldC.fld rfl rfl) rfl rfl ?_ | refine TN_val (rr_lss rfl rfl (qT (by omega))) rfl rfl ?_ | refine TN_val (rr_lss rfl rfl (qF (by omega))) rfl rfl ?_ | refine TN_val (rr_neq rfl rfl (qT (by omega))) rfl rfl ?_ | refine TN_val (rr_neq rfl rfl (qF (by omega))) rfl rfl ?_ | refine TN_val (rr_add64 rfl rfl (by omega) (by omega) rfl) rfl rfl ?_ | refine TN_val (rr_eql rfl rfl (qT (by omega))) rfl rfl ?_ | refine TN_val (rr_eql rfl rfl (qF (by omega))) rfl rfl ?_)
      | refine TW_skip rfl rfl rfl rfl rfl rfl rfl ?_ | refine TW_done ?_)
    repeat (first
      | refine qv rfl (qp rfl) rfl rfl ?_ | refine TL_nil ?_ | refine T_seq ?_ | refine T_region ?_ | refine qcT rfl ?_ | refine qcF rfl ?_ | refine T_skip ?_
      | refine T_exit ?_ | refine T_ret ?_ | refine T_block ?_ | refine E_then ?_ | refine E_thenX ?_ | refine E_thenR ?_ | refine E_blockN ?_
      | refine E_blockR ?_ | refine E_blockX ?_ | refine E_blockO rfl ?_ | refine qs rfl rfl rfl rfl rfl rfl ?_
      | ((try refine qg rfl rfl rfl ?_); first | refine qv rfl (qp rfl) rfl rfl ?_ | refine qv rfl (qlen Und.eq rfl) rfl rfl ?_ | refine qv rfl (qfld FldC.fld rfl rfl) rfl rfl ?_ | refine qv rfl (rr_lss rfl rfl (qT (by omega))) rfl rfl ?_ | refine qv rfl (rr_lss rfl rfl (qF (by omega))) rfl rfl ?_ | refine qv rfl (rr_neq rfl rfl (qT (by omega))) rfl rfl ?_ | refine qv rfl (rr_neq rfl rfl (qF (by omega))) rfl rfl ?_ | refine qv rfl (rr_add64 rfl rfl (by omega) (by omega) rfl) rfl rfl ?_ | refine qv rfl (rr_eql rfl rfl (qT (by omega))) rfl rfl ?_ | refine qv rfl (rr_eql rfl rfl (qF (by omega))) rfl rfl ?_))
    refine E_pick [0, 1, 2, 3] (by decide) rfl ?_
    exact E_round (k + 1) (by omega) (by omega) (by repeat' (first | exact True.intro | refine And.intro rfl ?_)) rfl
  · obtain rfl : k = prods.length := by omega
    rw [show rowA 81 bitV g7 prods.length (fun j => if j < prods.length then may j else 0) = rowA 81 bitV g7 prods.length may from rowA_congr fun j hj => if_pos hj]
    clear hBg hbe hof hmay
    repeat (first
      | refine qv rfl (qp rfl) rfl rfl ?_ | refine TL_nil ?_ | refine T_seq ?_ | refine T_region ?_ | refine qcT rfl ?_ | refine qcF rfl ?_ | refine T_skip ?_
      | refine T_exit ?_ | refine T_ret ?_ | refine T_block ?_ | refine E_then ?_ | refine E_thenX ?_ | refine E_thenR ?_ | refine E_blockN ?_
      | refine E_blockR ?_ | refine E_blockX ?_ | refine E_blockO rfl ?_ | refine qs rfl rfl rfl rfl rfl rfl ?_
      | ((try refine qg rfl rfl rfl ?_); first | refine qv rfl (qp rfl) rfl rfl ?_ | refine qv rfl (rr_load1 TyC.ty rfl (at_blk (i := 0) rfl rfl)) rfl rfl ?_ | refine qv rfl (qlen Und.eq rfl) rfl rfl ?_ | refine qv rfl (qfld FldC.fld rfl rfl) rfl rfl ?_ | refine qv rfl (rr_lss rfl rfl (qT (by omega))) rfl rfl ?_ | refine qv rfl (rr_lss rfl rfl (qF (by omega))) rfl rfl ?_ | refine qv rfl (rr_neq rfl rfl (qT (by omega))) rfl rfl ?_ | refine qv rfl (rr_neq rfl rfl (qF (by omega))) rfl rfl ?_ | refine qv rfl (rr_add64 rfl rfl (by omega) (by omega) rfl) rfl rfl ?_ | refine qv rfl (rr_eql rfl rfl (qT (by omega))) rfl rfl ?_ | refine qv rfl (rr_eql rfl rfl (qF (by omega))) rfl rfl ?_))
    refine TL_makeA vals (.slice none 0 0) rfl rfl (by omega) (by omega) rfl fun g10 => ?_
    conv => arg 8; simp only [zA, zB, zC, zD, zE, zF, zG, zH, zI, rowS, ret, id_eq]
    repeat (first
      | refine qv rfl (qp rfl) rfl rfl ?_ | refine TL_nil ?_ | refine T_seq ?_ | refine T_region ?_ | refine qcT rfl ?_ | refine qcF rfl ?_ | refine T_skip ?_
      | refine T_exit ?_ | refine T_ret ?_ | refine T_block ?_ | refine E_then ?_ | refine E_thenX ?_ | refine E_thenR ?_ | refine E_blockN ?_
      | refine E_blockR ?_ | refine E_blockX ?_ | refine E_blockO rfl ?_ | refine qs rfl rfl rfl rfl rfl rfl ?_
      | ((try refine qg rfl rfl rfl ?_); first | refine qv rfl (qp rfl) rfl rfl ?_ | refine qv rfl (qlen Und.eq rfl) rfl rfl ?_ | refine qv rfl (qfld FldC.fld rfl rfl) rfl rfl ?_ | refine qv rfl (rr_lss rfl rfl (qT (by omega))) rfl rfl ?_ | refine qv rfl (rr_lss rfl rfl (qF (by omega))) rfl rfl ?_ | refine qv rfl (rr_neq rfl rfl (qT (by omega))) rfl rfl ?_ | refine qv rfl (rr_neq rfl rfl (qF (by omega))) rfl rfl ?_ | refine qv rfl (rr_add64 rfl rfl (by omega) (by omega) rfl) rfl rfl ?_ | refine qv rfl (rr_eql rfl rfl (qT (by omega))) rfl rfl ?_ | refine qv rfl (rr_eql rfl rfl (qF (by omega))) rfl rfl ?_))
    refine T_pick [0, 3, 4] (by decide) rfl ?_
    refine T_extra (famP (fun j => j < N) (rowsF prods may T (fun _ => .slice none 0 0) 0 0)) (fun k hk => hk.elim (fun h => by cases h) fun ⟨i, hi, h⟩ => h.elim (fun h => by cases h) id) (fun w => ⟨fun i hi => ?_, fun i j _ _ _ k h => h.elim (fun h => by cases h) False.elim⟩) ?_
    · unfold rowsF cntL
      rw [if_neg (by omega), ite_self]
      exact World.ownsRow_nil _ _ _ _
    refine T_nil 86 4 ?_
    refine T_loop (ι := Nat × (Nat → Value) × Value) (fun (n, _, _) => n ≤ N) (fun (n, _, vo) => [(1, .pointer (some ⟨g1, 0, none⟩)), (7, .slice (some ⟨g7, 0, none⟩) prods.length prods.length), (10, .slice (some ⟨g10, 0, none⟩) N N), (11, vo), (58, .int .i64 (N : Int)), (59, .int .i64 (n : Int))])
      (fun (n, vs, vo) => [blkO g1 (graV (T : Int) (N : Int) (.slice bp prods.length cp)).cells 24, rowA 81 bitV g7 prods.length may, rowA 25 vals g10 N vs, famP (fun j => j < N) (rowsF prods may T vs n 0), rowO 86 4 vo (rowO' prods may T n).length ((rowO' prods may T n).flatMap clC)]) (fun (n, _, _) => N - n) (0, fun _ => .slice none 0 0, .slice none 0 0) (Nat.zero_le _) (by repeat' (first | exact True.intro | refine And.intro rfl ?_)) rfl ?_
    rintro ⟨n, vs, vo⟩ n1
    dsimp only at n1 ⊢
    by_cases c8 : n < N
    · repeat (first
        | refine qv rfl (qp rfl) rfl rfl ?_ | refine TL_nil ?_ | refine T_seq ?_ | refine T_region ?_ | refine qcT rfl ?_ | refine qcF rfl ?_ | refine T_skip ?_
        | refine T_exit ?_ | refine T_ret ?_ | refine T_block ?_ | refine E_then ?_ | refine E_thenX ?_ | refine E_thenR ?_ | refine E_blockN ?_
        | refine E_blockR ?_ | refine E_blockX ?_ | refine E_blockO rfl ?_ | refine qs rfl rfl rfl rfl rfl rfl ?_
        | ((try refine qg rfl rfl rfl ?_); first | refine qv rfl (qp rfl) rfl rfl ?_ | refine qv rfl (rr_load1 TyC.ty rfl (at_blk (i := 0) rfl rfl)) rfl rfl ?_ | refine qv rfl (rr_add64 (r := ((T + 1 : Nat) : Int)) rfl rfl (by omega) (by omega) (by omega)) rfl rfl ?_ | refine qv rfl (qlen Und.eq rfl) rfl rfl ?_ | refine qv rfl (qfld FldC.fld rfl rfl) rfl rfl ?_ | refine qv rfl (rr_lss rfl rfl (qT (by omega))) rfl rfl ?_ | refine qv rfl (rr_lss rfl rfl (qF (by omega))) rfl rfl ?_ | refine qv rfl (rr_neq rfl rfl (qT (by omega))) rfl rfl ?_ | refine qv rfl (rr_neq rfl rfl (qF (by omega))) rfl rfl ?_ | refine qv rfl (rr_add64 rfl rfl (by omega) (by omega) rfl) rfl rfl ?_ | refine qv rfl (rr_eql rfl rfl (qT (by omega))) rfl rfl ?_ | refine qv rfl (rr_eql rfl rfl (qF (by omega))) rfl rfl ?_))
      refine T_loop (ι := Nat × (Nat → Value) × Value) (fun (c, _, _) => c ≤ T + 1) (fun (c, _, vo) => [(1, .pointer (some ⟨g1, 0, none⟩)), (7, .slice (some ⟨g7, 0, none⟩) prods.length prods.length), (10, .slice (some ⟨g10, 0, none⟩) N N), (11, vo), (12, .int .i64 (n : Int)), (58, .int .i64 (N : Int)), (59, .int .i64 (n : Int)), (64, .int .i64 ((T + 1 : Nat) : Int)), (65, .int .i64 (c : Int))])
        (fun (c, vs, vo) => [blkO g1 (graV (T : Int) (N : Int) (.slice bp prods.length cp)).cells 24, rowA 81 bitV g7 prods.length may, rowA 25 vals g10 N vs, famP (fun j => j < N) (rowsF prods may T vs n c), rowO 86 4 vo (colO prods may T n c (rowO' prods may T n)).length ((colO prods may T n c (rowO' prods may T n)).flatMap clC)]) (fun (c, _, _) => T + 1 - c) (0, vs, vo) (Nat.zero_le _) (by repeat' (first | exact True.intro | refine And.intro rfl ?_)) rfl ?_
      rintro ⟨c, vs, vo⟩ cc
      dsimp only at cc ⊢
      by_cases c9 : c < T + 1
      · have hlen0 := colO_len (l := prods) (may := may) (T := T) n c (rowO' prods may T n)
        have hlen1 := rowO_len (l := prods) (may := may) (T := T) n
        have hm1 : c * prods.length ≤ 31 * 40 := Nat.mul_le_mul (by omega) a5
        have hm2 : (T + 1) * prods.length ≤ 31 * 40 := Nat.mul_le_mul (by omega) a5
        have hm3 : n * ((T + 1) * prods.length) ≤ 20 * (31 * 40) := Nat.mul_le_mul (by omega) hm2
        have hr27 : rowO' prods may T (n + 1) = colO prods may T n (T + 1) (rowO' prods may T n) := rfl
        have hc27 : colO prods may T n (c + 1) (rowO' prods may T n) = outL prods may T n c prods.length (colO prods may T n c (rowO' prods may T n)) := rfl
        have hbc : bitC T c < 18446744073709551616 := by
          unfold bitC
          split
          · decide
          · exact Nat.lt_of_le_of_lt (Nat.pow_le_pow_right (by decide) (show c ≤ 30 by omega)) (by decide)
        have hbit := fun w => bit_calls T (N : Int) (.slice bp prods.length cp) c w (by omega) (by omega) ⟨_, _, _, rfl⟩
        generalize colO prods may T n c (rowO' prods may T n) = out0 at *
        repeat (first
          | refine qv rfl (qp rfl) rfl rfl ?_ | refine TL_nil ?_ | refine T_seq ?_ | refine T_region ?_ | refine qcT rfl ?_ | refine qcF rfl ?_ | refine T_skip ?_
          | refine T_exit ?_ | refine T_ret ?_ | refine T_block ?_ | refine E_then ?_ | refine E_thenX ?_ | refine E_thenR ?_ | refine E_blockN ?_
          | refine E_blockR ?_ | refine E_blockX ?_ | refine E_blockO rfl ?_ | refine qs rfl rfl rfl rfl rfl rfl ?_
          | ((try refine qg rfl rfl rfl ?_); first | refine qv rfl (qp rfl) rfl rfl ?_ | refine qv rfl (rr_load1 TyC.ty rfl (at_blk (i := 0) rfl rfl)) rfl rfl ?_ | refine qv rfl (qlen Und.eq rfl) rfl rfl ?_ | refine qv rfl (qfld FldC.fld rfl rfl) rfl rfl ?_ | refine qv rfl (rr_lss rfl rfl (qT (by omega))) rfl rfl ?_ | refine qv rfl (rr_lss rfl rfl (qF (by omega))) rfl rfl ?_ | refine qv rfl (rr_neq rfl rfl (qT (by omega))) rfl rfl ?_ | refine qv rfl (rr_neq rfl rfl (qF (by omega))) rfl rfl ?_ | refine qv rfl (rr_add64 rfl rfl (by omega) (by omega) rfl) rfl rfl ?_ | refine qv rfl (rr_eql rfl rfl (qT (by omega))) rfl rfl ?_ | refine qv rfl (rr_eql rfl rfl (qF (by omega))) rfl rfl ?_))
        refine T_loop (ι := Nat × Value) (fun (k, _) => k ≤ prods.length) (fun (k, vo) => [(1, .pointer (some ⟨g1, 0, none⟩)), (7, .slice (some ⟨g7, 0, none⟩) prods.length prods.length), (10, .slice (some ⟨g10, 0, none⟩) N N), (11, vo), (12, .int .i64 (n : Int)), (13, .int .i64 (c : Int)), (14, .int .i64 (firstL prods may T n c k)), (58, .int .i64 (N : Int)), (59, .int .i64 (n : Int)), (64, .int .i64 ((T + 1 : Nat) : Int)), (65, .int .i64 (c : Int)), (69, .slice bp prods.length cp), (70, .int .i64 prods.length), (71, .int .i64 (k : Int))])
          (fun (k, vo) => [blkO g1 (graV (T : Int) (N : Int) (.slice bp prods.length cp)).cells 24, rowA 81 bitV g7 prods.length may, rowA 25 vals g10 N vs, famP (fun j => j < N) (rowsF prods may T vs n c), rowO 86 4 vo (outL prods may T n c k out0).length ((outL prods may T n c k out0).flatMap clC)]) (fun (k, _) => prods.length - k) (0, vo) (Nat.zero_le _) (by repeat' (first | exact True.intro | refine And.intro rfl ?_)) rfl ?_
        rintro ⟨k, vo⟩ kk
        dsimp only at kk ⊢
        by_cases ck : k < prods.length
        · obtain ⟨b, off, rfl, _, hr⟩ := hrp (by omega)
          obtain ⟨bb, cb, y1, y2, y3⟩ := prod_at hr ck
          have hat : ∀ (L : List Own) (j : Nat) (v : Value), ([.int .i64 prods[k].1, .slice bb prods[k].2.length cb] : List Value)[j]? = some v → At w L ⟨b, off + k * 2 + j, none⟩ v := fun L j v hj => at_old (y1 j v hj)
          have hol := outL_len (l := prods) (may := may) (T := T) n c k out0
          have hf : firstL prods may T n c (k + 1) = if firstL prods may T n c k < 0 then (if candL prods may T n c k = true then (k : Int) else firstL prods may T n c k) else firstL prods may T n c k := rfl
          have ho : outL prods may T n c (k + 1) out0 = if candL prods may T n c k = true then (if firstL prods may T n c k < 0 then outL prods may T n c k out0 else outL prods may T n c k out0 ++ [((n : Int), (c : Int), firstL prods may T n c k, (k : Int))]) else outL prods may T n c k out0 := rfl
          have hcd : candL prods may T n c k = (decide (prods[k].1 = (n : Int)) && !decide ((may k &&& bitC T c) = 0)) := by unfold candL; rw [prodAt_get ck]
          have hand := bits_andN (hmlt k) hbc
          have hfk := first_ge (l := prods) (may := may) (T := T) n c k
          clear y1 y3 hr hrp
          generalize prods[k] = pd at *
          obtain ⟨hd, body⟩ := pd
          dsimp only at *
          generalize hzz : may k &&& bitC T c = z at *
          generalize firstL prods may T n c k = fk at *
          generalize outL prods may T n c k out0 = ok at *
          repeat (first
            | refine qv rfl (qp rfl) rfl rfl ?_ | refine TL_nil ?_ | refine T_seq ?_ | refine T_region ?_ | refine qcT rfl ?_ | refine qcF rfl ?_ | refine T_skip ?_
            | refine T_exit ?_ | refine T_ret ?_ | refine T_block ?_ | refine E_then ?_ | refine E_thenX ?_ | refine E_thenR ?_ | refine E_blockN ?_
            | refine E_blockR ?_ | refine E_blockX ?_ | refine E_blockO rfl ?_ | refine qs rfl rfl rfl rfl rfl rfl ?_
            | ((try refine qg rfl rfl rfl ?_); first | refine qv rfl (qp rfl) rfl rfl ?_ | refine qv rfl (rr_idxc Und.eq TyC.ty rfl rfl ck) rfl rfl ?_ | refine qv rfl (rr_loadN TyC.ty rfl rfl (hat _)) rfl rfl ?_ | refine qv rfl (qlen Und.eq rfl) rfl rfl ?_ | refine qv rfl (qfld FldC.fld rfl rfl) rfl rfl ?_ | refine qv rfl (rr_lss rfl rfl (qT (by omega))) rfl rfl ?_ | refine qv rfl (rr_lss rfl rfl (qF (by omega))) rfl rfl ?_ | refine qv rfl (rr_neq rfl rfl (qT (by omega))) rfl rfl ?_ | refine qv rfl (rr_neq rfl rfl (qF (by omega))) rfl rfl ?_ | refine qv rfl (rr_add64 rfl rfl (by omega) (by omega) rfl) rfl rfl ?_ | refine qv rfl (rr_eql rfl rfl (qT (by omega))) rfl rfl ?_ | refine qv rfl (rr_eql rfl rfl (qF (by omega))) rfl rfl ?_))
          refine TL_new rfl fun g16 => ?_
          repeat (first
            | refine qv rfl (qp rfl) rfl rfl ?_ | refine TL_nil ?_ | refine T_seq ?_ | refine T_region ?_ | refine qcT rfl ?_ | refine qcF rfl ?_ | refine T_skip ?_
            | refine T_exit ?_ | refine T_ret ?_ | refine T_block ?_ | refine E_then ?_ | refine E_thenX ?_ | refine E_thenR ?_ | refine E_blockN ?_
            | refine E_blockR ?_ | refine E_blockX ?_ | refine E_blockO rfl ?_ | refine qs rfl rfl rfl rfl rfl rfl ?_
            | ((try refine qg rfl rfl rfl ?_); first | refine qv rfl (qp rfl) rfl rfl ?_ | refine qv rfl (qlen Und.eq rfl) rfl rfl ?_ | refine qv rfl (qfld FldC.fld rfl rfl) rfl rfl ?_ | refine qv rfl (rr_lss rfl rfl (qT (by omega))) rfl rfl ?_ | refine qv rfl (rr_lss rfl rfl (qF (by omega))) rfl rfl ?_ | refine qv rfl (rr_neq rfl rfl (qT (by omega))) rfl rfl ?_ | refine qv rfl (rr_neq rfl rfl (qF (by omega))) rfl rfl ?_ | refine qv rfl (rr_add64 rfl rfl (by omega) (by omega) rfl) rfl rfl ?_ | refine qv rfl (rr_eql rfl rfl (qT (by omega))) rfl rfl ?_ | refine qv rfl (rr_eql rfl rfl (qF (by omega))) rfl rfl ?_))
          refine TL_storeB (i := 5) rfl rfl rfl rfl rfl rfl ?_
          conv => arg 8; simp only [zA, zB, zC, zD, zE, zF, zG, zH, zI, rowS, ret, id_eq]
          repeat (first
            | refine qv rfl (qp rfl) rfl rfl ?_ | refine TL_nil ?_ | refine T_seq ?_ | refine T_region ?_ | refine qcT rfl ?_ | refine qcF rfl ?_ | refine T_skip ?_
            | refine T_exit ?_ | refine T_ret ?_ | refine T_block ?_ | refine E_then ?_ | refine E_thenX ?_ | refine E_thenR ?_ | refine E_blockN ?_
            | refine E_blockR ?_ | refine E_blockX ?_ | refine E_blockO rfl ?_ | refine qs rfl rfl rfl rfl rfl rfl ?_
            | ((try refine qg rfl rfl rfl ?_); first | refine qv rfl (qp rfl) rfl rfl ?_ | refine qv rfl (qlen Und.eq rfl) rfl rfl ?_ | refine qv rfl (qfld FldC.fld rfl rfl) rfl rfl ?_ | refine qv rfl (rr_lss rfl rfl (qT (by omega))) rfl rfl ?_ | refine qv rfl (rr_lss rfl rfl (qF (by omega))) rfl rfl ?_ | refine qv rfl (rr_neq rfl rfl (qT (by omega))) rfl rfl ?_ | refine qv rfl (rr_neq rfl rfl (qF (by omega))) rfl rfl ?_ | refine qv rfl (rr_add64 rfl rfl (by omega) (by omega) rfl) rfl rfl ?_ | refine qv rfl (rr_eql rfl rfl (qT (by omega))) rfl rfl ?_ | refine qv rfl (rr_eql rfl rfl (qF (by omega))) rfl rfl ?_))
          refine T_ord ([blkO g1 (graV (T : Int) (N : Int) (.slice (some ⟨b, off, none⟩) prods.length cp)).cells 24, rowA 81 bitV g7 prods.length may, blkO g16 #[.int .i64 hd, .slice bb body.length cb] 46]) (.calm 0 (.calm 1 (.calm 2 (.calm 3 (.calm 4 (.calm 5 (.calm 6 (.calm 7 (.calm 8 (.calm 9 (.calm 10 (.calm 11 (.calm 12 (.calm 13 (.calm 14 (.calm 15 (.done))))))))))))))))) (sub_pick [0, 1, 5] (by decide) rfl) (by kernel_rfl) (by kernel_rfl) (by intro c a d v w h; cases d <;> exact h) ?_
          by_cases e1 : hd = (n : Int)
          · by_cases e2 : z = 0
            · rw [decide_eq_true e1, decide_eq_true e2] at hcd
              rw [hcd] at hf ho
              simp only [Bool.not_true, Bool.and_false, Bool.false_eq_true, if_false, ite_self] at hf ho
              repeat (first
                | ((first | refine TW_plain rfl rfl ?_ | refine TW_gmet rfl rfl rfl rfl ?_); first | refine TN_val (qp rfl) rfl rfl ?_ | refine TN_val (rr_load1 TyC.ty rfl (at_blk (i := 2) rfl rfl)) rfl rfl ?_ | refine TN_val (rr_idx1 Und.eq TyC.ty rfl rfl ck) rfl rfl ?_ | refine TN_val (rr_load1 TyC.ty rfl (at_rowA (i := 1) rfl ck)) rfl rfl ?_ | refine TN_val (rr_loadB (i := 0) TyC.ty rfl rfl rfl) rfl rfl ?_ | refine TN_val (qlen Und.eq rfl) rfl rfl ?_ | refine TN_val (qfld FldC.fld rfl rfl) rfl rfl ?_ | refine TN_val (rr_lss rfl rfl (qT (by omega))) rfl rfl ?_ | refine TN_val (rr_lss rfl rfl (qF (by omega))) rfl rfl ?_ | refine TN_val (rr_neq rfl rfl (qT (by omega))) rfl rfl ?_ | refine TN_val (rr_neq rfl rfl (qF (by omega))) rfl rfl ?_ | refine TN_val (rr_add64 rfl rfl (by omega) (by omega) rfl) rfl rfl ?_ | refine TN_val (rr_eql rfl rfl (qT (by omega))) rfl rfl ?_ | refine TN_val (rr_eql rfl rfl (qF (by omega))) rfl rfl ?_)
                | refine TW_skip rfl rfl rfl rfl rfl rfl rfl ?_ | refine TW_done ?_)
              refine TW_gcall rfl (he2 EntersC.en rfl rfl rfl) (fun w hm => hbit _) rfl rfl rfl rfl rfl ?_
              repeat (first
                | ((first | refine TW_plain rfl rfl ?_ | refine TW_gmet rfl rfl rfl rfl ?_); first | refine TN_val (qp rfl) rfl rfl ?_ | refine TN_val (qlen Und.eq rfl) rfl rfl ?_ | refine TN_val (qfld FldC.fld rfl rfl) rfl rfl ?_ | refine TN_val (rr_lss rfl rfl (qT (by omega))) rfl rfl ?_ | refine TN_val (rr_lss rfl rfl (qF (by omega))) rfl rfl ?_ | refine TN_val (rr_neq rfl rfl (qT (by omega))) rfl rfl ?_ | refine TN_val (rr_neq rfl rfl (qF (by omega))) rfl rfl ?_ | refine TN_val (rr_add64 rfl rfl (by omega) (by omega) rfl) rfl rfl ?_ | refine TN_val (rr_and rfl rfl hand) rfl rfl ?_ | refine TN_val (rr_eql rfl rfl (qT (by omega))) rfl rfl ?_ | refine TN_val (rr_eql rfl rfl (qF (by omega))) rfl rfl ?_)
                | refine TW_skip rfl rfl rfl rfl rfl rfl rfl ?_ | refine TW_done ?_)
              repeat (first
                | refine qv rfl (qp rfl) rfl rfl ?_ | refine TL_nil ?_ | refine T_seq ?_ | refine T_region ?_ | refine qcT rfl ?_ | refine qcF rfl ?_ | refine T_skip ?_
                | refine T_exit ?_ | refine T_ret ?_ | refine T_block ?_ | refine E_then ?_ | refine E_thenX ?_ | refine E_thenR ?_ | refine E_blockN ?_
                | refine E_blockR ?_ | refine E_blockX ?_ | refine E_blockO rfl ?_ | refine qs rfl rfl rfl rfl rfl rfl ?_
                | ((try refine qg rfl rfl rfl ?_); first | refine qv rfl (qp rfl) rfl rfl ?_ | refine qv rfl (qlen Und.eq rfl) rfl rfl ?_ | refine qv rfl (qfld FldC.fld rfl rfl) rfl rfl ?_ | refine qv rfl (rr_lss rfl rfl (qT (by omega))) rfl rfl ?_ | refine qv rfl (rr_lss rfl rfl (qF (by omega))) rfl rfl ?_ | refine qv rfl (rr_neq rfl rfl (qT (by omega))) rfl rfl ?_ | refine qv rfl (rr_neq rfl rfl (qF (by omega))) rfl rfl ?_ | refine qv rfl (rr_add64 rfl rfl (by omega) (by omega) rfl) rfl rfl ?_ | refine qv rfl (rr_eql rfl rfl (qT (by omega))) rfl rfl ?_ | refine qv rfl (rr_eql rfl rfl (qF (by omega))) rfl rfl ?_))
              refine E_pick [0, 1, 2, 3, 4] (by decide) rfl ?_
              exact E_round (k + 1, vo) (by show k + 1 ≤ prods.length; omega) (by show prods.length - (k + 1) < prods.length - k; omega) (by dsimp only; rw [hf]; repeat' (first | exact True.intro | refine And.intro rfl ?_)) (by dsimp only; rw [ho]; rfl)
            · rw [decide_eq_true e1, decide_eq_false e2] at hcd
              rw [hcd] at hf ho
              simp only [Bool.not_false, Bool.and_true, if_true] at hf ho
              repeat (first
                | ((first | refine TW_plain rfl rfl ?_ | refine TW_gmet rfl rfl rfl rfl ?_); first | refine TN_val (qp rfl) rfl rfl ?_ | refine TN_val (rr_load1 TyC.ty rfl (at_blk (i := 2) rfl rfl)) rfl rfl ?_ | refine TN_val (rr_idx1 Und.eq TyC.ty rfl rfl ck) rfl rfl ?_ | refine TN_val (rr_load1 TyC.ty rfl (at_rowA (i := 1) rfl ck)) rfl rfl ?_ | refine TN_val (rr_loadB (i := 0) TyC.ty rfl rfl rfl) rfl rfl ?_ | refine TN_val (qlen Und.eq rfl) rfl rfl ?_ | refine TN_val (qfld FldC.fld rfl rfl) rfl rfl ?_ | refine TN_val (rr_lss rfl rfl (qT (by omega))) rfl rfl ?_ | refine TN_val (rr_lss rfl rfl (qF (by omega))) rfl rfl ?_ | refine TN_val (rr_neq rfl rfl (qT (by omega))) rfl rfl ?_ | refine TN_val (rr_neq rfl rfl (qF (by omega))) rfl rfl ?_ | refine TN_val (rr_add64 rfl rfl (by omega) (by omega) rfl) rfl rfl ?_ | refine TN_val (rr_eql rfl rfl (qT (by omega))) rfl rfl ?_ | refine TN_val (rr_eql rfl rfl (qF (by omega))) rfl rfl ?_)
                | refine TW_skip rfl rfl rfl rfl rfl rfl rfl ?_ | refine TW_done ?_)
              refine TW_gcall rfl (he2 EntersC.en rfl rfl rfl) (fun w hm => hbit _) rfl rfl rfl rfl rfl ?_
              repeat (first
                | ((first | refine TW_plain rfl rfl ?_ | refine TW_gmet rfl rfl rfl rfl ?_); first | refine TN_val (qp rfl) rfl rfl ?_ | refine TN_val (qlen Und.eq rfl) rfl rfl ?_ | refine TN_val (qfld FldC.fld rfl rfl) rfl rfl ?_ | refine TN_val (rr_lss rfl rfl (qT (by omega))) rfl rfl ?_ | refine TN_val (rr_lss rfl rfl (qF (by omega))) rfl rfl ?_ | refine TN_val (rr_neq rfl rfl (qT (by omega))) rfl rfl ?_ | refine TN_val (rr_neq rfl rfl (qF (by omega))) rfl rfl ?_ | refine TN_val (rr_add64 rfl rfl (by omega) (by omega) rfl) rfl rfl ?_ | refine TN_val (rr_and rfl rfl hand) rfl rfl ?_ | refine TN_val (rr_eql rfl rfl (qT (by omega))) rfl rfl ?_ | refine TN_val (rr_eql rfl rfl (qF (by omega))) rfl rfl ?_)
                | refine TW_skip rfl rfl rfl rfl rfl rfl rfl ?_ | refine TW_done ?_)
              by_cases e3 : fk < 0
              · rw [if_pos e3] at hf ho
                repeat (first
                  | refine qv rfl (qp rfl) rfl rfl ?_ | refine TL_nil ?_ | refine T_seq ?_ | refine T_region ?_ | refine qcT rfl ?_ | refine qcF rfl ?_ | refine T_skip ?_
                  | refine T_exit ?_ | refine T_ret ?_ | refine T_block ?_ | refine E_then ?_ | refine E_thenX ?_ | refine E_thenR ?_ | refine E_blockN ?_
                  | refine E_blockR ?_ | refine E_blockX ?_ | refine E_blockO rfl ?_ | refine qs rfl rfl rfl rfl rfl rfl ?_
                  | ((try refine qg rfl rfl rfl ?_); first | refine qv rfl (qp rfl) rfl rfl ?_ | refine qv rfl (qlen Und.eq rfl) rfl rfl ?_ | refine qv rfl (qfld FldC.fld rfl rfl) rfl rfl ?_ | refine qv rfl (rr_lss rfl rfl (qT (by omega))) rfl rfl ?_ | refine qv rfl (rr_lss rfl rfl (qF (by omega))) rfl rfl ?_ | refine qv rfl (rr_neq rfl rfl (qT (by omega))) rfl rfl ?_ | refine qv rfl (rr_neq rfl rfl (qF (by omega))) rfl rfl ?_ | refine qv rfl (rr_add64 rfl rfl (by omega) (by omega) rfl) rfl rfl ?_ | refine qv rfl (rr_eql rfl rfl (qT (by omega))) rfl rfl ?_ | refine qv rfl (rr_eql rfl rfl (qF (by omega))) rfl rfl ?_))
                refine E_pick [0, 1, 2, 3, 4] (by decide) rfl ?_
                exact E_round (k + 1, vo) (by show k + 1 ≤ prods.length; omega) (by show prods.length - (k + 1) < prods.length - k; omega) (by dsimp only; rw [hf]; repeat' (first | exact True.intro | refine And.intro rfl ?_)) (by dsimp only; rw [ho]; rfl)
              · rw [if_neg e3] at hf ho
                repeat (first
                  | refine qv rfl (qp rfl) rfl rfl ?_ | refine TL_nil ?_ | refine T_seq ?_ | refine T_region ?_ | refine qcT rfl ?_ | refine qcF rfl ?_ | refine T_skip ?_
                  | refine T_exit ?_ | refine T_ret ?_ | refine T_block ?_ | refine E_then ?_ | refine E_thenX ?_ | refine E_thenR ?_ | refine E_blockN ?_
                  | refine E_blockR ?_ | refine E_blockX ?_ | refine E_blockO rfl ?_ | refine qs rfl rfl rfl rfl rfl rfl ?_
                  | ((try refine qg rfl rfl rfl ?_); first | refine qv rfl (qp rfl) rfl rfl ?_ | refine qv rfl (rr_build rfl (build_cl _ _ _ _)) rfl rfl ?_ | refine qv rfl (qlen Und.eq rfl) rfl rfl ?_ | refine qv rfl (qfld FldC.fld rfl rfl) rfl rfl ?_ | refine qv rfl (rr_lss rfl rfl (qT (by omega))) rfl rfl ?_ | refine qv rfl (rr_lss rfl rfl (qF (by omega))) rfl rfl ?_ | refine qv rfl (rr_neq rfl rfl (qT (by omega))) rfl rfl ?_ | refine qv rfl (rr_neq rfl rfl (qF (by omega))) rfl rfl ?_ | refine qv rfl (rr_add64 rfl rfl (by omega) (by omega) rfl) rfl rfl ?_ | refine qv rfl (rr_eql rfl rfl (qT (by omega))) rfl rfl ?_ | refine qv rfl (rr_eql rfl rfl (qF (by omega))) rfl rfl ?_))
                refine TL_pushN (i := 4) rfl rfl rfl rfl rfl rfl rfl (fun z h => by cases h; rfl) (by omega) (by omega) rfl fun z' v2 => ?_
                conv => arg 8; simp only [zA, zB, zC, zD, zE, zF, zG, zH, zI, rowS, ret, id_eq]
                repeat (first
                  | refine qv rfl (qp rfl) rfl rfl ?_ | refine TL_nil ?_ | refine T_seq ?_ | refine T_region ?_ | refine qcT rfl ?_ | refine qcF rfl ?_ | refine T_skip ?_
                  | refine T_exit ?_ | refine T_ret ?_ | refine T_block ?_ | refine E_then ?_ | refine E_thenX ?_ | refine E_thenR ?_ | refine E_blockN ?_
                  | refine E_blockR ?_ | refine E_blockX ?_ | refine E_blockO rfl ?_ | refine qs rfl rfl rfl rfl rfl rfl ?_
                  | ((try refine qg rfl rfl rfl ?_); first | refine qv rfl (qp rfl) rfl rfl ?_ | refine qv rfl (qlen Und.eq rfl) rfl rfl ?_ | refine qv rfl (qfld FldC.fld rfl rfl) rfl rfl ?_ | refine qv rfl (rr_lss rfl rfl (qT (by omega))) rfl rfl ?_ | refine qv rfl (rr_lss rfl rfl (qF (by omega))) rfl rfl ?_ | refine qv rfl (rr_neq rfl rfl (qT (by omega))) rfl rfl ?_ | refine qv rfl (rr_neq rfl rfl (qF (by omega))) rfl rfl ?_ | refine qv rfl (rr_add64 rfl rfl (by omega) (by omega) rfl) rfl rfl ?_ | refine qv rfl (rr_eql rfl rfl (qT (by omega))) rfl rfl ?_ | refine qv rfl (rr_eql rfl rfl (qF (by omega))) rfl rfl ?_))
                refine E_pick [0, 1, 2, 3, 4] (by decide) rfl ?_
                exact E_round (k + 1, v2) (by show k + 1 ≤ prods.length; omega) (by show prods.length - (k + 1) < prods.length - k; omega) (by dsimp only; rw [hf]; repeat' (first | exact True.intro | refine And.intro rfl ?_)) (by dsimp only; rw [ho, List.flatMap_append, List.length_append]; rfl)
          · rw [decide_eq_false e1] at hcd
            rw [hcd] at hf ho
            simp only [Bool.false_and, Bool.false_eq_true, if_false, ite_self] at hf ho
            repeat (first
              | ((first | refine TW_plain rfl rfl ?_ | refine TW_gmet rfl rfl rfl rfl ?_); first | refine TN_val (qp rfl) rfl rfl ?_ | refine TN_val (rr_load1 TyC.ty rfl (at_blk (i := 2) rfl rfl)) rfl rfl ?_ | refine TN_val (qlen Und.eq rfl) rfl rfl ?_ | refine TN_val (qfld FldC.fld rfl rfl) rfl rfl ?_ | refine TN_val (rr_lss rfl rfl (qT (by omega))) rfl rfl ?_ | refine TN_val (rr_lss rfl rfl (qF (by omega))) rfl rfl ?_ | refine TN_val (rr_neq rfl rfl (qT (by omega))) rfl rfl ?_ | refine TN_val (rr_neq rfl rfl (qF (by omega))) rfl rfl ?_ | refine TN_val (rr_add64 rfl rfl (by omega) (by omega) rfl) rfl rfl ?_ | refine TN_val (rr_eql rfl rfl (qT (by omega))) rfl rfl ?_ | refine TN_val (rr_eql rfl rfl (qF (by omega))) rfl rfl ?_)
              | refine TW_skip rfl rfl rfl rfl rfl rfl rfl ?_ | refine TW_done ?_)
            repeat (first
              | refine qv rfl (qp rfl) rfl rfl ?_ | refine TL_nil ?_ | refine T_seq ?_ | refine T_region ?_ | refine qcT rfl ?_ | refine qcF rfl ?_ | refine T_skip ?_
              | refine T_exit ?_ | refine T_ret ?_ | refine T_block ?_ | refine E_then ?_ | refine E_thenX ?_ | refine E_thenR ?_ | refine E_blockN ?_
              | refine E_blockR ?_ | refine E_blockX ?_ | refine E_blockO rfl ?_ | refine qs rfl rfl rfl rfl rfl rfl ?_
              | ((try refine qg rfl rfl rfl ?_); first | refine qv rfl (qp rfl) rfl rfl ?_ | refine qv rfl (qlen Und.eq rfl) rfl rfl ?_ | refine qv rfl (qfld FldC.fld rfl rfl) rfl rfl ?_ | refine qv rfl (rr_lss rfl rfl (qT (by omega))) rfl rfl ?_ | refine qv rfl (rr_lss rfl rfl (qF (by omega))) rfl rfl ?_ | refine qv rfl (rr_neq rfl rfl (qT (by omega))) rfl rfl ?_ | refine qv rfl (rr_neq rfl rfl (qF (by omega))) rfl rfl ?_ | refine qv rfl (rr_add64 rfl rfl (by omega) (by omega) rfl) rfl rfl ?_ | refine qv rfl (rr_eql rfl rfl (qT (by omega))) rfl rfl ?_ | refine qv rfl (rr_eql rfl rfl (qF (by omega))) rfl rfl ?_))
            refine E_pick [0, 1, 2, 3, 4] (by decide) rfl ?_
            exact E_round (k + 1, vo) (by show k + 1 ≤ prods.length; omega) (by show prods.length - (k + 1) < prods.length - k; omega) (by dsimp only; rw [hf]; repeat' (first | exact True.intro | refine And.intro rfl ?_)) (by dsimp only; rw [ho]; rfl)
        · obtain rfl : k = prods.length := by omega
          rw [← hc27]
          have hra : firstL prods may T n c prods.length = llL.rowAt prods may T n c := rfl
          rw [hra]
          clear hc27 hr27 hra
          have hcn : rowsF prods may T vs n c n = rowO 3 1 (vs n) c ((tabA c (llL.rowAt prods may T n)).map intV) := by
            unfold rowsF cntL
            rw [if_neg (Nat.lt_irrefl n), if_pos rfl]
          repeat (first
            | refine qv rfl (qp rfl) rfl rfl ?_ | refine TL_nil ?_ | refine T_seq ?_ | refine T_region ?_ | refine qcT rfl ?_ | refine qcF rfl ?_ | refine T_skip ?_
            | refine T_exit ?_ | refine T_ret ?_ | refine T_block ?_ | refine E_then ?_ | refine E_thenX ?_ | refine E_thenR ?_ | refine E_blockN ?_
            | refine E_blockR ?_ | refine E_blockX ?_ | refine E_blockO rfl ?_ | refine qs rfl rfl rfl rfl rfl rfl ?_
            | ((try refine qg rfl rfl rfl ?_); first | refine qv rfl (qp rfl) rfl rfl ?_ | refine qv rfl (rr_idx1 Und.eq TyC.ty rfl rfl c8) rfl rfl ?_ | refine qv rfl (rr_load1 TyC.ty rfl (at_rowA (i := 2) rfl c8)) rfl rfl ?_ | refine qv rfl (qlen Und.eq rfl) rfl rfl ?_ | refine qv rfl (qfld FldC.fld rfl rfl) rfl rfl ?_ | refine qv rfl (rr_lss rfl rfl (qT (by omega))) rfl rfl ?_ | refine qv rfl (rr_lss rfl rfl (qF (by omega))) rfl rfl ?_ | refine qv rfl (rr_neq rfl rfl (qT (by omega))) rfl rfl ?_ | refine qv rfl (rr_neq rfl rfl (qF (by omega))) rfl rfl ?_ | refine qv rfl (rr_add64 rfl rfl (by omega) (by omega) rfl) rfl rfl ?_ | refine qv rfl (rr_eql rfl rfl (qT (by omega))) rfl rfl ?_ | refine qv rfl (rr_eql rfl rfl (qF (by omega))) rfl rfl ?_))
          refine TL_take (q := 3) n rfl c8 ?_
          rw [hcn]
          conv => arg 8; simp only [zA, zB, zC, zD, zE, zF, zG, zH, zI, rowS, ret, id_eq]
          refine TL_litV [.int .i64 (llL.rowAt prods may T n c)] rfl rfl rfl (by intro v hv; simp at hv; subst hv; rfl) rfl rfl fun g112 => ?_
          conv => arg 8; simp only [zA, zB, zC, zD, zE, zF, zG, zH, zI, rowS, ret, id_eq]
          refine TL_app11 (i := 5) (q := 6) rfl rfl rfl rfl rfl rfl (by omega) (by omega) rfl fun v3 => ?_
          conv => arg 8; simp only [zA, zB, zC, zD, zE, zF, zG, zH, zI, rowS, ret, id_eq]
          refine TL_slv (i := 5) rfl fun hv1 hv2 => ?_
          repeat (first
            | refine qv rfl (qp rfl) rfl rfl ?_ | refine TL_nil ?_ | refine T_seq ?_ | refine T_region ?_ | refine qcT rfl ?_ | refine qcF rfl ?_ | refine T_skip ?_
            | refine T_exit ?_ | refine T_ret ?_ | refine T_block ?_ | refine E_then ?_ | refine E_thenX ?_ | refine E_thenR ?_ | refine E_blockN ?_
            | refine E_blockR ?_ | refine E_blockX ?_ | refine E_blockO rfl ?_ | refine qs rfl rfl rfl rfl rfl rfl ?_
            | ((try refine qg rfl rfl rfl ?_); first | refine qv rfl (qp rfl) rfl rfl ?_ | refine qv rfl (rr_idx1 Und.eq TyC.ty rfl rfl c8) rfl rfl ?_ | refine qv rfl (qlen Und.eq rfl) rfl rfl ?_ | refine qv rfl (qfld FldC.fld rfl rfl) rfl rfl ?_ | refine qv rfl (rr_lss rfl rfl (qT (by omega))) rfl rfl ?_ | refine qv rfl (rr_lss rfl rfl (qF (by omega))) rfl rfl ?_ | refine qv rfl (rr_neq rfl rfl (qT (by omega))) rfl rfl ?_ | refine qv rfl (rr_neq rfl rfl (qF (by omega))) rfl rfl ?_ | refine qv rfl (rr_add64 rfl rfl (by omega) (by omega) rfl) rfl rfl ?_ | refine qv rfl (rr_eql rfl rfl (qT (by omega))) rfl rfl ?_ | refine qv rfl (rr_eql rfl rfl (qF (by omega))) rfl rfl ?_))
          refine TL_storeA (i := 2) (v := v3) (fun j => if j = n then v3 else vs j) TyC.ty rfl rfl rfl hv1 hv2 c8 (fun j _ => rfl) ?_
          conv => arg 8; simp only [zA, zB, zC, zD, zE, zF, zG, zH, zI, rowS, ret, id_eq]
          refine TL_put (D' := fun j => j < N) (f' := rowsF prods may T (fun j => if j = n then v3 else vs j) n (c + 1)) n 3 5 [0, 1, 2, 4] (by decide) rfl rfl rfl (fun h => h.2 rfl) (fun j hj => by
            by_cases e : j = n
            · exact .inr e
            · exact .inl ⟨hj, e⟩) (fun j hj => by
            by_cases e : j = n
            · subst e
              rw [upd_eq]
              unfold rowsF cntL
              rw [if_neg (Nat.lt_irrefl j), if_pos rfl]
              dsimp only
              rw [if_pos rfl]
              congr 1
              unfold tabA
              rw [List.range_succ, List.map_append, List.map_append]; rfl
            · rw [upd_ne e]
              have : cntL T n (c + 1) j = cntL T n c j := by unfold cntL; rw [if_neg e, if_neg e]
              unfold rowsF
              rw [this]
              dsimp only
              rw [if_neg e]) ?_
          conv => arg 8; simp only [zA, zB, zC, zD, zE, zF, zG, zH, zI, rowS, ret, id_eq]
          refine TL_pick [0, 1, 2, 4, 3] (by decide) rfl ?_
          repeat (first
            | refine qv rfl (qp rfl) rfl rfl ?_ | refine TL_nil ?_ | refine T_seq ?_ | refine T_region ?_ | refine qcT rfl ?_ | refine qcF rfl ?_ | refine T_skip ?_
            | refine T_exit ?_ | refine T_ret ?_ | refine T_block ?_ | refine E_then ?_ | refine E_thenX ?_ | refine E_thenR ?_ | refine E_blockN ?_
            | refine E_blockR ?_ | refine E_blockX ?_ | refine E_blockO rfl ?_ | refine qs rfl rfl rfl rfl rfl rfl ?_
            | ((try refine qg rfl rfl rfl ?_); first | refine qv rfl (qp rfl) rfl rfl ?_ | refine qv rfl (qlen Und.eq rfl) rfl rfl ?_ | refine qv rfl (qfld FldC.fld rfl rfl) rfl rfl ?_ | refine qv rfl (rr_lss rfl rfl (qT (by omega))) rfl rfl ?_ | refine qv rfl (rr_lss rfl rfl (qF (by omega))) rfl rfl ?_ | refine qv rfl (rr_neq rfl rfl (qT (by omega))) rfl rfl ?_ | refine qv rfl (rr_neq rfl rfl (qF (by omega))) rfl rfl ?_ | refine qv rfl (rr_add64 rfl rfl (by omega) (by omega) rfl) rfl rfl ?_ | refine qv rfl (rr_eql rfl rfl (qT (by omega))) rfl rfl ?_ | refine qv rfl (rr_eql rfl rfl (qF (by omega))) rfl rfl ?_))
          exact E_round (c + 1, fun j => if j = n then v3 else vs j, vo) (by show c + 1 ≤ T + 1; omega) (by show T + 1 - (c + 1) < T + 1 - c; omega) (by repeat' (first | exact True.intro | refine And.intro rfl ?_)) rfl
      · obtain rfl : c = T + 1 := by omega
        have hfun : rowsF prods may T vs n (T + 1) = rowsF prods may T vs (n + 1) 0 := funext fun j => by
          have : cntL T n (T + 1) j = cntL T (n + 1) 0 j := by
            unfold cntL
            by_cases e : j < n
            · rw [if_pos e, if_pos (by omega)]
            · rw [if_neg e]
              by_cases e2 : j = n
              · rw [if_pos e2, if_pos (by omega)]
              · rw [if_neg e2, if_neg (by omega), ite_self]
          unfold rowsF
          rw [this]
        repeat (first
          | refine qv rfl (qp rfl) rfl rfl ?_ | refine TL_nil ?_ | refine T_seq ?_ | refine T_region ?_ | refine qcT rfl ?_ | refine qcF rfl ?_ | refine T_skip ?_
          | refine T_exit ?_ | refine T_ret ?_ | refine T_block ?_ | refine E_then ?_ | refine E_thenX ?_ | refine E_thenR ?_ | refine E_blockN ?_
          | refine E_blockR ?_ | refine E_blockX ?_ | refine E_blockO rfl ?_ | refine qs rfl rfl rfl rfl rfl rfl ?_
          | ((try refine qg rfl rfl rfl ?_); first | refine qv rfl (qp rfl) rfl rfl ?_ | refine qv rfl (qlen Und.eq rfl) rfl rfl ?_ | refine qv rfl (qfld FldC.fld rfl rfl) rfl rfl ?_ | refine qv rfl (rr_lss rfl rfl (qT (by omega))) rfl rfl ?_ | refine qv rfl (rr_lss rfl rfl (qF (by omega))) rfl rfl ?_ | refine qv rfl (rr_neq rfl rfl (qT (by omega))) rfl rfl ?_ | refine qv rfl (rr_neq rfl rfl (qF (by omega))) rfl rfl ?_ | refine qv rfl (rr_add64 rfl rfl (by omega) (by omega) rfl) rfl rfl ?_ | refine qv rfl (rr_eql rfl rfl (qT (by omega))) rfl rfl ?_ | refine qv rfl (rr_eql rfl rfl (qF (by omega))) rfl rfl ?_))
        exact E_round (n + 1, vs, vo) (by show n + 1 ≤ N; omega) (by show N - (n + 1) < N - n; omega) (by repeat' (first | exact True.intro | refine And.intro rfl ?_)) (by rw [hfun]; rfl)
    · obtain rfl : n = N := by omega
      repeat (first
        | refine qv rfl (qp rfl) rfl rfl ?_ | refine TL_nil ?_ | refine T_seq ?_ | refine T_region ?_ | refine qcT rfl ?_ | refine qcF rfl ?_ | refine T_skip ?_
        | refine T_exit ?_ | refine T_ret ?_ | refine T_block ?_ | refine E_then ?_ | refine E_thenX ?_ | refine E_thenR ?_ | refine E_blockN ?_
        | refine E_blockR ?_ | refine E_blockX ?_ | refine E_blockO rfl ?_ | refine qs rfl rfl rfl rfl rfl rfl ?_
        | ((try refine qg rfl rfl rfl ?_); first | refine qv rfl (qp rfl) rfl rfl ?_ | refine qv rfl (qlen Und.eq rfl) rfl rfl ?_ | refine qv rfl (qfld FldC.fld rfl rfl) rfl rfl ?_ | refine qv rfl (rr_lss rfl rfl (qT (by omega))) rfl rfl ?_ | refine qv rfl (rr_lss rfl rfl (qF (by omega))) rfl rfl ?_ | refine qv rfl (rr_neq rfl rfl (qT (by omega))) rfl rfl ?_ | refine qv rfl (rr_neq rfl rfl (qF (by omega))) rfl rfl ?_ | refine qv rfl (rr_add64 rfl rfl (by omega) (by omega) rfl) rfl rfl ?_ | refine qv rfl (rr_eql rfl rfl (qT (by omega))) rfl rfl ?_ | refine qv rfl (rr_eql rfl rfl (qF (by omega))) rfl rfl ?_))
      exact E_ret3 rfl rfl rfl rfl fun w hm => hm.meets (S := makeS n T prods may) (g10, vs, vo) trivial [2, 3, 4] (by decide) rfl
end Go.Proofs.Ytkkiopmdcolobaa.eng

/- LlN -/
namespace Go.Proofs.Ytkkiopmdcolobaa.eng
open Go.RowKit kit mix gramL treeL countL factsL derL llL
theorem makeE_calls (v : Value) (g : Gram) (w : World) (h : GraR (fun k => k < w.heap.size) w v g) (hg : checkG g ≠ 0) :
    Calls Try.prog 11 #[v] w (Meets (ret (.tuple #[.slice none 0 0, .slice none 0 0, .int .i64 (checkG g)])) w) := by
  have hof := fun w' (hg' : Gr w w') => ofE_calls v g w' (h.gr hg') hg
  obtain ⟨vp, rfl, h1, _⟩ := h
  generalize checkG g = e at *
  refine enter (args := [graV g.terms g.nons vp]) (n := 119) Try.func11 rfl rfl rfl ?_
  refine T_seq (T_region (TL_box rfl rfl rfl fun g1 => ?_))
  conv => arg 8; simp only [zA, zB, zC, zD, zE, zF, zG, zH, zI, rowS, ret, id_eq]
  repeat (first
    | refine qv rfl (qp rfl) rfl rfl ?_ | refine TL_nil ?_ | refine T_seq ?_ | refine T_region ?_ | refine qcT rfl ?_ | refine qcF rfl ?_ | refine T_skip ?_
    | refine T_exit ?_ | refine T_ret ?_ | refine T_block ?_ | refine E_then ?_ | refine E_thenX ?_ | refine E_thenR ?_ | refine E_blockN ?_
    | refine E_blockR ?_ | refine E_blockX ?_ | refine E_blockO rfl ?_ | refine qs rfl rfl rfl rfl rfl rfl ?_
    | ((try refine qg rfl rfl rfl ?_); first | refine qv rfl (qp rfl) rfl rfl ?_ | refine qv rfl (rr_loadB (i := 0) TyC.ty rfl rfl rfl) rfl rfl ?_ | refine qv rfl (qlen Und.eq rfl) rfl rfl ?_ | refine qv rfl (qfld FldC.fld rfl rfl) rfl rfl ?_ | refine qv rfl (rr_lss rfl rfl (qT (by omega))) rfl rfl ?_ | refine qv rfl (rr_lss rfl rfl (qF (by omega))) rfl rfl ?_ | refine qv rfl (rr_neq rfl rfl (qT (by omega))) rfl rfl ?_ | refine qv rfl (rr_neq rfl rfl (qF (by omega))) rfl rfl ?_ | refine qv rfl (rr_add64 rfl rfl (by omega) (by omega) rfl) rfl rfl ?_ | refine qv rfl (rr_eql rfl rfl (qT (by omega))) rfl rfl ?_ | refine qv rfl (rr_eql rfl rfl (qF (by omega))) rfl rfl ?_))
  refine TL_call (he1 EntersC.en rfl rfl) (fun w hm => hof _ hm.below) rfl rfl rfl ?_
  intro _ _
  conv => arg 8; simp only [zA, zB, zC, zD, zE, zF, zG, zH, zI, rowS, ret, id_eq]
  repeat (first
    | refine qv rfl (qp rfl) rfl rfl ?_ | refine TL_nil ?_ | refine T_seq ?_ | refine T_region ?_ | refine qcT rfl ?_ | refine qcF rfl ?_ | refine T_skip ?_
    | refine T_exit ?_ | refine T_ret ?_ | refine T_block ?_ | refine E_then ?_ | refine E_thenX ?_ | refine E_thenR ?_ | refine E_blockN ?_
    | refine E_blockR ?_ | refine E_blockX ?_ | refine E_blockO rfl ?_ | refine qs rfl rfl rfl rfl rfl rfl ?_
    | ((try refine qg rfl rfl rfl ?_); first | refine qv rfl (qp rfl) rfl rfl ?_ | refine qv rfl (qlen Und.eq rfl) rfl rfl ?_ | refine qv rfl (qfld FldC.fld rfl rfl) rfl rfl ?_ | refine qv rfl (rr_lss rfl rfl (qT (by omega))) rfl rfl ?_ | refine qv rfl (rr_lss rfl rfl (qF (by omega))) rfl rfl ?_ | refine qv rfl (rr_neq rfl rfl (qT (by omega))) rfl rfl ?_ | refine qv rfl (rr_neq rfl rfl (qF (by omega))) rfl rfl ?_ | refine qv rfl (rr_add64 rfl rfl (by omega) (by omega) rfl) rfl rfl ?_ | refine qv rfl (rr_eql rfl rfl (qT (by omega))) rfl rfl ?_ | refine qv rfl (rr_eql rfl rfl (qF (by omega))) rfl rfl ?_))
  refine TL_new rfl fun g5 => ?_
  refine TL_storeB (i := 1) rfl rfl rfl rfl rfl rfl ?_
  conv => arg 8; simp only [zA, zB, zC, zD, zE, zF, zG, zH, zI, rowS, ret, id_eq]
  repeat (first
    | refine qv rfl (qp rfl) rfl rfl ?_ | refine TL_nil ?_ | refine T_seq ?_ | refine T_region ?_ | refine qcT rfl ?_ | refine qcF rfl ?_ | refine T_skip ?_
    | refine T_exit ?_ | refine T_ret ?_ | refine T_block ?_ | refine E_then ?_ | refine E_thenX ?_ | refine E_thenR ?_ | refine E_blockN ?_
    | refine E_blockR ?_ | refine E_blockX ?_ | refine E_blockO rfl ?_ | refine qs rfl rfl rfl rfl rfl rfl ?_
    | ((try refine qg rfl rfl rfl ?_); first | refine qv rfl (qp rfl) rfl rfl ?_ | refine qv rfl (qlen Und.eq rfl) rfl rfl ?_ | refine qv rfl (qfld FldC.fld rfl rfl) rfl rfl ?_ | refine qv rfl (rr_lss rfl rfl (qT (by omega))) rfl rfl ?_ | refine qv rfl (rr_lss rfl rfl (qF (by omega))) rfl rfl ?_ | refine qv rfl (rr_neq rfl rfl (qT (by omega))) rfl rfl ?_ | refine qv rfl (rr_neq rfl rfl (qF (by omega))) rfl rfl ?_ | refine qv rfl (rr_add64 rfl rfl (by omega) (by omega) rfl) rfl rfl ?_ | refine qv rfl (rr_eql rfl rfl (qT (by omega))) rfl rfl ?_ | refine qv rfl (rr_eql rfl rfl (qF (by omega))) rfl rfl ?_))
  exact E_ret3 rfl rfl rfl rfl fun w hm => hm.ret
def freeL (l : List gramL.Prod) (may : Nat → Nat) (T N : Nat) : Bool := decide ((rowO' l may T N).length = 0)
def ableS (N T : Nat) (l : List gramL.Prod) (may : Nat → Nat) : Spec (Nat × (Nat → Value)) :=
  ⟨fun _ => True, fun x => .tuple #[.slice (some ⟨x.1, 0, none⟩) N N, .bool (freeL l may T N)], fun x => [rowA 25 vals x.1 N x.2, famP (fun j => j < N) (rowsF l may T x.2 N 0)]⟩
set_option maxHeartbeats 2000000 in
theorem able_calls (v : Value) (g : Gram) (w : World) (h : GraR (fun k => k < w.heap.size) w v g) (hg : checkG g = 0) (T N : Nat) (hT : g.terms = T) (hN : g.nons = N) :
    Calls Try.prog 5 #[v] w (Meets (ableS N T g.prods (mayG N g.prods)) w) := by
  have hmk := fun w' (hg' : Gr w w') => make_calls v g w' (h.gr hg') hg T N hT hN
  obtain ⟨vp, rfl, h1, _⟩ := h
  generalize mayG N g.prods = may at *
  generalize g.prods = prods at *
  clear h1
  refine enter (args := [graV g.terms g.nons vp]) (n := 21) Try.func5 rfl rfl rfl ?_
  refine T_seq (T_region (TL_box rfl rfl rfl fun g1 => ?_))
  conv => arg 8; simp only [zA, zB, zC, zD, zE, zF, zG, zH, zI, rowS, ret, id_eq]
  repeat (first
    | refine qv rfl (qp rfl) rfl rfl ?_ | refine TL_nil ?_ | refine T_seq ?_ | refine T_region ?_ | refine T_ret ?_ | refine E_then ?_ | refine E_thenR ?_
    | refine qs rfl rfl rfl rfl rfl rfl ?_
    | ((try refine qg rfl rfl rfl ?_); first | refine qv rfl (qp rfl) rfl rfl ?_ | refine qv rfl (rr_loadB (i := 0) TyC.ty rfl rfl rfl) rfl rfl ?_ | refine qv rfl (rr_eql rfl rfl (qT (by omega))) rfl rfl ?_ | refine qv rfl (rr_eql rfl rfl (qF (by omega))) rfl rfl ?_ | refine qv rfl (qlen Und.eq rfl) rfl rfl ?_))
  refine TL_call (he1 EntersC.en rfl rfl) (fun w' hm => hmk w' hm.below) rfl rfl rfl ?_
  rintro ⟨g10, vs, vo⟩ _
  conv => arg 8; simp only [zA, zB, zC, zD, zE, zF, zG, zH, zI, rowS, ret, id_eq, makeS]
  unfold ableS
  have hfr : freeL prods may T N = decide ((rowO' prods may T N).length = 0) := rfl
  generalize freeL prods may T N = fr at *
  cases fr
  · have hne := of_decide_eq_false hfr.symm
    repeat (first
      | refine qv rfl (qp rfl) rfl rfl ?_ | refine TL_nil ?_ | refine T_seq ?_ | refine T_region ?_ | refine T_ret ?_ | refine E_then ?_ | refine E_thenR ?_
      | refine qs rfl rfl rfl rfl rfl rfl ?_
      | ((try refine qg rfl rfl rfl ?_); first | refine qv rfl (qp rfl) rfl rfl ?_ | refine qv rfl (rr_eql rfl rfl (qT (by omega))) rfl rfl ?_ | refine qv rfl (rr_eql rfl rfl (qF (by omega))) rfl rfl ?_ | refine qv rfl (rr_rowlen (i := 3) Und.eq rfl rfl) rfl rfl ?_ | refine qv rfl (qlen Und.eq rfl) rfl rfl ?_))
    exact E_ret2 rfl rfl rfl fun w hm => hm.meets (S := ⟨fun (_ : Nat × (Nat → Value)) => True, fun x => .tuple #[.slice (some ⟨x.1, 0, none⟩) N N, .bool false], fun x => [rowA 25 vals x.1 N x.2, famP (fun j => j < N) (rowsF prods may T x.2 N 0)]⟩) (g10, vs) trivial [1, 2] (by decide) rfl
  · have hne := of_decide_eq_true hfr.symm
    repeat (first
      | refine qv rfl (qp rfl) rfl rfl ?_ | refine TL_nil ?_ | refine T_seq ?_ | refine T_region ?_ | refine T_ret ?_ | refine E_then ?_ | refine E_thenR ?_
      | refine qs rfl rfl rfl rfl rfl rfl ?_
      | ((try refine qg rfl rfl rfl ?_); first | refine qv rfl (qp rfl) rfl rfl ?_ | refine qv rfl (rr_eql rfl rfl (qT (by omega))) rfl rfl ?_ | refine qv rfl (rr_eql rfl rfl (qF (by omega))) rfl rfl ?_ | refine qv rfl (rr_rowlen (i := 3) Und.eq rfl rfl) rfl rfl ?_ | refine qv rfl (qlen Und.eq rfl) rfl rfl ?_))
    exact E_ret2 rfl rfl rfl fun w hm => hm.meets (S := ⟨fun (_ : Nat × (Nat → Value)) => True, fun x => .tuple #[.slice (some ⟨x.1, 0, none⟩) N N, .bool true], fun x => [rowA 25 vals x.1 N x.2, famP (fun j => j < N) (rowsF prods may T x.2 N 0)]⟩) (g10, vs) trivial [1, 2] (by decide) rfl
theorem ableE_calls (v : Value) (g : Gram) (w : World) (h : GraR (fun k => k < w.heap.size) w v g) (hg : checkG g ≠ 0) :
    Calls Try.prog 5 #[v] w (Meets (ret (.tuple #[.slice none 0 0, .bool false])) w) := by
  have hmk := fun w' (hg' : Gr w w') => makeE_calls v g w' (h.gr hg') hg
  obtain ⟨vp, rfl, h1, _⟩ := h
  generalize checkG g = e at *
  refine enter (args := [graV g.terms g.nons vp]) (n := 21) Try.func5 rfl rfl rfl ?_
  refine T_seq (T_region (TL_box rfl rfl rfl fun g1 => ?_))
  conv => arg 8; simp only [zA, zB, zC, zD, zE, zF, zG, zH, zI, rowS, ret, id_eq]
  repeat (first
    | refine qv rfl (qp rfl) rfl rfl ?_ | refine TL_nil ?_ | refine T_seq ?_ | refine T_region ?_ | refine T_ret ?_ | refine E_then ?_ | refine E_thenR ?_
    | refine qs rfl rfl rfl rfl rfl rfl ?_
    | ((try refine qg rfl rfl rfl ?_); first | refine qv rfl (qp rfl) rfl rfl ?_ | refine qv rfl (rr_loadB (i := 0) TyC.ty rfl rfl rfl) rfl rfl ?_ | refine qv rfl (rr_eql rfl rfl (qT (by omega))) rfl rfl ?_ | refine qv rfl (rr_eql rfl rfl (qF (by omega))) rfl rfl ?_ | refine qv rfl (qlen Und.eq rfl) rfl rfl ?_))
  refine TL_call (he1 EntersC.en rfl rfl) (fun w hm => hmk _ hm.below) rfl rfl rfl ?_
  intro _ _
  conv => arg 8; simp only [zA, zB, zC, zD, zE, zF, zG, zH, zI, rowS, ret, id_eq]
  repeat (first
    | refine qv rfl (qp rfl) rfl rfl ?_ | refine TL_nil ?_ | refine T_seq ?_ | refine T_region ?_ | refine T_ret ?_ | refine E_then ?_ | refine E_thenR ?_
    | refine qs rfl rfl rfl rfl rfl rfl ?_
    | ((try refine qg rfl rfl rfl ?_); first | refine qv rfl (qp rfl) rfl rfl ?_ | refine qv rfl (rr_eql rfl rfl (qT (by omega))) rfl rfl ?_ | refine qv rfl (rr_eql rfl rfl (qF (by omega))) rfl rfl ?_ | refine qv rfl (qlen Und.eq rfl) rfl rfl ?_))
  exact E_ret2 rfl rfl rfl fun w hm => hm.ret
/-! ### laws -/
def nxG (g : Gram) (T N : Nat) (word : List Int) : Int → Nat → Int := fun h a => llL.rowAt g.prods (mayG N g.prods) T h.toNat (colAt T word a)
theorem det_tree {g : Gram} {T N : Nat} (hg : checkG g = 0) (hT : g.terms = T) (hN : g.nons = N) (hf : freeL g.prods (mayG N g.prods) T N = true) {t : Tree} {word : List Int} (h : Right g.prods t (2, 0) 0) (hy : yieldT g.prods t = word) (hw : ∀ x ∈ word, 0 ≤ x ∧ x < (T : Int)) : DetT g.prods (nxG g T N word) t 0 := by
  obtain ⟨_, a2, _⟩ := checkG_ok hg
  have hC := closed_of hg hN
  have hs := symsOk_of hg hN
  have hp : 0 ≤ t.prod := by
    obtain ⟨p, k, kids⟩ := t
    rw [Right] at h
    rcases h with ⟨e, _⟩ | ⟨_, e, _⟩
    · cases e
    · exact e
  have hl := yield_len h hp
  have hnil : rowO' g.prods (mayG N g.prods) T N = [] := List.eq_nil_of_length_eq_zero (of_decide_eq_true hf)
  have hlk : LookT g.prods (ofS N g.prods).E (ofF N g.prods) (ofW N g.prods) (ofS N g.prods).R (ofS N g.prods).M word t 0 := by
    refine looks_right hC hs h hp hC.top ?_ ⟨[], by rw [hy]; simp⟩
    have e : bitAt word (0 + leaves t) = 63 := by unfold bitAt; rw [if_neg (by rw [← hy]; omega)]
    rw [e]
    exact hC.last
  exact det_of hC hs (by omega) hw (fun i _ => rfl) (rowO_none N hnil) h hp hlk ⟨[], by rw [hy]; simp⟩
end Go.Proofs.Ytkkiopmdcolobaa.eng

/- LlC -/
namespace Go.Proofs.Ytkkiopmdcolobaa.eng
open Go.RowKit kit mix gramL llL
def chkRow (l : List gramL.Prod) (n : Nat) : List Int → Int
  | [] => 0
  | p :: r => if p < -1 then 1 else if (l.length : Int) ≤ p then 1 else if 0 ≤ p ∧ (l.getD p.toNat (0, [])).1 ≠ (n : Int) then 1 else chkRow l n r
def chkRows (l : List gramL.Prod) (t : Int) : Nat → List (List Int) → Int
  | _, [] => 0
  | n, r :: rs => if (r.length : Int) ≠ t + 1 then 1 else if chkRow l n r ≠ 0 then 1 else chkRows l t (n + 1) rs
def chkL (g : Gram) (ll : List (List Int)) : Int := if checkG g ≠ 0 then checkG g else if (ll.length : Int) ≠ g.nons then 1 else chkRows g.prods g.terms 0 ll
abbrev RowsR (w : World) (v : Value) (ll : List (List Int)) : Prop := SlF (sliceS intS) (fun k => k < w.heap.size) w v ll
theorem rows_at {F : Nat → Prop} {w : World} {b off : Nat} {ll : List (List Int)} (h : ∀ i (h : i < ll.length), ∃ cs, (sliceS intS).is F w cs ll[i] ∧ Rd w b (off + i * (sliceS intS).c) cs) {k : Nat} (hk : k < ll.length) :
    ∃ vi, w.cell? ⟨b, off + k, none⟩ = some vi ∧ Sl w vi ll[k].length (ll[k].map (.int .i64)) := by
  obtain ⟨cs, ⟨vi, rfl, h1⟩, hr⟩ := h k hk
  refine ⟨vi, ?_, ?_⟩
  · have := hr 0 vi rfl
    rwa [show (sliceS intS).c = 1 from rfl, Nat.mul_one, Nat.add_zero] at this
  · have := h1.flat (by decide)
    rw [show (ll[k].flatMap fun n => [Value.int .i64 n]) = ll[k].map (.int .i64) from by rw [List.flatMap_def]; induction ll[k] with
      | nil => rfl
      | cons x r ih => simp only [List.map_cons, List.flatten_cons, ih]; rfl] at this
    exact this
set_option maxRecDepth 100000 in
set_option maxHeartbeats 8000000 in
theorem llCheck_calls (v vr : Value) (g : Gram) (ll : List (List Int)) (w : World) (h : GraR (fun k => k < w.heap.size) w v g) (hr : RowsR w vr ll) :
    Calls Try.prog 52 #[v, vr] w (Meets (ret (.int .i64 (chkL g ll))) w) := by
  have hck := fun w' (hg : Gr w w') => checkG_calls v g w' (h.gr hg)
  obtain ⟨vp, rfl, h1, _⟩ := h
  obtain ⟨br, cr, rfl, hr1, hr2, hr3⟩ := hr
  unfold maxLen at hr2
  unfold chkL
  by_cases c0 : checkG g = 0
  · rw [if_neg (by simpa using c0)]
    obtain ⟨a1, a2, a3, a4, a5, _⟩ := checkG_ok c0
    rw [c0] at hck
    obtain ⟨t, nn, prods⟩ := g
    dsimp only at *
    obtain ⟨bp, cp, rfl, hcp, hmp, hrp⟩ := h1
    unfold maxLen at hmp
    refine enter (args := [graV t nn (.slice bp prods.length cp), .slice br ll.length cr]) (n := 64) Try.func52 rfl rfl rfl ?_
    refine T_seq (T_region (TL_box rfl rfl rfl fun g2 => ?_))
    conv => arg 8; simp only [zA, zB, zC, zD, zE, zF, zG, zH, zI, rowS, ret, id_eq]
    repeat (first
      | refine qv rfl (qp rfl) rfl rfl ?_ | refine TL_nil ?_ | refine T_seq ?_ | refine T_region ?_ | refine qcT rfl ?_ | refine qcF rfl ?_ | refine T_skip ?_
      | refine T_exit ?_ | refine T_ret ?_ | refine T_block ?_ | refine E_then ?_ | refine E_thenX ?_ | refine E_thenR ?_ | refine E_blockN ?_
      | refine E_blockR ?_ | refine E_blockX ?_ | refine E_blockO rfl ?_ | refine qs rfl rfl rfl rfl rfl rfl ?_
      | ((try refine qg rfl rfl rfl ?_); first | refine qv rfl (qp rfl) rfl rfl ?_ | refine qv rfl (rr_loadB (i := 0) TyC.ty rfl rfl rfl) rfl rfl ?_ | refine qv rfl (qlen Und.eq rfl) rfl rfl ?_ | refine qv rfl (qfld FldC.fld rfl rfl) rfl rfl ?_ | refine qv rfl (rr_lss rfl rfl (qT (by omega))) rfl rfl ?_ | refine qv rfl (rr_lss rfl rfl (qF (by omega))) rfl rfl ?_ | refine qv rfl (rr_neq rfl rfl (qT (by omega))) rfl rfl ?_ | refine qv rfl (rr_neq rfl rfl (qF (by omega))) rfl rfl ?_ | refine qv rfl (rr_add64 rfl rfl (by omega) (by omega) rfl) rfl rfl ?_ | refine qv rfl (rr_geq rfl rfl (qT (by omega))) rfl rfl ?_ | refine qv rfl (rr_geq rfl rfl (qF (by omega))) rfl rfl ?_))
    refine TL_call (he1 EntersC.en rfl rfl) (fun w hm => hck _ hm.below) rfl rfl rfl ?_
    intro _ _
    conv => arg 8; simp only [zA, zB, zC, zD, zE, zF, zG, zH, zI, rowS, ret, id_eq]
    by_cases c1 : (ll.length : Int) = nn
    · rw [if_neg (by simpa using c1)]
      repeat (first
        | refine qv rfl (qp rfl) rfl rfl ?_ | refine TL_nil ?_ | refine T_seq ?_ | refine T_region ?_ | refine qcT rfl ?_ | refine qcF rfl ?_ | refine T_skip ?_
        | refine T_exit ?_ | refine T_ret ?_ | refine T_block ?_ | refine E_then ?_ | refine E_thenX ?_ | refine E_thenR ?_ | refine E_blockN ?_
        | refine E_blockR ?_ | refine E_blockX ?_ | refine E_blockO rfl ?_ | refine qs rfl rfl rfl rfl rfl rfl ?_
        | ((try refine qg rfl rfl rfl ?_); first | refine qv rfl (qp rfl) rfl rfl ?_ | refine qv rfl (rr_load1 TyC.ty rfl (at_blk (i := 0) rfl rfl)) rfl rfl ?_ | refine qv rfl (qlen Und.eq rfl) rfl rfl ?_ | refine qv rfl (qfld FldC.fld rfl rfl) rfl rfl ?_ | refine qv rfl (rr_lss rfl rfl (qT (by omega))) rfl rfl ?_ | refine qv rfl (rr_lss rfl rfl (qF (by omega))) rfl rfl ?_ | refine qv rfl (rr_neq rfl rfl (qT (by omega))) rfl rfl ?_ | refine qv rfl (rr_neq rfl rfl (qF (by omega))) rfl rfl ?_ | refine qv rfl (rr_add64 rfl rfl (by omega) (by omega) rfl) rfl rfl ?_ | refine qv rfl (rr_geq rfl rfl (qT (by omega))) rfl rfl ?_ | refine qv rfl (rr_geq rfl rfl (qF (by omega))) rfl rfl ?_))
      generalize hres : chkRows prods t 0 ll = res
      refine T_loop (ι := Nat) (fun n => n ≤ ll.length ∧ res = chkRows prods t n (ll.drop n)) (fun n => [(2, .pointer (some ⟨g2, 0, none⟩)), (20, .slice br ll.length cr), (21, .int .i64 ll.length), (22, .int .i64 (n : Int))]) (fun _ => [blkO g2 (graV t nn (.slice bp prods.length cp)).cells 24]) (fun n => ll.length - n) 0 ⟨Nat.zero_le _, by rw [List.drop_zero]; exact hres.symm⟩ (by repeat' (first | exact True.intro | refine And.intro rfl ?_)) rfl ?_
      clear hres
      rintro n ⟨i1, i2⟩
      by_cases c2 : n < ll.length
      · obtain ⟨b, off, rfl, _, hrd⟩ := hr3 (by omega)
        obtain ⟨vi, y1, y2⟩ := rows_at hrd c2
        have hat : ∀ L, At w L ⟨b, off + n, none⟩ vi := fun L => at_old y1
        rw [List.drop_eq_getElem_cons c2, chkRows] at i2
        clear hrd y1
        generalize ll[n] = r at *
        obtain ⟨bi, ci, rfl, z1, z2, z3⟩ := y2
        unfold maxLen at z2
        by_cases c3 : (r.length : Int) = t + 1
        · rw [if_neg (by simpa using c3)] at i2
          repeat (first
            | refine qv rfl (qp rfl) rfl rfl ?_ | refine TL_nil ?_ | refine T_seq ?_ | refine T_region ?_ | refine qcT rfl ?_ | refine qcF rfl ?_ | refine T_skip ?_
            | refine T_exit ?_ | refine T_ret ?_ | refine T_block ?_ | refine E_then ?_ | refine E_thenX ?_ | refine E_thenR ?_ | refine E_blockN ?_
            | refine E_blockR ?_ | refine E_blockX ?_ | refine E_blockO rfl ?_ | refine qs rfl rfl rfl rfl rfl rfl ?_
            | ((try refine qg rfl rfl rfl ?_); first | refine qv rfl (qp rfl) rfl rfl ?_ | refine qv rfl (rr_idx1 Und.eq TyC.ty rfl rfl c2) rfl rfl ?_ | refine qv rfl (rr_load1 TyC.ty rfl (hat _)) rfl rfl ?_ | refine qv rfl (rr_load1 TyC.ty rfl (at_blk (i := 0) rfl rfl)) rfl rfl ?_ | refine qv rfl (qlen Und.eq rfl) rfl rfl ?_ | refine qv rfl (qfld FldC.fld rfl rfl) rfl rfl ?_ | refine qv rfl (rr_lss rfl rfl (qT (by omega))) rfl rfl ?_ | refine qv rfl (rr_lss rfl rfl (qF (by omega))) rfl rfl ?_ | refine qv rfl (rr_neq rfl rfl (qT (by omega))) rfl rfl ?_ | refine qv rfl (rr_neq rfl rfl (qF (by omega))) rfl rfl ?_ | refine qv rfl (rr_add64 rfl rfl (by omega) (by omega) rfl) rfl rfl ?_ | refine qv rfl (rr_geq rfl rfl (qT (by omega))) rfl rfl ?_ | refine qv rfl (rr_geq rfl rfl (qF (by omega))) rfl rfl ?_))
          refine T_loop (ι := Nat) (fun j => j ≤ r.length ∧ chkRow prods n r = chkRow prods n (r.drop j)) (fun j => [(2, .pointer (some ⟨g2, 0, none⟩)), (6, .int .i64 (n : Int)), (20, .slice (some ⟨b, off, none⟩) ll.length cr), (21, .int .i64 ll.length), (22, .int .i64 (n : Int)), (33, .slice bi r.length ci), (34, .int .i64 r.length), (35, .int .i64 (j : Int))]) (fun _ => [blkO g2 (graV t nn (.slice bp prods.length cp)).cells 24]) (fun j => r.length - j) 0 ⟨Nat.zero_le _, rfl⟩ (by repeat' (first | exact True.intro | refine And.intro rfl ?_)) rfl ?_
          rintro j ⟨j1, j2⟩
          by_cases c4 : j < r.length
          · obtain ⟨b', off', rfl, hr'⟩ := z3 (by omega)
            have hatj := fun L => at_int (L := L) hr' c4
            rw [List.drop_eq_getElem_cons c4, chkRow] at j2
            clear hr' z3
            generalize r[j] = p at *
            by_cases e1 : p < -1
            · rw [if_pos e1] at j2
              rw [j2, if_pos (by decide)] at i2
              subst i2
              repeat (first
                | refine qv rfl (qp rfl) rfl rfl ?_ | refine TL_nil ?_ | refine T_seq ?_ | refine T_region ?_ | refine qcT rfl ?_ | refine qcF rfl ?_ | refine T_skip ?_
                | refine T_exit ?_ | refine T_ret ?_ | refine T_block ?_ | refine E_then ?_ | refine E_thenX ?_ | refine E_thenR ?_ | refine E_blockN ?_
                | refine E_blockR ?_ | refine E_blockX ?_ | refine E_blockO rfl ?_ | refine qs rfl rfl rfl rfl rfl rfl ?_
                | ((try refine qg rfl rfl rfl ?_); first | refine qv rfl (qp rfl) rfl rfl ?_ | refine qv rfl (rr_idx1 Und.eq TyC.ty rfl rfl c4) rfl rfl ?_ | refine qv rfl (rr_load1 TyC.ty rfl (hatj _)) rfl rfl ?_ | refine qv rfl (rr_load1 TyC.ty rfl (at_blk (i := 0) rfl rfl)) rfl rfl ?_ | refine qv rfl (qlen Und.eq rfl) rfl rfl ?_ | refine qv rfl (qfld FldC.fld rfl rfl) rfl rfl ?_ | refine qv rfl (rr_lss rfl rfl (qT (by omega))) rfl rfl ?_ | refine qv rfl (rr_lss rfl rfl (qF (by omega))) rfl rfl ?_ | refine qv rfl (rr_neq rfl rfl (qT (by omega))) rfl rfl ?_ | refine qv rfl (rr_neq rfl rfl (qF (by omega))) rfl rfl ?_ | refine qv rfl (rr_add64 rfl rfl (by omega) (by omega) rfl) rfl rfl ?_ | refine qv rfl (rr_geq rfl rfl (qT (by omega))) rfl rfl ?_ | refine qv rfl (rr_geq rfl rfl (qF (by omega))) rfl rfl ?_))
              exact E_ret1 rfl rfl fun w hm => hm.ret
            by_cases e2 : (prods.length : Int) ≤ p
            · rw [if_neg e1, if_pos e2] at j2
              rw [j2, if_pos (by decide)] at i2
              subst i2
              repeat (first
                | refine qv rfl (qp rfl) rfl rfl ?_ | refine TL_nil ?_ | refine T_seq ?_ | refine T_region ?_ | refine qcT rfl ?_ | refine qcF rfl ?_ | refine T_skip ?_
                | refine T_exit ?_ | refine T_ret ?_ | refine T_block ?_ | refine E_then ?_ | refine E_thenX ?_ | refine E_thenR ?_ | refine E_blockN ?_
                | refine E_blockR ?_ | refine E_blockX ?_ | refine E_blockO rfl ?_ | refine qs rfl rfl rfl rfl rfl rfl ?_
                | ((try refine qg rfl rfl rfl ?_); first | refine qv rfl (qp rfl) rfl rfl ?_ | refine qv rfl (rr_idx1 Und.eq TyC.ty rfl rfl c4) rfl rfl ?_ | refine qv rfl (rr_load1 TyC.ty rfl (hatj _)) rfl rfl ?_ | refine qv rfl (rr_load1 TyC.ty rfl (at_blk (i := 0) rfl rfl)) rfl rfl ?_ | refine qv rfl (qlen Und.eq rfl) rfl rfl ?_ | refine qv rfl (qfld FldC.fld rfl rfl) rfl rfl ?_ | refine qv rfl (rr_lss rfl rfl (qT (by omega))) rfl rfl ?_ | refine qv rfl (rr_lss rfl rfl (qF (by omega))) rfl rfl ?_ | refine qv rfl (rr_neq rfl rfl (qT (by omega))) rfl rfl ?_ | refine qv rfl (rr_neq rfl rfl (qF (by omega))) rfl rfl ?_ | refine qv rfl (rr_add64 rfl rfl (by omega) (by omega) rfl) rfl rfl ?_ | refine qv rfl (rr_geq rfl rfl (qT (by omega))) rfl rfl ?_ | refine qv rfl (rr_geq rfl rfl (qF (by omega))) rfl rfl ?_))
              exact E_ret1 rfl rfl fun w hm => hm.ret
            rw [if_neg e1, if_neg e2] at j2
            by_cases e3 : 0 ≤ p
            · obtain ⟨m, rfl⟩ : ∃ m : Nat, p = m := ⟨p.toNat, by omega⟩
              have hm : m < prods.length := by omega
              obtain ⟨bq, offq, rfl, _, hrq⟩ := hrp (by omega)
              obtain ⟨bb, cb, q1, _, _⟩ := prod_at hrq hm
              have hatp : ∀ (L : List Own), At w L ⟨bq, offq + m * 2 + 0, none⟩ (.int .i64 prods[m].1) := fun L => at_old (q1 0 _ rfl)
              rw [Int.toNat_natCast, List.getD_eq_getElem?_getD, List.getElem?_eq_getElem hm] at j2
              dsimp only [Option.getD] at j2
              clear q1 hrq
              generalize prods[m] = pd at *
              obtain ⟨hd, _⟩ := pd
              dsimp only at *
              by_cases e4 : hd = (n : Int)
              · rw [if_neg (fun h => h.2 e4)] at j2
                repeat (first
                  | refine qv rfl (qp rfl) rfl rfl ?_ | refine TL_nil ?_ | refine T_seq ?_ | refine T_region ?_ | refine qcT rfl ?_ | refine qcF rfl ?_ | refine T_skip ?_
                  | refine T_exit ?_ | refine T_ret ?_ | refine T_block ?_ | refine E_then ?_ | refine E_thenX ?_ | refine E_thenR ?_ | refine E_blockN ?_
                  | refine E_blockR ?_ | refine E_blockX ?_ | refine E_blockO rfl ?_ | refine qs rfl rfl rfl rfl rfl rfl ?_
                  | ((try refine qg rfl rfl rfl ?_); first | refine qv rfl (qp rfl) rfl rfl ?_ | refine qv rfl (rr_idx1 Und.eq TyC.ty rfl rfl c4) rfl rfl ?_ | refine qv rfl (rr_load1 TyC.ty rfl (hatj _)) rfl rfl ?_ | refine qv rfl (rr_load1 TyC.ty rfl (at_blk (i := 0) rfl rfl)) rfl rfl ?_ | refine qv rfl (rr_idxc Und.eq TyC.ty rfl rfl hm) rfl rfl ?_ | refine qv rfl (rr_load1 TyC.ty rfl (hatp _)) rfl rfl ?_ | refine qv rfl (qlen Und.eq rfl) rfl rfl ?_ | refine qv rfl (qfld FldC.fld rfl rfl) rfl rfl ?_ | refine qv rfl (rr_lss rfl rfl (qT (by omega))) rfl rfl ?_ | refine qv rfl (rr_lss rfl rfl (qF (by omega))) rfl rfl ?_ | refine qv rfl (rr_neq rfl rfl (qT (by omega))) rfl rfl ?_ | refine qv rfl (rr_neq rfl rfl (qF (by omega))) rfl rfl ?_ | refine qv rfl (rr_add64 rfl rfl (by omega) (by omega) rfl) rfl rfl ?_ | refine qv rfl (rr_geq rfl rfl (qT (by omega))) rfl rfl ?_ | refine qv rfl (rr_geq rfl rfl (qF (by omega))) rfl rfl ?_))
                exact E_round (j + 1) ⟨by omega, j2⟩ (by omega) (by repeat' (first | exact True.intro | refine And.intro rfl ?_)) rfl
              · rw [if_pos ⟨e3, e4⟩] at j2
                rw [j2, if_pos (by decide)] at i2
                subst i2
                repeat (first
                  | refine qv rfl (qp rfl) rfl rfl ?_ | refine TL_nil ?_ | refine T_seq ?_ | refine T_region ?_ | refine qcT rfl ?_ | refine qcF rfl ?_ | refine T_skip ?_
                  | refine T_exit ?_ | refine T_ret ?_ | refine T_block ?_ | refine E_then ?_ | refine E_thenX ?_ | refine E_thenR ?_ | refine E_blockN ?_
                  | refine E_blockR ?_ | refine E_blockX ?_ | refine E_blockO rfl ?_ | refine qs rfl rfl rfl rfl rfl rfl ?_
                  | ((try refine qg rfl rfl rfl ?_); first | refine qv rfl (qp rfl) rfl rfl ?_ | refine qv rfl (rr_idx1 Und.eq TyC.ty rfl rfl c4) rfl rfl ?_ | refine qv rfl (rr_load1 TyC.ty rfl (hatj _)) rfl rfl ?_ | refine qv rfl (rr_load1 TyC.ty rfl (at_blk (i := 0) rfl rfl)) rfl rfl ?_ | refine qv rfl (rr_idxc Und.eq TyC.ty rfl rfl hm) rfl rfl ?_ | refine qv rfl (rr_load1 TyC.ty rfl (hatp _)) rfl rfl ?_ | refine qv rfl (qlen Und.eq rfl) rfl rfl ?_ | refine qv rfl (qfld FldC.fld rfl rfl) rfl rfl ?_ | refine qv rfl (rr_lss rfl rfl (qT (by omega))) rfl rfl ?_ | refine qv rfl (rr_lss rfl rfl (qF (by omega))) rfl rfl ?_ | refine qv rfl (rr_neq rfl rfl (qT (by omega))) rfl rfl ?_ | refine qv rfl (rr_neq rfl rfl (qF (by omega))) rfl rfl ?_ | refine qv rfl (rr_add64 rfl rfl (by omega) (by omega) rfl) rfl rfl ?_ | refine qv rfl (rr_geq rfl rfl (qT (by omega))) rfl rfl ?_ | refine qv rfl (rr_geq rfl rfl (qF (by omega))) rfl rfl ?_))
                exact E_ret1 rfl rfl fun w hm => hm.ret
            · rw [if_neg (fun h => e3 h.1)] at j2
              repeat (first
                | refine qv rfl (qp rfl) rfl rfl ?_ | refine TL_nil ?_ | refine T_seq ?_ | refine T_region ?_ | refine qcT rfl ?_ | refine qcF rfl ?_ | refine T_skip ?_
                | refine T_exit ?_ | refine T_ret ?_ | refine T_block ?_ | refine E_then ?_ | refine E_thenX ?_ | refine E_thenR ?_ | refine E_blockN ?_
                | refine E_blockR ?_ | refine E_blockX ?_ | refine E_blockO rfl ?_ | refine qs rfl rfl rfl rfl rfl rfl ?_
                | ((try refine qg rfl rfl rfl ?_); first | refine qv rfl (qp rfl) rfl rfl ?_ | refine qv rfl (rr_idx1 Und.eq TyC.ty rfl rfl c4) rfl rfl ?_ | refine qv rfl (rr_load1 TyC.ty rfl (hatj _)) rfl rfl ?_ | refine qv rfl (rr_load1 TyC.ty rfl (at_blk (i := 0) rfl rfl)) rfl rfl ?_ | refine qv rfl (qlen Und.eq rfl) rfl rfl ?_ | refine qv rfl (qfld FldC.fld rfl rfl) rfl rfl ?_ | refine qv rfl (rr_lss rfl rfl (qT (by omega))) rfl rfl ?_ | refine qv rfl (rr_lss rfl rfl (qF (by omega))) rfl rfl ?_ | refine qv rfl (rr_neq rfl rfl (qT (by omega))) rfl rfl ?_ | refine qv rfl (rr_neq rfl rfl (qF (by omega))) rfl rfl ?_ | refine qv rfl (rr_add64 rfl rfl (by omega) (by omega) rfl) rfl rfl ?_ | refine qv rfl (rr_geq rfl rfl (qT (by omega))) rfl rfl ?_ | refine qv rfl (rr_geq rfl rfl (qF (by omega))) rfl rfl ?_))
              exact E_round (j + 1) ⟨by omega, j2⟩ (by omega) (by repeat' (first | exact True.intro | refine And.intro rfl ?_)) rfl
          · rw [List.drop_of_length_le (by omega), chkRow] at j2
            rw [j2, if_neg (by decide)] at i2
            repeat (first
              | refine qv rfl (qp rfl) rfl rfl ?_ | refine TL_nil ?_ | refine T_seq ?_ | refine T_region ?_ | refine qcT rfl ?_ | refine qcF rfl ?_ | refine T_skip ?_
              | refine T_exit ?_ | refine T_ret ?_ | refine T_block ?_ | refine E_then ?_ | refine E_thenX ?_ | refine E_thenR ?_ | refine E_blockN ?_
              | refine E_blockR ?_ | refine E_blockX ?_ | refine E_blockO rfl ?_ | refine qs rfl rfl rfl rfl rfl rfl ?_
              | ((try refine qg rfl rfl rfl ?_); first | refine qv rfl (qp rfl) rfl rfl ?_ | refine qv rfl (qlen Und.eq rfl) rfl rfl ?_ | refine qv rfl (qfld FldC.fld rfl rfl) rfl rfl ?_ | refine qv rfl (rr_lss rfl rfl (qT (by omega))) rfl rfl ?_ | refine qv rfl (rr_lss rfl rfl (qF (by omega))) rfl rfl ?_ | refine qv rfl (rr_neq rfl rfl (qT (by omega))) rfl rfl ?_ | refine qv rfl (rr_neq rfl rfl (qF (by omega))) rfl rfl ?_ | refine qv rfl (rr_add64 rfl rfl (by omega) (by omega) rfl) rfl rfl ?_ | refine qv rfl (rr_geq rfl rfl (qT (by omega))) rfl rfl ?_ | refine qv rfl (rr_geq rfl rfl (qF (by omega))) rfl rfl ?_))
            exact E_round (n + 1) ⟨by omega, i2⟩ (by omega) (by repeat' (first | exact True.intro | refine And.intro rfl ?_)) rfl
        · rw [if_pos (by simpa using c3)] at i2
          subst i2
          repeat (first
            | refine qv rfl (qp rfl) rfl rfl ?_ | refine TL_nil ?_ | refine T_seq ?_ | refine T_region ?_ | refine qcT rfl ?_ | refine qcF rfl ?_ | refine T_skip ?_
            | refine T_exit ?_ | refine T_ret ?_ | refine T_block ?_ | refine E_then ?_ | refine E_thenX ?_ | refine E_thenR ?_ | refine E_blockN ?_
            | refine E_blockR ?_ | refine E_blockX ?_ | refine E_blockO rfl ?_ | refine qs rfl rfl rfl rfl rfl rfl ?_
            | ((try refine qg rfl rfl rfl ?_); first | refine qv rfl (qp rfl) rfl rfl ?_ | refine qv rfl (rr_idx1 Und.eq TyC.ty rfl rfl c2) rfl rfl ?_ | refine qv rfl (rr_load1 TyC.ty rfl (hat _)) rfl rfl ?_ | refine qv rfl (rr_load1 TyC.ty rfl (at_blk (i := 0) rfl rfl)) rfl rfl ?_ | refine qv rfl (qlen Und.eq rfl) rfl rfl ?_ | refine qv rfl (qfld FldC.fld rfl rfl) rfl rfl ?_ | refine qv rfl (rr_lss rfl rfl (qT (by omega))) rfl rfl ?_ | refine qv rfl (rr_lss rfl rfl (qF (by omega))) rfl rfl ?_ | refine qv rfl (rr_neq rfl rfl (qT (by omega))) rfl rfl ?_ | refine qv rfl (rr_neq rfl rfl (qF (by omega))) rfl rfl ?_ | refine qv rfl (rr_add64 rfl rfl (by omega) (by omega) rfl) rfl rfl ?_ | refine qv rfl (rr_geq rfl rfl (qT (by omega))) rfl rfl ?_ | refine qv rfl (rr_geq rfl rfl (qF (by omega))) rfl rfl ?_))
          exact E_ret1 rfl rfl fun w hm => hm.ret
      · rw [List.drop_of_length_le (by omega), chkRows] at i2
        subst i2
        repeat (first
          | refine qv rfl (qp rfl) rfl rfl ?_ | refine TL_nil ?_ | refine T_seq ?_ | refine T_region ?_ | refine qcT rfl ?_ | refine qcF rfl ?_ | refine T_skip ?_
          | refine T_exit ?_ | refine T_ret ?_ | refine T_block ?_ | refine E_then ?_ | refine E_thenX ?_ | refine E_thenR ?_ | refine E_blockN ?_
          | refine E_blockR ?_ | refine E_blockX ?_ | refine E_blockO rfl ?_ | refine qs rfl rfl rfl rfl rfl rfl ?_
          | ((try refine qg rfl rfl rfl ?_); first | refine qv rfl (qp rfl) rfl rfl ?_ | refine qv rfl (qlen Und.eq rfl) rfl rfl ?_ | refine qv rfl (qfld FldC.fld rfl rfl) rfl rfl ?_ | refine qv rfl (rr_lss rfl rfl (qT (by omega))) rfl rfl ?_ | refine qv rfl (rr_lss rfl rfl (qF (by omega))) rfl rfl ?_ | refine qv rfl (rr_neq rfl rfl (qT (by omega))) rfl rfl ?_ | refine qv rfl (rr_neq rfl rfl (qF (by omega))) rfl rfl ?_ | refine qv rfl (rr_add64 rfl rfl (by omega) (by omega) rfl) rfl rfl ?_ | refine qv rfl (rr_geq rfl rfl (qT (by omega))) rfl rfl ?_ | refine qv rfl (rr_geq rfl rfl (qF (by omega))) rfl rfl ?_))
        exact E_ret1 rfl rfl fun w hm => hm.ret
    · rw [if_pos (by simpa using c1)]
      repeat (first
        | refine qv rfl (qp rfl) rfl rfl ?_ | refine TL_nil ?_ | refine T_seq ?_ | refine T_region ?_ | refine qcT rfl ?_ | refine qcF rfl ?_ | refine T_skip ?_
        | refine T_exit ?_ | refine T_ret ?_ | refine T_block ?_ | refine E_then ?_ | refine E_thenX ?_ | refine E_thenR ?_ | refine E_blockN ?_
        | refine E_blockR ?_ | refine E_blockX ?_ | refine E_blockO rfl ?_ | refine qs rfl rfl rfl rfl rfl rfl ?_
        | ((try refine qg rfl rfl rfl ?_); first | refine qv rfl (qp rfl) rfl rfl ?_ | refine qv rfl (rr_load1 TyC.ty rfl (at_blk (i := 0) rfl rfl)) rfl rfl ?_ | refine qv rfl (qlen Und.eq rfl) rfl rfl ?_ | refine qv rfl (qfld FldC.fld rfl rfl) rfl rfl ?_ | refine qv rfl (rr_lss rfl rfl (qT (by omega))) rfl rfl ?_ | refine qv rfl (rr_lss rfl rfl (qF (by omega))) rfl rfl ?_ | refine qv rfl (rr_neq rfl rfl (qT (by omega))) rfl rfl ?_ | refine qv rfl (rr_neq rfl rfl (qF (by omega))) rfl rfl ?_ | refine qv rfl (rr_add64 rfl rfl (by omega) (by omega) rfl) rfl rfl ?_ | refine qv rfl (rr_geq rfl rfl (qT (by omega))) rfl rfl ?_ | refine qv rfl (rr_geq rfl rfl (qF (by omega))) rfl rfl ?_))
      exact E_ret1 rfl rfl fun w hm => hm.ret
  · rw [if_pos (by simpa using c0)]
    generalize checkG g = e at *
    refine enter (args := [graV g.terms g.nons vp, .slice br ll.length cr]) (n := 64) Try.func52 rfl rfl rfl ?_
    refine T_seq (T_region (TL_box rfl rfl rfl fun g2 => ?_))
    conv => arg 8; simp only [zA, zB, zC, zD, zE, zF, zG, zH, zI, rowS, ret, id_eq]
    repeat (first
      | refine qv rfl (qp rfl) rfl rfl ?_ | refine TL_nil ?_ | refine T_seq ?_ | refine T_region ?_ | refine qcT rfl ?_ | refine qcF rfl ?_ | refine T_skip ?_
      | refine T_exit ?_ | refine T_ret ?_ | refine T_block ?_ | refine E_then ?_ | refine E_thenX ?_ | refine E_thenR ?_ | refine E_blockN ?_
      | refine E_blockR ?_ | refine E_blockX ?_ | refine E_blockO rfl ?_ | refine qs rfl rfl rfl rfl rfl rfl ?_
      | ((try refine qg rfl rfl rfl ?_); first | refine qv rfl (qp rfl) rfl rfl ?_ | refine qv rfl (rr_loadB (i := 0) TyC.ty rfl rfl rfl) rfl rfl ?_ | refine qv rfl (qlen Und.eq rfl) rfl rfl ?_ | refine qv rfl (qfld FldC.fld rfl rfl) rfl rfl ?_ | refine qv rfl (rr_lss rfl rfl (qT (by omega))) rfl rfl ?_ | refine qv rfl (rr_lss rfl rfl (qF (by omega))) rfl rfl ?_ | refine qv rfl (rr_neq rfl rfl (qT (by omega))) rfl rfl ?_ | refine qv rfl (rr_neq rfl rfl (qF (by omega))) rfl rfl ?_ | refine qv rfl (rr_add64 rfl rfl (by omega) (by omega) rfl) rfl rfl ?_ | refine qv rfl (rr_geq rfl rfl (qT (by omega))) rfl rfl ?_ | refine qv rfl (rr_geq rfl rfl (qF (by omega))) rfl rfl ?_))
    refine TL_call (he1 EntersC.en rfl rfl) (fun w hm => hck _ hm.below) rfl rfl rfl ?_
    intro _ _
    conv => arg 8; simp only [zA, zB, zC, zD, zE, zF, zG, zH, zI, rowS, ret, id_eq]
    repeat (first
      | refine qv rfl (qp rfl) rfl rfl ?_ | refine TL_nil ?_ | refine T_seq ?_ | refine T_region ?_ | refine qcT rfl ?_ | refine qcF rfl ?_ | refine T_skip ?_
      | refine T_exit ?_ | refine T_ret ?_ | refine T_block ?_ | refine E_then ?_ | refine E_thenX ?_ | refine E_thenR ?_ | refine E_blockN ?_
      | refine E_blockR ?_ | refine E_blockX ?_ | refine E_blockO rfl ?_ | refine qs rfl rfl rfl rfl rfl rfl ?_
      | ((try refine qg rfl rfl rfl ?_); first | refine qv rfl (qp rfl) rfl rfl ?_ | refine qv rfl (qlen Und.eq rfl) rfl rfl ?_ | refine qv rfl (qfld FldC.fld rfl rfl) rfl rfl ?_ | refine qv rfl (rr_lss rfl rfl (qT (by omega))) rfl rfl ?_ | refine qv rfl (rr_lss rfl rfl (qF (by omega))) rfl rfl ?_ | refine qv rfl (rr_neq rfl rfl (qT (by omega))) rfl rfl ?_ | refine qv rfl (rr_neq rfl rfl (qF (by omega))) rfl rfl ?_ | refine qv rfl (rr_add64 rfl rfl (by omega) (by omega) rfl) rfl rfl ?_ | refine qv rfl (rr_geq rfl rfl (qT (by omega))) rfl rfl ?_ | refine qv rfl (rr_geq rfl rfl (qF (by omega))) rfl rfl ?_))
    exact E_ret1 rfl rfl fun w hm => hm.ret
theorem rows_slf {l : List gramL.Prod} {may : Nat → Nat} {T N g : Nat} {vs : Nat → Value} {w : World} (hl : l.length ≤ 40) (hN : N ≤ 20) (h1 : (rowA 25 vals g N vs).holds w) (h2 : (famP (fun j => j < N) (rowsF l may T vs N 0)).holds w) :
    RowsR w (.slice (some ⟨g, 0, none⟩) N N) (tabA N fun n => tabA (T + 1) (llL.rowAt l may T n)) := by
  refine ⟨some ⟨g, 0, none⟩, N, by rw [tabA_len], by rw [tabA_len]; exact Nat.le_refl _, by unfold maxLen; omega, fun h0 => ⟨g, 0, rfl, (rowA 25 vals g N vs).lt w h1 g (.inl rfl), fun i hi => ?_⟩⟩
  rw [tabA_len] at hi
  have hf := h2.1 i hi
  unfold rowsF cntL at hf
  rw [if_pos hi] at hf
  have hget : (tabA N fun n => tabA (T + 1) (llL.rowAt l may T n))[i]'(by rw [tabA_len]; exact hi) = tabA (T + 1) (llL.rowAt l may T i) := by simp [tabA]
  rw [hget]
  refine ⟨[vs i], ⟨vs i, rfl, ?_⟩, fun j u hj => ?_⟩
  · have hs := Sl.of_own hf
    refine SlF.of_flat (p := kit.okI64) (by rw [tabA_len]; rw [show ((tabA (T + 1) (llL.rowAt l may T i)).flatMap fun n => [Value.int .i64 n]) = (tabA (T + 1) (llL.rowAt l may T i)).map intV from by
        rw [List.flatMap_def]
        induction tabA (T + 1) (llL.rowAt l may T i) with
        | nil => rfl
        | cons x r ih => simp only [List.map_cons, List.flatten_cons, ih]; rfl]; exact hs) (fun a ha => ?_) (fun b hb => (rowO 3 1 (vs i) (T + 1) _).lt w hf b (.inl hb)) (fun a n cp he => ?_)
    · unfold tabA at ha
      obtain ⟨c, _, rfl⟩ := List.mem_map.1 ha
      have := first_ge (l := l) (may := may) (T := T) i c l.length
      unfold llL.rowAt
      exact ⟨by omega, by omega⟩
    · have hr : w.ownsRow 0 3 1 (vs i) (T + 1) _ := hf
      rcases hr.2 with ⟨hv, h⟩ | ⟨gg, cap, cur, hv, _⟩
      · omega
      · rw [hv] at he
        simp only [Value.slice.injEq, Option.some.injEq] at he
        rw [← he.1]
        exact (rowO 3 1 (vs i) (T + 1) _).lt w hf gg (.inl (by rw [hv]; rfl))
  · have hj0 : j = 0 := by
      have := (List.getElem?_eq_some_iff.1 hj).1
      simp at this; omega
    subst hj0
    simp only [List.getElem?_cons_zero, Option.some.injEq] at hj
    subst hj
    have := rowA_cell h1 hi
    rw [show 0 + i * (sliceS intS).c + 0 = 0 + i by rw [show (sliceS intS).c = 1 from rfl]; omega]
    exact this
end Go.Proofs.Ytkkiopmdcolobaa.eng

/- ClimbB -/
namespace Go.Proofs.Ytkkiopmdcolobaa.eng
open Go.RowKit kit mix gramL treeL climbL
theorem build_sy0 (w : World) : (Instr.build 47 (#[] : Array (Nat × Value))).run Try.prog w = .ok (.agg (symC (0, 0)).toArray) w := by
  unfold symC; go_simp
set_option maxRecDepth 100000 in
theorem tdright_calls (g : Gram) (b : Option Addr) (cp : Nat) (d : TD) (w : World) (hd : okTD g d) : Calls Try.prog 55 #[graV g.terms g.nons (.slice b g.prods.length cp), tdV d] w (Meets (ret (.bool true)) w) := by
  cases d with
  | close p =>
    obtain ⟨h1, h2⟩ := hd
    refine enter (args := [graV g.terms g.nons (.slice b g.prods.length cp), tdV (.close p)]) (n := 65) Try.func55 rfl rfl rfl ?_
    refine T_seq (T_region (TL_box rfl rfl rfl fun g0 => TL_box rfl rfl rfl fun g1 => ?_))
    repeat (first
      | refine qv rfl (qp rfl) rfl rfl ?_ | refine TL_nil ?_ | refine T_seq ?_ | refine T_region ?_ | refine qcT rfl ?_ | refine qcF rfl ?_ | refine T_skip ?_
      | refine T_ret ?_ | refine T_block ?_ | refine E_then ?_ | refine E_thenR ?_ | refine E_blockN ?_ | refine E_blockR ?_
      | refine qs rfl rfl rfl rfl rfl rfl ?_
      | ((try refine qg rfl rfl rfl ?_); first | refine qv rfl (qp rfl) rfl rfl ?_ | refine qv rfl (rr_load1 (v := .bool true) TyC.ty rfl (at_blk (i := 1) rfl rfl)) rfl rfl ?_ | refine qv rfl (rr_load1 (v := .int .i64 p) TyC.ty rfl (at_blk (i := 1) rfl rfl)) rfl rfl ?_ | refine qv rfl (rr_load1 TyC.ty rfl (at_blk (i := 0) rfl rfl)) rfl rfl ?_ | refine qv rfl (rr_loadN (cs := symC (0, 0)) TyC.ty rfl rfl (fun j v hj => at_blk (i := 1) rfl (by match j, hj with | 0, h => exact h | 1, h => exact h))) rfl rfl ?_ | refine qv rfl (qfld FldC.fld rfl rfl) rfl rfl ?_ | refine qv rfl (rr_geq rfl rfl (qT (by omega))) rfl rfl ?_ | refine qv rfl (rr_geq rfl rfl (qF (by omega))) rfl rfl ?_ | refine qv rfl (rr_eql rfl rfl (qT (by omega))) rfl rfl ?_ | refine qv rfl (rr_eql rfl rfl (qF (by omega))) rfl rfl ?_ | refine qv rfl (rr_build rfl (build_sy0)) rfl rfl ?_ | refine qv rfl (rr_aggeq (b := true) rfl rfl (by kernel_rfl) (fun w => by rw [eq_sym]; rfl)) rfl rfl ?_ | refine qv rfl (qlen Und.eq rfl) rfl rfl ?_ | refine qv rfl (rr_lss rfl rfl (qT (by omega))) rfl rfl ?_ | refine qv rfl (rr_lss rfl rfl (qF (by omega))) rfl rfl ?_))
    exact E_ret1 rfl rfl fun w hm => hm.ret
  | sym x =>
    obtain ⟨k, m⟩ := x
    have hd : right g.terms g.nons (k, m) = true := hd
    unfold right at hd
    dsimp only at hd
    by_cases c1 : k = 1
    · subst c1
      rw [if_pos rfl] at hd
      simp only [Bool.and_eq_true, decide_eq_true_eq] at hd
      refine enter (args := [graV g.terms g.nons (.slice b g.prods.length cp), tdV (.sym (1, m))]) (n := 65) Try.func55 rfl rfl rfl ?_
      refine T_seq (T_region (TL_box rfl rfl rfl fun g0 => TL_box rfl rfl rfl fun g1 => ?_))
      repeat (first
        | refine qv rfl (qp rfl) rfl rfl ?_ | refine TL_nil ?_ | refine T_seq ?_ | refine T_region ?_ | refine qcT rfl ?_ | refine qcF rfl ?_ | refine T_skip ?_
        | refine T_ret ?_ | refine T_block ?_ | refine E_then ?_ | refine E_thenR ?_ | refine E_blockN ?_ | refine E_blockR ?_
        | refine qs rfl rfl rfl rfl rfl rfl ?_
        | ((try refine qg rfl rfl rfl ?_); first | refine qv rfl (qp rfl) rfl rfl ?_ | refine qv rfl (rr_load1 (v := .bool false) TyC.ty rfl (at_blk (i := 1) rfl rfl)) rfl rfl ?_ | refine qv rfl (rr_load1 (v := .int .i64 1) TyC.ty rfl (at_blk (i := 1) rfl rfl)) rfl rfl ?_ | refine qv rfl (rr_load1 (v := .int .i64 0) TyC.ty rfl (at_blk (i := 1) rfl rfl)) rfl rfl ?_ | refine qv rfl (rr_load1 (v := .int .i64 m) TyC.ty rfl (at_blk (i := 1) rfl rfl)) rfl rfl ?_ | refine qv rfl (rr_load1 TyC.ty rfl (at_blk (i := 0) rfl rfl)) rfl rfl ?_ | refine qv rfl (qfld FldC.fld rfl rfl) rfl rfl ?_ | refine qv rfl (rr_geq rfl rfl (qT (by omega))) rfl rfl ?_ | refine qv rfl (rr_geq rfl rfl (qF (by omega))) rfl rfl ?_ | refine qv rfl (rr_eql rfl rfl (qT (by omega))) rfl rfl ?_ | refine qv rfl (rr_eql rfl rfl (qF (by omega))) rfl rfl ?_ | refine qv rfl (qlen Und.eq rfl) rfl rfl ?_ | refine qv rfl (rr_lss rfl rfl (qT (by omega))) rfl rfl ?_ | refine qv rfl (rr_lss rfl rfl (qF (by omega))) rfl rfl ?_))
      exact E_ret1 rfl rfl fun w hm => hm.ret
    · rw [if_neg c1] at hd
      by_cases c2 : k = 2
      · subst c2
        rw [if_pos rfl] at hd
        simp only [Bool.and_eq_true, decide_eq_true_eq] at hd
        refine enter (args := [graV g.terms g.nons (.slice b g.prods.length cp), tdV (.sym (2, m))]) (n := 65) Try.func55 rfl rfl rfl ?_
        refine T_seq (T_region (TL_box rfl rfl rfl fun g0 => TL_box rfl rfl rfl fun g1 => ?_))
        repeat (first
          | refine qv rfl (qp rfl) rfl rfl ?_ | refine TL_nil ?_ | refine T_seq ?_ | refine T_region ?_ | refine qcT rfl ?_ | refine qcF rfl ?_ | refine T_skip ?_
          | refine T_ret ?_ | refine T_block ?_ | refine E_then ?_ | refine E_thenR ?_ | refine E_blockN ?_ | refine E_blockR ?_
          | refine qs rfl rfl rfl rfl rfl rfl ?_
          | ((try refine qg rfl rfl rfl ?_); first | refine qv rfl (qp rfl) rfl rfl ?_ | refine qv rfl (rr_load1 (v := .bool false) TyC.ty rfl (at_blk (i := 1) rfl rfl)) rfl rfl ?_ | refine qv rfl (rr_load1 (v := .int .i64 2) TyC.ty rfl (at_blk (i := 1) rfl rfl)) rfl rfl ?_ | refine qv rfl (rr_load1 (v := .int .i64 0) TyC.ty rfl (at_blk (i := 1) rfl rfl)) rfl rfl ?_ | refine qv rfl (rr_load1 (v := .int .i64 m) TyC.ty rfl (at_blk (i := 1) rfl rfl)) rfl rfl ?_ | refine qv rfl (rr_load1 TyC.ty rfl (at_blk (i := 0) rfl rfl)) rfl rfl ?_ | refine qv rfl (qfld FldC.fld rfl rfl) rfl rfl ?_ | refine qv rfl (rr_geq rfl rfl (qT (by omega))) rfl rfl ?_ | refine qv rfl (rr_geq rfl rfl (qF (by omega))) rfl rfl ?_ | refine qv rfl (rr_eql rfl rfl (qT (by omega))) rfl rfl ?_ | refine qv rfl (rr_eql rfl rfl (qF (by omega))) rfl rfl ?_ | refine qv rfl (qlen Und.eq rfl) rfl rfl ?_ | refine qv rfl (rr_lss rfl rfl (qT (by omega))) rfl rfl ?_ | refine qv rfl (rr_lss rfl rfl (qF (by omega))) rfl rfl ?_))
        exact E_ret1 rfl rfl fun w hm => hm.ret
      · rw [if_neg c2] at hd; cases hd
theorem tdright1_calls (g : Gram) (b : Option Addr) (cp : Nat) (d : TD) (gg : Nat) (w : World) (hd : okTD g d) (hg : w.heap[gg]? = some (.cells (graV g.terms g.nons (.slice b g.prods.length cp)).cells 24 (0, 0))) :
    Calls Try.prog 54 #[tdV d, .pointer (some ⟨gg, 0, none⟩)] w (Meets (ret (.bool false)) w) := by
  have hcell : ∀ (L : List Own) (j : Nat) (v : Value), ([.int .i64 g.terms, .int .i64 g.nons, .slice b g.prods.length cp] : List Value)[j]? = some v → At w L ⟨gg, 0 + j, none⟩ v := fun L j v hj => at_old (by
    rw [cell_of_row w gg (0 + j) _ _ _ hg, Nat.zero_add]
    show (#[.int .i64 g.terms, .int .i64 g.nons, .slice b g.prods.length cp] : Array Value)[j]? = some v
    simpa using hj)
  have hr := tdright_calls g b cp d
  refine enter (args := [tdV d, .pointer (some ⟨gg, 0, none⟩)]) (n := 8) Try.func54 rfl rfl rfl ?_
  refine T_seq (T_region (TL_box rfl rfl rfl fun g0 => ?_))
  repeat (first
    | refine qv rfl (qp rfl) rfl rfl ?_ | refine TL_nil ?_ | refine T_seq ?_ | refine T_region ?_ | refine T_ret ?_ | refine E_then ?_ | refine E_thenR ?_
    | refine qv rfl (rr_loadN TyC.ty rfl rfl (hcell _)) rfl rfl ?_ | refine qv rfl (rr_loadB (i := 0) TyC.ty rfl rfl rfl) rfl rfl ?_
    | refine qv rfl (rr_not rfl rfl) rfl rfl ?_)
  refine TL_call (he2 EntersC.en rfl rfl rfl) (fun w hm => hr w hd) rfl rfl rfl ?_
  intro _ _
  repeat (first
    | refine qv rfl (qp rfl) rfl rfl ?_ | refine TL_nil ?_ | refine T_seq ?_ | refine T_region ?_ | refine T_ret ?_ | refine E_then ?_ | refine E_thenR ?_
    | refine qv rfl (rr_not rfl rfl) rfl rfl ?_)
  exact E_ret1 rfl rfl fun w hm => hm.ret
/-- a climber's list that can be read -/
abbrev TdR (w : World) (vt : Value) (st : List TD) : Prop := Sl w vt st.length (st.reverse.flatMap tdC)
set_option maxHeartbeats 2000000 in
theorem climbCheck_calls (v vr vt : Value) (g : Gram) (ll : List (List Int)) (st : List TD) (seen col : Int) (w : World) (h : GraR (fun k => k < w.heap.size) w v g) (hr : RowsR w vr ll) (ht : TdR w vt st) (h0 : chkL g ll = 0) (hs : ∀ d ∈ st, okTD g d) (hl : st.length ≤ 60) (h1 : 0 ≤ seen) (h2 : seen ≤ 1099511627776) (h3 : 0 ≤ col) (h4 : col ≤ g.terms) :
    Calls Try.prog 28 #[v, vr, clV vt seen 0 false, .int .i64 col] w (Meets (ret (.int .i64 0)) w) := by
  have hck := fun w' (hg : Gr w w') => llCheck_calls v vr g ll w' (h.gr hg) (hr.gr hg)
  rw [h0] at hck
  obtain ⟨vp, rfl, hp, _⟩ := h
  obtain ⟨bp, cp, rfl, _⟩ := hp
  have hco := fun w' (hg : Gr w w') gg (hb : w'.heap[gg]? = some (.cells (graV g.terms g.nons (.slice bp g.prods.length cp)).cells 24 (0, 0))) => containsFuncTdS_calls vt st.reverse w' (by rw [List.length_reverse]; exact ht.gr hg) 54 #[] #[.pointer (some ⟨gg, 0, none⟩)] (fun _ => false) EntersC.en (fun a ha w'' hg' => tdright1_calls g bp cp a gg w'' (hs a (List.mem_reverse.1 ha)) (by rw [hg'.block gg (Array.getElem?_eq_some_iff.1 hb).1]; exact hb))
  have hany : st.reverse.any (fun _ => false) = false := by rw [List.any_eq_false]; intro _ _ h; cases h
  rw [hany] at hco
  obtain ⟨bt, ct, rfl, _⟩ := ht
  refine enter (args := [graV g.terms g.nons (.slice bp g.prods.length cp), vr, clV (.slice bt st.length ct) seen 0 false, .int .i64 col]) (n := 54) Try.func28 rfl rfl rfl ?_
  refine T_seq (T_region (TL_box rfl rfl rfl fun g0 => TL_box rfl rfl rfl fun g1 => ?_))
  repeat (first
    | refine qv rfl (qp rfl) rfl rfl ?_ | refine TL_nil ?_ | refine T_seq ?_ | refine T_region ?_ | refine qcT rfl ?_ | refine qcF rfl ?_ | refine T_skip ?_
    | refine T_ret ?_ | refine T_block ?_ | refine E_then ?_ | refine E_thenR ?_ | refine E_blockN ?_ | refine E_blockR ?_
    | refine qs rfl rfl rfl rfl rfl rfl ?_
    | ((try refine qg rfl rfl rfl ?_); first | refine qv rfl (qp rfl) rfl rfl ?_ | refine qv rfl (rr_loadB (i := 0) TyC.ty rfl rfl rfl) rfl rfl ?_ | refine qv rfl (qlen Und.eq rfl) rfl rfl ?_ | refine qv rfl (qfld FldC.fld rfl rfl) rfl rfl ?_ | refine qv rfl (rr_gtr rfl rfl (qT (by omega))) rfl rfl ?_ | refine qv rfl (rr_gtr rfl rfl (qF (by omega))) rfl rfl ?_ | refine qv rfl (rr_neq rfl rfl (qT (by omega))) rfl rfl ?_ | refine qv rfl (rr_neq rfl rfl (qF (by omega))) rfl rfl ?_ | refine qv rfl (rr_lss rfl rfl (qT (by omega))) rfl rfl ?_ | refine qv rfl (rr_lss rfl rfl (qF (by omega))) rfl rfl ?_))
  refine TL_call (he2 EntersC.en rfl rfl rfl) (fun w hm => hck _ hm.below) rfl rfl rfl ?_
  intro _ _
  conv => arg 8; simp only [zA, zB, zC, zD, zE, zF, zG, zH, zI, rowS, ret, id_eq]
  repeat (first
    | refine qv rfl (qp rfl) rfl rfl ?_ | refine TL_nil ?_ | refine T_seq ?_ | refine T_region ?_ | refine qcT rfl ?_ | refine qcF rfl ?_ | refine T_skip ?_
    | refine T_ret ?_ | refine T_block ?_ | refine E_then ?_ | refine E_thenR ?_ | refine E_blockN ?_ | refine E_blockR ?_
    | refine qs rfl rfl rfl rfl rfl rfl ?_
    | ((try refine qg rfl rfl rfl ?_); first | refine qv rfl (qp rfl) rfl rfl ?_ | refine qv rfl (rr_load1 (v := .slice bt st.length ct) TyC.ty rfl (at_blk (i := 1) rfl rfl)) rfl rfl ?_ | refine qv rfl (rr_load1 (v := .int .i64 seen) TyC.ty rfl (at_blk (i := 1) rfl rfl)) rfl rfl ?_ | refine qv rfl (rr_load1 (v := .int .i64 0) TyC.ty rfl (at_blk (i := 1) rfl rfl)) rfl rfl ?_ | refine qv rfl (rr_load1 (v := .bool false) TyC.ty rfl (at_blk (i := 1) rfl rfl)) rfl rfl ?_ | refine qv rfl (rr_load1 TyC.ty rfl (at_blk (i := 0) rfl rfl)) rfl rfl ?_ | refine qv rfl (rr_func rfl rfl) rfl rfl ?_ | refine qv rfl (qlen Und.eq rfl) rfl rfl ?_ | refine qv rfl (qfld FldC.fld rfl rfl) rfl rfl ?_ | refine qv rfl (rr_gtr rfl rfl (qT (by omega))) rfl rfl ?_ | refine qv rfl (rr_gtr rfl rfl (qF (by omega))) rfl rfl ?_ | refine qv rfl (rr_neq rfl rfl (qT (by omega))) rfl rfl ?_ | refine qv rfl (rr_neq rfl rfl (qF (by omega))) rfl rfl ?_ | refine qv rfl (rr_lss rfl rfl (qT (by omega))) rfl rfl ?_ | refine qv rfl (rr_lss rfl rfl (qF (by omega))) rfl rfl ?_))
  refine TL_call (he2 EntersC.en rfl rfl rfl) (fun w hm => hco _ hm.below _ (hm.get (i := 0) rfl)) rfl rfl rfl ?_
  intro _ _
  conv => arg 8; simp only [zA, zB, zC, zD, zE, zF, zG, zH, zI, rowS, ret, id_eq]
  repeat (first
    | refine qv rfl (qp rfl) rfl rfl ?_ | refine TL_nil ?_ | refine T_seq ?_ | refine T_region ?_ | refine qcT rfl ?_ | refine qcF rfl ?_ | refine T_skip ?_
    | refine T_ret ?_ | refine T_block ?_ | refine E_then ?_ | refine E_thenR ?_ | refine E_blockN ?_ | refine E_blockR ?_
    | refine qs rfl rfl rfl rfl rfl rfl ?_
    | ((try refine qg rfl rfl rfl ?_); first | refine qv rfl (qp rfl) rfl rfl ?_ | refine qv rfl (rr_load1 (v := .int .i64 0) TyC.ty rfl (at_blk (i := 1) rfl rfl)) rfl rfl ?_ | refine qv rfl (rr_load1 (v := .bool false) TyC.ty rfl (at_blk (i := 1) rfl rfl)) rfl rfl ?_ | refine qv rfl (qlen Und.eq rfl) rfl rfl ?_ | refine qv rfl (qfld FldC.fld rfl rfl) rfl rfl ?_ | refine qv rfl (rr_gtr rfl rfl (qT (by omega))) rfl rfl ?_ | refine qv rfl (rr_gtr rfl rfl (qF (by omega))) rfl rfl ?_ | refine qv rfl (rr_neq rfl rfl (qT (by omega))) rfl rfl ?_ | refine qv rfl (rr_neq rfl rfl (qF (by omega))) rfl rfl ?_ | refine qv rfl (rr_lss rfl rfl (qT (by omega))) rfl rfl ?_ | refine qv rfl (rr_lss rfl rfl (qF (by omega))) rfl rfl ?_))
  exact E_ret1 rfl rfl fun w hm => hm.ret
end Go.Proofs.Ytkkiopmdcolobaa.eng

/- ClimbC -/
namespace Go.Proofs.Ytkkiopmdcolobaa.eng
open Go.RowKit kit mix gramL treeL climbL
/-- what a table says -/
def nxL (ll : List (List Int)) (col : Nat) (n : Int) : Int := (ll.getD n.toNat []).getD col (-1)
/-- a table that can be asked -/
structure TabOk (g : Gram) (ll : List (List Int)) (T N : Nat) : Prop where
  terms : g.terms = T
  nons : g.nons = N
  len : ll.length = N
  row : ∀ r ∈ ll, r.length = T + 1
  nx : ∀ col, NxOk g.prods (nxL ll col)
theorem down_no1 {l : List gramL.Prod} {nx : Int → Int} {f : Nat} {st : List TD} {out : List Sym} {a : Nat} (h : (closesF st out a).2.2.2 = false) : downF l nx (f + 1) st out a = ((closesF st out a).1, (closesF st out a).2.1, (closesF st out a).2.2.1, 14) := by
  rw [downF, if_pos h]
theorem down_nil {l : List gramL.Prod} {nx : Int → Int} {f : Nat} {st : List TD} {out : List Sym} {a : Nat} (h : (closesF st out a).2.2.2 = true) (h2 : (closesF st out a).1 = []) : downF l nx (f + 1) st out a = ([], (closesF st out a).2.1, (closesF st out a).2.2.1, 0) := by
  rw [downF, if_neg (by simp [h])]
  simp only [h2]
theorem down_sym {l : List gramL.Prod} {nx : Int → Int} {f : Nat} {st : List TD} {out : List Sym} {a : Nat} {x : Sym} {r : List TD} (h : (closesF st out a).2.2.2 = true) (h2 : (closesF st out a).1 = .sym x :: r) :
    downF l nx (f + 1) st out a = if x.1 = 1 then (.sym x :: r, (closesF st out a).2.1, (closesF st out a).2.2.1, 0) else if nx x.2 < 0 then (.sym x :: r, (closesF st out a).2.1, (closesF st out a).2.2.1, 13)
      else if (closesF st out a).2.2.1 + 1 ≤ 2000 ∧ (opened l (nx x.2) r).length ≤ 60 then downF l nx f (opened l (nx x.2) r) ((closesF st out a).2.1 ++ [(1, nx x.2)]) ((closesF st out a).2.2.1 + 1)
      else (opened l (nx x.2) r, (closesF st out a).2.1 ++ [(1, nx x.2)], (closesF st out a).2.2.1 + 1, 14) := by
  rw [downF, if_neg (by simp [h])]
  simp only [h2]
def dwS (gw : Nat) (t n : Int) (vp : Value) (R : List TD × List Sym × Nat × Int) : Spec (Value × Value) := ⟨fun _ => True, fun _ => .int .i64 R.2.2.2, fun x => [cwO gw t n vp x.1 x.2 R.2.2.1, tdO x.1 R.1, evO x.2 R.2.1]⟩
set_option maxHeartbeats 4000000 in
theorem wdown_calls (w0 : World) (gw : Nat) (t n : Int) (vp vr : Value) (g : Gram) (ll : List (List Int)) (T N col : Nat) (hG : SlF prodS (fun k => k < w0.heap.size) w0 vp g.prods) (hR : RowsR w0 vr ll) (hg : checkG g = 0) (hT : TabOk g ll T N) (hcol : col ≤ T)
    (vt0 vo0 : Value) (st0 : List TD) (w : World) (B : Base) (hs0 : ∀ d ∈ st0, okTD g d) (hl0 : st0.length ≤ 60) (ho : Old w0 B) (hm : Mem B [cwO gw t n vp vt0 vo0 0, tdO vt0 st0, evO vo0 []] w) :
    Calls Try.prog 31 #[.pointer (some ⟨gw, 0, none⟩), vr, .int .i64 (col : Int)] w (MeetsB (dwS gw t n vp (downF g.prods (nxL ll col) 2001 st0 [] 0)) B) := by
  obtain ⟨a1, a2, a3, a4, a5, a6⟩ := checkG_ok hg
  have hopen := fun p hp vt vo d r out acts w B h1 h2 h3 ho hm => open_calls w0 gw t n vp g.prods hG (by omega) p hp (a6 _ (List.getElem_mem hp)).1 vt vo d r out acts w B h1 h2 h3 ho hm
  have hnx := hT.nx col
  obtain ⟨br, cr, rfl, hr1, hr2, hr3⟩ := hR
  unfold maxLen at hr2
  refine enterB hm (args := [.pointer (some ⟨gw, 0, none⟩), .slice br ll.length cr, .int .i64 (col : Int)]) (n := 60) Try.func31 rfl rfl rfl ?_
  clear hm
  repeat (first
    | refine qv rfl (qp rfl) rfl rfl ?_ | refine TL_nil ?_ | refine T_seq ?_ | refine T_region ?_ | refine qcT rfl ?_ | refine qcF rfl ?_ | refine T_skip ?_
    | refine T_ret ?_ | refine T_block ?_ | refine E_then ?_ | refine E_thenR ?_ | refine E_blockN ?_ | refine E_blockR ?_
    | refine qs rfl rfl rfl rfl rfl rfl ?_
    | ((try refine qg rfl rfl rfl ?_); first | refine qv rfl (qp rfl) rfl rfl ?_ | refine qv rfl (qlen Und.eq rfl) rfl rfl ?_ | refine qv rfl (qfld FldC.fld rfl rfl) rfl rfl ?_ | refine qv rfl (rr_not rfl rfl) rfl rfl ?_ | refine qv rfl (rr_nilc rfl) rfl rfl ?_ | refine qv rfl (rr_lss rfl rfl (qT (by omega))) rfl rfl ?_ | refine qv rfl (rr_lss rfl rfl (qF (by omega))) rfl rfl ?_ | refine qv rfl (rr_eql rfl rfl (qT (by omega))) rfl rfl ?_ | refine qv rfl (rr_eql rfl rfl (qF (by omega))) rfl rfl ?_ | refine qv rfl (rr_sub64 rfl rfl (by omega) (by omega) rfl) rfl rfl ?_))
  generalize hD : downF g.prods (nxL ll col) 2001 st0 [] 0 = D
  refine T_loop (ι := Nat × List TD × List Sym × Nat × Value × Value) (fun (f, st, out, acts, _, _) => downF g.prods (nxL ll col) f st out acts = D ∧ 2001 ≤ f + acts ∧ st.length ≤ 60 ∧ acts ≤ 2000 ∧ out.length = acts ∧ ∀ d ∈ st, okTD g d) (fun _ => [(0, .pointer (some ⟨gw, 0, none⟩)), (1, .slice br ll.length cr), (2, .int .i64 (col : Int))])
    (fun (_, st, out, acts, vt, vo) => [cwO gw t n vp vt vo acts, tdO vt st, evO vo out]) (fun (f, _, _, _, _, _) => f) (2001, st0, [], 0, vt0, vo0) ⟨hD, by omega, hl0, by omega, rfl, hs0⟩ (by repeat' (first | exact True.intro | refine And.intro rfl ?_)) rfl ?_
  clear hD hs0 hl0
  rintro ⟨f, st, out, acts, vt, vo⟩ ⟨hD, h1, h2, h3, h4, h5⟩
  dsimp only at hD h1 h2 h3 h4 h5 ⊢
  obtain ⟨f, rfl⟩ : ∃ f', f = f' + 1 := ⟨f - 1, by omega⟩
  repeat (first
    | refine qv rfl (qp rfl) rfl rfl ?_ | refine TL_nil ?_ | refine T_seq ?_ | refine T_region ?_ | refine qcT rfl ?_ | refine qcF rfl ?_ | refine T_skip ?_
    | refine T_ret ?_ | refine T_block ?_ | refine E_then ?_ | refine E_thenR ?_ | refine E_blockN ?_ | refine E_blockR ?_
    | refine qs rfl rfl rfl rfl rfl rfl ?_
    | ((try refine qg rfl rfl rfl ?_); first | refine qv rfl (qp rfl) rfl rfl ?_ | refine qv rfl (qlen Und.eq rfl) rfl rfl ?_ | refine qv rfl (qfld FldC.fld rfl rfl) rfl rfl ?_ | refine qv rfl (rr_not rfl rfl) rfl rfl ?_ | refine qv rfl (rr_nilc rfl) rfl rfl ?_ | refine qv rfl (rr_lss rfl rfl (qT (by omega))) rfl rfl ?_ | refine qv rfl (rr_lss rfl rfl (qF (by omega))) rfl rfl ?_ | refine qv rfl (rr_eql rfl rfl (qT (by omega))) rfl rfl ?_ | refine qv rfl (rr_eql rfl rfl (qF (by omega))) rfl rfl ?_ | refine qv rfl (rr_sub64 rfl rfl (by omega) (by omega) rfl) rfl rfl ?_))
  refine TL_callB [0, 1, 2] [] (by decide) rfl rfl (he1 EntersC.en rfl rfl) (fun w hm hb => workCloses_calls gw t n vp vt vo st out acts w _ (by omega) h3 h4 hb) rfl rfl rfl ?_
  obtain ⟨z1, z2, z3, z4⟩ := @closes_len st out acts
  have z5 := closes_ok (out := out) (a := acts) h5
  rintro ⟨vt1, vo1⟩ _
  conv => arg 8; simp only [zA, zB, zC, zD, zE, zF, zG, zH, zI, rowS, ret, id_eq, clS, List.nil_append]
  have hno := @down_no1 g.prods (nxL ll col) f st out acts
  have hnil := @down_nil g.prods (nxL ll col) f st out acts
  have hsym := fun x r => @down_sym g.prods (nxL ll col) f st out acts x r
  have htop := @closes_top st out acts
  generalize closesF st out acts = C at *
  obtain ⟨st1, out1, a1', ok⟩ := C
  dsimp only at *
  cases ok with
  | false =>
    rw [hno rfl] at hD
    subst hD
    repeat (first
      | refine qv rfl (qp rfl) rfl rfl ?_ | refine TL_nil ?_ | refine T_seq ?_ | refine T_region ?_ | refine qcT rfl ?_ | refine qcF rfl ?_ | refine T_skip ?_
      | refine T_ret ?_ | refine T_block ?_ | refine E_then ?_ | refine E_thenR ?_ | refine E_blockN ?_ | refine E_blockR ?_
      | refine qs rfl rfl rfl rfl rfl rfl ?_
      | ((try refine qg rfl rfl rfl ?_); first | refine qv rfl (qp rfl) rfl rfl ?_ | refine qv rfl (qlen Und.eq rfl) rfl rfl ?_ | refine qv rfl (qfld FldC.fld rfl rfl) rfl rfl ?_ | refine qv rfl (rr_not rfl rfl) rfl rfl ?_ | refine qv rfl (rr_nilc rfl) rfl rfl ?_ | refine qv rfl (rr_lss rfl rfl (qT (by omega))) rfl rfl ?_ | refine qv rfl (rr_lss rfl rfl (qF (by omega))) rfl rfl ?_ | refine qv rfl (rr_eql rfl rfl (qT (by omega))) rfl rfl ?_ | refine qv rfl (rr_eql rfl rfl (qF (by omega))) rfl rfl ?_ | refine qv rfl (rr_sub64 rfl rfl (by omega) (by omega) rfl) rfl rfl ?_))
    exact E_ret1 rfl rfl fun w hm => hm.meetsB (S := dwS gw t n vp (st1, out1, a1', 14)) (vt1, vo1) trivial [0, 1, 2] (by decide) rfl
  | true =>
    have zz3 := z3 rfl h3
    clear z3
    rcases htop rfl with rfl | ⟨x, r, rfl⟩
    · rw [hnil rfl rfl] at hD
      subst hD
      repeat (first
        | refine qv rfl (qp rfl) rfl rfl ?_ | refine TL_nil ?_ | refine T_seq ?_ | refine T_region ?_ | refine qcT rfl ?_ | refine qcF rfl ?_ | refine T_skip ?_
        | refine T_ret ?_ | refine T_block ?_ | refine E_then ?_ | refine E_thenR ?_ | refine E_blockN ?_ | refine E_blockR ?_
        | refine qs rfl rfl rfl rfl rfl rfl ?_
        | ((try refine qg rfl rfl rfl ?_); first | refine qv rfl (qp rfl) rfl rfl ?_ | refine qv rfl (qlen Und.eq rfl) rfl rfl ?_ | refine qv rfl (qfld FldC.fld rfl rfl) rfl rfl ?_ | refine qv rfl (rr_not rfl rfl) rfl rfl ?_ | refine qv rfl (rr_nilc rfl) rfl rfl ?_ | refine qv rfl (rr_lss rfl rfl (qT (by omega))) rfl rfl ?_ | refine qv rfl (rr_lss rfl rfl (qF (by omega))) rfl rfl ?_ | refine qv rfl (rr_eql rfl rfl (qT (by omega))) rfl rfl ?_ | refine qv rfl (rr_eql rfl rfl (qF (by omega))) rfl rfl ?_ | refine qv rfl (rr_sub64 rfl rfl (by omega) (by omega) rfl) rfl rfl ?_))
      refine T_ord ([cwO gw t n vp vt1 vo1 a1', tdO vt1 []]) (.calm 0 (.calm 1 (.calm 2 (.calm 3 (.calm 4 (.calm 5 (.calm 6 (.calm 7 (.calm 8 (.calm 9 (.calm 10 (.calm 11 (.calm 12 (.calm 13 (.calm 14 (.calm 15 (.calm 16 (.calm 17 (.calm 18 (.calm 19 (.calm 20 (.calm 21 (.calm 22 (.done)))))))))))))))))))))))) (sub_pick [0, 1] (by decide) rfl) (by kernel_rfl) (by kernel_rfl) (by intro c a d v w h; cases d <;> exact h) ?_
      repeat (first
        | ((first | refine TW_plain rfl rfl ?_ | refine TW_gmet rfl rfl rfl rfl ?_); first | refine TN_val (qp rfl) rfl rfl ?_ | refine TN_val (rr_load1 (v := vt1) TyC.ty rfl (at_blk (i := 0) rfl rfl)) rfl rfl ?_ | refine TN_val (rr_rowlen (i := 1) Und.eq rfl rfl) rfl rfl ?_ | refine TN_val (rr_eql (b := true) rfl rfl rfl) rfl rfl ?_ | refine TN_val (qlen Und.eq rfl) rfl rfl ?_ | refine TN_val (qfld FldC.fld rfl rfl) rfl rfl ?_ | refine TN_val (rr_not rfl rfl) rfl rfl ?_ | refine TN_val (rr_nilc rfl) rfl rfl ?_ | refine TN_val (rr_lss rfl rfl (qT (by omega))) rfl rfl ?_ | refine TN_val (rr_lss rfl rfl (qF (by omega))) rfl rfl ?_ | refine TN_val (rr_eql rfl rfl (qT (by omega))) rfl rfl ?_ | refine TN_val (rr_eql rfl rfl (qF (by omega))) rfl rfl ?_ | refine TN_val (rr_sub64 rfl rfl (by omega) (by omega) rfl) rfl rfl ?_)
        | refine TW_skip rfl rfl rfl rfl rfl rfl rfl ?_ | refine TW_done ?_)
      repeat (first
        | refine qv rfl (qp rfl) rfl rfl ?_ | refine TL_nil ?_ | refine T_seq ?_ | refine T_region ?_ | refine qcT rfl ?_ | refine qcF rfl ?_ | refine T_skip ?_
        | refine T_ret ?_ | refine T_block ?_ | refine E_then ?_ | refine E_thenR ?_ | refine E_blockN ?_ | refine E_blockR ?_
        | refine qs rfl rfl rfl rfl rfl rfl ?_
        | ((try refine qg rfl rfl rfl ?_); first | refine qv rfl (qp rfl) rfl rfl ?_ | refine qv rfl (qlen Und.eq rfl) rfl rfl ?_ | refine qv rfl (qfld FldC.fld rfl rfl) rfl rfl ?_ | refine qv rfl (rr_not rfl rfl) rfl rfl ?_ | refine qv rfl (rr_nilc rfl) rfl rfl ?_ | refine qv rfl (rr_lss rfl rfl (qT (by omega))) rfl rfl ?_ | refine qv rfl (rr_lss rfl rfl (qF (by omega))) rfl rfl ?_ | refine qv rfl (rr_eql rfl rfl (qT (by omega))) rfl rfl ?_ | refine qv rfl (rr_eql rfl rfl (qF (by omega))) rfl rfl ?_ | refine qv rfl (rr_sub64 rfl rfl (by omega) (by omega) rfl) rfl rfl ?_))
      exact E_ret1 rfl rfl fun w hm => hm.meetsB (S := dwS gw t n vp ([], out1, a1', 0)) (vt1, vo1) trivial [0, 1, 2] (by decide) rfl
    · have hsy := hsym x r rfl rfl
      simp only [List.length_cons] at z1
      have z6 : right g.terms g.nons x = true := z5 _ (List.mem_cons_self ..)
      have z7 := fun d hd => z5 d (List.mem_cons_of_mem _ hd)
      clear hno hnil htop hsym
      repeat (first
        | refine qv rfl (qp rfl) rfl rfl ?_ | refine TL_nil ?_ | refine T_seq ?_ | refine T_region ?_ | refine qcT rfl ?_ | refine qcF rfl ?_ | refine T_skip ?_
        | refine T_ret ?_ | refine T_block ?_ | refine E_then ?_ | refine E_thenR ?_ | refine E_blockN ?_ | refine E_blockR ?_
        | refine qs rfl rfl rfl rfl rfl rfl ?_
        | ((try refine qg rfl rfl rfl ?_); first | refine qv rfl (qp rfl) rfl rfl ?_ | refine qv rfl (qlen Und.eq rfl) rfl rfl ?_ | refine qv rfl (qfld FldC.fld rfl rfl) rfl rfl ?_ | refine qv rfl (rr_not rfl rfl) rfl rfl ?_ | refine qv rfl (rr_nilc rfl) rfl rfl ?_ | refine qv rfl (rr_lss rfl rfl (qT (by omega))) rfl rfl ?_ | refine qv rfl (rr_lss rfl rfl (qF (by omega))) rfl rfl ?_ | refine qv rfl (rr_eql rfl rfl (qT (by omega))) rfl rfl ?_ | refine qv rfl (rr_eql rfl rfl (qF (by omega))) rfl rfl ?_ | refine qv rfl (rr_sub64 rfl rfl (by omega) (by omega) rfl) rfl rfl ?_))
      refine T_rowN (i := 1) rfl (by simp) fun gt ct hv q1 q2 => ?_
      subst hv
      simp only [List.length_cons] at *
      obtain ⟨k, m⟩ := x
      by_cases c1 : k = 1
      · subst c1
        rw [if_pos rfl] at hsy
        rw [hsy] at hD
        subst hD
        refine T_ord ([cwO gw t n vp (.slice (some ⟨gt, 0, none⟩) (r.length + 1) ct) vo1 a1', tdO (.slice (some ⟨gt, 0, none⟩) (r.length + 1) ct) (.sym (1, m) :: r)]) (.calm 0 (.calm 1 (.calm 2 (.calm 3 (.calm 4 (.calm 5 (.calm 6 (.calm 7 (.calm 8 (.calm 9 (.calm 10 (.calm 11 (.calm 12 (.calm 13 (.calm 14 (.calm 15 (.calm 16 (.calm 17 (.calm 18 (.calm 19 (.calm 20 (.calm 21 (.calm 22 (.done)))))))))))))))))))))))) (sub_pick [0, 1] (by decide) rfl) (by kernel_rfl) (by kernel_rfl) (by intro c a d v w h; cases d <;> exact h) ?_
        repeat (first
          | ((first | refine TW_plain rfl rfl ?_ | refine TW_gmet rfl rfl rfl rfl ?_); first | refine TN_val (qp rfl) rfl rfl ?_ | refine TN_val (rr_load1 (v := .slice (some ⟨gt, 0, none⟩) (r.length + 1) ct) TyC.ty rfl (at_blk (i := 0) rfl rfl)) rfl rfl ?_ | refine TN_val (rr_sub64 (r := (r.length : Int)) rfl rfl (by omega) (by omega) (by omega)) rfl rfl ?_ | refine TN_val (rr_idxc (j := r.length) Und.eq TyC.ty rfl rfl (by omega)) rfl rfl ?_ | refine TN_val (rr_load1 (v := .int .i64 1) TyC.ty rfl (td_at (i := 1) rfl 2 _ rfl)) rfl rfl ?_ | refine TN_val (rr_eql (b := false) rfl rfl (decide_eq_false (by omega))) rfl rfl ?_ | refine TN_val (rr_eql (b := true) rfl rfl rfl) rfl rfl ?_ | refine TN_val (qlen Und.eq rfl) rfl rfl ?_ | refine TN_val (qfld FldC.fld rfl rfl) rfl rfl ?_ | refine TN_val (rr_not rfl rfl) rfl rfl ?_ | refine TN_val (rr_nilc rfl) rfl rfl ?_ | refine TN_val (rr_lss rfl rfl (qT (by omega))) rfl rfl ?_ | refine TN_val (rr_lss rfl rfl (qF (by omega))) rfl rfl ?_ | refine TN_val (rr_eql rfl rfl (qT (by omega))) rfl rfl ?_ | refine TN_val (rr_eql rfl rfl (qF (by omega))) rfl rfl ?_ | refine TN_val (rr_sub64 rfl rfl (by omega) (by omega) rfl) rfl rfl ?_)
          | refine TW_skip rfl rfl rfl rfl rfl rfl rfl ?_ | refine TW_done ?_)
        repeat (first
          | refine qv rfl (qp rfl) rfl rfl ?_ | refine TL_nil ?_ | refine T_seq ?_ | refine T_region ?_ | refine qcT rfl ?_ | refine qcF rfl ?_ | refine T_skip ?_
          | refine T_ret ?_ | refine T_block ?_ | refine E_then ?_ | refine E_thenR ?_ | refine E_blockN ?_ | refine E_blockR ?_
          | refine qs rfl rfl rfl rfl rfl rfl ?_
          | ((try refine qg rfl rfl rfl ?_); first | refine qv rfl (qp rfl) rfl rfl ?_ | refine qv rfl (qlen Und.eq rfl) rfl rfl ?_ | refine qv rfl (qfld FldC.fld rfl rfl) rfl rfl ?_ | refine qv rfl (rr_not rfl rfl) rfl rfl ?_ | refine qv rfl (rr_nilc rfl) rfl rfl ?_ | refine qv rfl (rr_lss rfl rfl (qT (by omega))) rfl rfl ?_ | refine qv rfl (rr_lss rfl rfl (qF (by omega))) rfl rfl ?_ | refine qv rfl (rr_eql rfl rfl (qT (by omega))) rfl rfl ?_ | refine qv rfl (rr_eql rfl rfl (qF (by omega))) rfl rfl ?_ | refine qv rfl (rr_sub64 rfl rfl (by omega) (by omega) rfl) rfl rfl ?_))
        exact E_ret1 rfl rfl fun w hm => hm.meetsB (S := dwS gw t n vp (.sym (1, m) :: r, out1, a1', 0)) (_, vo1) trivial [0, 1, 2] (by decide) rfl
      · rw [if_neg c1] at hsy
        unfold right at z6
        dsimp only at z6
        rw [if_neg c1] at z6
        by_cases c2 : k = 2
        · subst c2
          rw [if_pos rfl] at z6
          simp only [Bool.and_eq_true, decide_eq_true_eq] at z6
          obtain ⟨q, rfl⟩ : ∃ q : Nat, m = q := ⟨m.toNat, by omega⟩
          have hq : q < ll.length := by rw [hT.len]; have := hT.nons; omega
          obtain ⟨b, off, rfl, _, hrd⟩ := hr3 (by omega)
          obtain ⟨vi, y1, y2⟩ := rows_at hrd hq
          have hrl := hT.row _ (List.getElem_mem hq)
          have hnxq : nxL ll col (q : Int) = ll[q].getD col (-1) := by unfold nxL; rw [Int.toNat_natCast, List.getD_eq_getElem?_getD (l := ll), List.getElem?_eq_getElem hq]; rfl
          have hok := hnx (q : Int)
          rw [hnxq] at hok
          dsimp only at hsy
          rw [hnxq] at hsy
          generalize ll[q] = row at *
          obtain ⟨bi, ci, rfl, w1, w2, w3⟩ := y2
          obtain ⟨b3, off3, rfl, hrd3⟩ := w3 (by omega)
          have hc : row[col]? = some (row.getD col (-1)) := by rw [List.getD_eq_getElem?_getD, List.getElem?_eq_getElem (by omega)]; rfl
          have hat1 : ∀ L, At B L ⟨b, off + q, none⟩ (.slice (some ⟨b3, off3, none⟩) row.length ci) := fun L => at_old0 ho y1
          have hat2 : ∀ L, At B L ⟨b3, off3 + col, none⟩ (.int .i64 (row.getD col (-1))) := fun L => at_old0 ho (hrd3 col _ (by rw [List.getElem?_map, hc]; rfl))
          clear hrd y1 hrd3 w3 hr3
          generalize row.getD col (-1) = p at *
          refine T_ord ([cwO gw t n vp (.slice (some ⟨gt, 0, none⟩) (r.length + 1) ct) vo1 a1', tdO (.slice (some ⟨gt, 0, none⟩) (r.length + 1) ct) (.sym (2, (q : Int)) :: r)]) (.calm 0 (.calm 1 (.calm 2 (.calm 3 (.calm 4 (.calm 5 (.calm 6 (.calm 7 (.calm 8 (.calm 9 (.calm 10 (.calm 11 (.calm 12 (.calm 13 (.calm 14 (.calm 15 (.calm 16 (.calm 17 (.calm 18 (.calm 19 (.calm 20 (.calm 21 (.calm 22 (.done)))))))))))))))))))))))) (sub_pick [0, 1] (by decide) rfl) (by kernel_rfl) (by kernel_rfl) (by intro c a d v w h; cases d <;> exact h) ?_
          repeat (first
            | ((first | refine TW_plain rfl rfl ?_ | refine TW_gmet rfl rfl rfl rfl ?_); first | refine TN_val (qp rfl) rfl rfl ?_ | refine TN_val (rr_load1 (v := .slice (some ⟨gt, 0, none⟩) (r.length + 1) ct) TyC.ty rfl (at_blk (i := 0) rfl rfl)) rfl rfl ?_ | refine TN_val (rr_sub64 (r := (r.length : Int)) rfl rfl (by omega) (by omega) (by omega)) rfl rfl ?_ | refine TN_val (rr_idxc (j := r.length) Und.eq TyC.ty rfl rfl (by omega)) rfl rfl ?_ | refine TN_val (rr_load1 (v := .int .i64 2) TyC.ty rfl (td_at (i := 1) rfl 2 _ rfl)) rfl rfl ?_ | refine TN_val (rr_eql (b := false) rfl rfl (decide_eq_false (by omega))) rfl rfl ?_ | refine TN_val (qlen Und.eq rfl) rfl rfl ?_ | refine TN_val (qfld FldC.fld rfl rfl) rfl rfl ?_ | refine TN_val (rr_not rfl rfl) rfl rfl ?_ | refine TN_val (rr_nilc rfl) rfl rfl ?_ | refine TN_val (rr_lss rfl rfl (qT (by omega))) rfl rfl ?_ | refine TN_val (rr_lss rfl rfl (qF (by omega))) rfl rfl ?_ | refine TN_val (rr_eql rfl rfl (qT (by omega))) rfl rfl ?_ | refine TN_val (rr_eql rfl rfl (qF (by omega))) rfl rfl ?_ | refine TN_val (rr_sub64 rfl rfl (by omega) (by omega) rfl) rfl rfl ?_)
            | refine TW_skip rfl rfl rfl rfl rfl rfl rfl ?_ | refine TW_done ?_)
          repeat (first
            | refine qv rfl (qp rfl) rfl rfl ?_ | refine TL_nil ?_ | refine T_seq ?_ | refine T_region ?_ | refine qcT rfl ?_ | refine qcF rfl ?_ | refine T_skip ?_
            | refine T_ret ?_ | refine T_block ?_ | refine E_then ?_ | refine E_thenR ?_ | refine E_blockN ?_ | refine E_blockR ?_
            | refine qs rfl rfl rfl rfl rfl rfl ?_
            | ((try refine qg rfl rfl rfl ?_); first | refine qv rfl (qp rfl) rfl rfl ?_ | refine qv rfl (qlen Und.eq rfl) rfl rfl ?_ | refine qv rfl (qfld FldC.fld rfl rfl) rfl rfl ?_ | refine qv rfl (rr_not rfl rfl) rfl rfl ?_ | refine qv rfl (rr_nilc rfl) rfl rfl ?_ | refine qv rfl (rr_lss rfl rfl (qT (by omega))) rfl rfl ?_ | refine qv rfl (rr_lss rfl rfl (qF (by omega))) rfl rfl ?_ | refine qv rfl (rr_eql rfl rfl (qT (by omega))) rfl rfl ?_ | refine qv rfl (rr_eql rfl rfl (qF (by omega))) rfl rfl ?_ | refine qv rfl (rr_sub64 rfl rfl (by omega) (by omega) rfl) rfl rfl ?_))
          refine T_ord ([cwO gw t n vp (.slice (some ⟨gt, 0, none⟩) (r.length + 1) ct) vo1 a1', tdO (.slice (some ⟨gt, 0, none⟩) (r.length + 1) ct) (.sym (2, (q : Int)) :: r)]) (.calm 0 (.calm 1 (.calm 2 (.calm 3 (.calm 4 (.calm 5 (.calm 6 (.calm 7 (.calm 8 (.calm 9 (.calm 10 (.calm 11 (.calm 12 (.calm 13 (.calm 14 (.calm 15 (.calm 16 (.calm 17 (.calm 18 (.calm 19 (.calm 20 (.done)))))))))))))))))))))) (sub_pick [0, 1] (by decide) rfl) (by kernel_rfl) (by kernel_rfl) (by intro c a d v w h; cases d <;> exact h) ?_
          repeat (first
            | ((first | refine TW_plain rfl rfl ?_ | refine TW_gmet rfl rfl rfl rfl ?_); first | refine TN_val (qp rfl) rfl rfl ?_ | refine TN_val (rr_load1 (v := .slice (some ⟨gt, 0, none⟩) (r.length + 1) ct) TyC.ty rfl (at_blk (i := 0) rfl rfl)) rfl rfl ?_ | refine TN_val (rr_sub64 (r := (r.length : Int)) rfl rfl (by omega) (by omega) (by omega)) rfl rfl ?_ | refine TN_val (rr_idxc (j := r.length) Und.eq TyC.ty rfl rfl (by omega)) rfl rfl ?_ | refine TN_val (rr_load1 (v := .int .i64 (q : Int)) TyC.ty rfl (td_at (i := 1) rfl 3 _ rfl)) rfl rfl ?_ | refine TN_val (rr_idx1 (j := q) Und.eq TyC.ty rfl rfl hq) rfl rfl ?_ | refine TN_val (rr_load1 TyC.ty rfl (hat1 _)) rfl rfl ?_ | refine TN_val (rr_idx1 (j := col) Und.eq TyC.ty rfl rfl (by omega)) rfl rfl ?_ | refine TN_val (rr_load1 TyC.ty rfl (hat2 _)) rfl rfl ?_ | refine TN_val (qlen Und.eq rfl) rfl rfl ?_ | refine TN_val (qfld FldC.fld rfl rfl) rfl rfl ?_ | refine TN_val (rr_not rfl rfl) rfl rfl ?_ | refine TN_val (rr_nilc rfl) rfl rfl ?_ | refine TN_val (rr_lss rfl rfl (qT (by omega))) rfl rfl ?_ | refine TN_val (rr_lss rfl rfl (qF (by omega))) rfl rfl ?_ | refine TN_val (rr_eql rfl rfl (qT (by omega))) rfl rfl ?_ | refine TN_val (rr_eql rfl rfl (qF (by omega))) rfl rfl ?_ | refine TN_val (rr_sub64 rfl rfl (by omega) (by omega) rfl) rfl rfl ?_)
            | refine TW_skip rfl rfl rfl rfl rfl rfl rfl ?_ | refine TW_done ?_)
          by_cases c3 : p < 0
          · rw [if_pos c3] at hsy
            rw [hsy] at hD
            subst hD
            repeat (first
              | refine qv rfl (qp rfl) rfl rfl ?_ | refine TL_nil ?_ | refine T_seq ?_ | refine T_region ?_ | refine qcT rfl ?_ | refine qcF rfl ?_ | refine T_skip ?_
              | refine T_ret ?_ | refine T_block ?_ | refine E_then ?_ | refine E_thenR ?_ | refine E_blockN ?_ | refine E_blockR ?_
              | refine qs rfl rfl rfl rfl rfl rfl ?_
              | ((try refine qg rfl rfl rfl ?_); first | refine qv rfl (qp rfl) rfl rfl ?_ | refine qv rfl (qlen Und.eq rfl) rfl rfl ?_ | refine qv rfl (qfld FldC.fld rfl rfl) rfl rfl ?_ | refine qv rfl (rr_not rfl rfl) rfl rfl ?_ | refine qv rfl (rr_nilc rfl) rfl rfl ?_ | refine qv rfl (rr_lss rfl rfl (qT (by omega))) rfl rfl ?_ | refine qv rfl (rr_lss rfl rfl (qF (by omega))) rfl rfl ?_ | refine qv rfl (rr_eql rfl rfl (qT (by omega))) rfl rfl ?_ | refine qv rfl (rr_eql rfl rfl (qF (by omega))) rfl rfl ?_ | refine qv rfl (rr_sub64 rfl rfl (by omega) (by omega) rfl) rfl rfl ?_))
            exact E_ret1 rfl rfl fun w hm => hm.meetsB (S := dwS gw t n vp (.sym (2, (q : Int)) :: r, out1, a1', 13)) (_, vo1) trivial [0, 1, 2] (by decide) rfl
          · rw [if_neg c3] at hsy
            obtain ⟨pn, rfl⟩ : ∃ pn : Nat, p = pn := ⟨p.toNat, by omega⟩
            have hpn : pn < g.prods.length := by have := (hok (by omega)).1; omega
            have hop := hopen pn hpn
            have hoo := opened_ok hg (p := (pn : Int)) (by omega) (by omega) z7
            repeat (first
              | refine qv rfl (qp rfl) rfl rfl ?_ | refine TL_nil ?_ | refine T_seq ?_ | refine T_region ?_ | refine qcT rfl ?_ | refine qcF rfl ?_ | refine T_skip ?_
              | refine T_ret ?_ | refine T_block ?_ | refine E_then ?_ | refine E_thenR ?_ | refine E_blockN ?_ | refine E_blockR ?_
              | refine qs rfl rfl rfl rfl rfl rfl ?_
              | ((try refine qg rfl rfl rfl ?_); first | refine qv rfl (qp rfl) rfl rfl ?_ | refine qv rfl (qlen Und.eq rfl) rfl rfl ?_ | refine qv rfl (qfld FldC.fld rfl rfl) rfl rfl ?_ | refine qv rfl (rr_not rfl rfl) rfl rfl ?_ | refine qv rfl (rr_nilc rfl) rfl rfl ?_ | refine qv rfl (rr_lss rfl rfl (qT (by omega))) rfl rfl ?_ | refine qv rfl (rr_lss rfl rfl (qF (by omega))) rfl rfl ?_ | refine qv rfl (rr_eql rfl rfl (qT (by omega))) rfl rfl ?_ | refine qv rfl (rr_eql rfl rfl (qF (by omega))) rfl rfl ?_ | refine qv rfl (rr_sub64 rfl rfl (by omega) (by omega) rfl) rfl rfl ?_))
            refine TL_callB [0, 1, 2] [] (by decide) rfl rfl (he2 EntersC.en rfl rfl rfl) (fun w hm hb => hop _ vo1 (.sym (2, (q : Int))) r out1 a1' w _ (by omega) zz3 (by omega) (ho.on hm fun o h => pick_mem h) hb) rfl rfl rfl ?_
            rintro ⟨vt2, vo2⟩ _
            conv => arg 8; simp only [zA, zB, zC, zD, zE, zF, zG, zH, zI, rowS, ret, id_eq, opS, List.nil_append]
            conv => arg 7; simp only [opS]
            have hlo : (opened g.prods (pn : Int) r).length = (opened g.prods (pn : Int) r).length := rfl
            generalize hst2 : opened g.prods (pn : Int) r = st2 at *
            by_cases c4 : a1' + 1 ≤ 2000 ∧ st2.length ≤ 60
            · rw [if_pos c4] at hsy
              rw [hsy] at hD
              rw [decide_eq_true c4]
              repeat (first
                | refine qv rfl (qp rfl) rfl rfl ?_ | refine TL_nil ?_ | refine T_seq ?_ | refine T_region ?_ | refine qcT rfl ?_ | refine qcF rfl ?_ | refine T_skip ?_
                | refine T_ret ?_ | refine T_block ?_ | refine E_then ?_ | refine E_thenR ?_ | refine E_blockN ?_ | refine E_blockR ?_
                | refine qs rfl rfl rfl rfl rfl rfl ?_
                | ((try refine qg rfl rfl rfl ?_); first | refine qv rfl (qp rfl) rfl rfl ?_ | refine qv rfl (qlen Und.eq rfl) rfl rfl ?_ | refine qv rfl (qfld FldC.fld rfl rfl) rfl rfl ?_ | refine qv rfl (rr_not rfl rfl) rfl rfl ?_ | refine qv rfl (rr_nilc rfl) rfl rfl ?_ | refine qv rfl (rr_lss rfl rfl (qT (by omega))) rfl rfl ?_ | refine qv rfl (rr_lss rfl rfl (qF (by omega))) rfl rfl ?_ | refine qv rfl (rr_eql rfl rfl (qT (by omega))) rfl rfl ?_ | refine qv rfl (rr_eql rfl rfl (qF (by omega))) rfl rfl ?_ | refine qv rfl (rr_sub64 rfl rfl (by omega) (by omega) rfl) rfl rfl ?_))
              refine E_pick [0, 1, 2] (by decide) rfl ?_
              exact E_round (f, st2, out1 ++ [(1, (pn : Int))], a1' + 1, vt2, vo2) ⟨hD, (by show 2001 ≤ f + (a1' + 1); omega), c4.2, c4.1, (by show (out1 ++ [(1, (pn : Int))]).length = a1' + 1; simp; omega), hoo⟩ (by show f < f + 1; omega) (by repeat' (first | exact True.intro | refine And.intro rfl ?_)) rfl
            · rw [if_neg c4] at hsy
              rw [hsy] at hD
              subst hD
              rw [decide_eq_false c4]
              repeat (first
                | refine qv rfl (qp rfl) rfl rfl ?_ | refine TL_nil ?_ | refine T_seq ?_ | refine T_region ?_ | refine qcT rfl ?_ | refine qcF rfl ?_ | refine T_skip ?_
                | refine T_ret ?_ | refine T_block ?_ | refine E_then ?_ | refine E_thenR ?_ | refine E_blockN ?_ | refine E_blockR ?_
                | refine qs rfl rfl rfl rfl rfl rfl ?_
                | ((try refine qg rfl rfl rfl ?_); first | refine qv rfl (qp rfl) rfl rfl ?_ | refine qv rfl (qlen Und.eq rfl) rfl rfl ?_ | refine qv rfl (qfld FldC.fld rfl rfl) rfl rfl ?_ | refine qv rfl (rr_not rfl rfl) rfl rfl ?_ | refine qv rfl (rr_nilc rfl) rfl rfl ?_ | refine qv rfl (rr_lss rfl rfl (qT (by omega))) rfl rfl ?_ | refine qv rfl (rr_lss rfl rfl (qF (by omega))) rfl rfl ?_ | refine qv rfl (rr_eql rfl rfl (qT (by omega))) rfl rfl ?_ | refine qv rfl (rr_eql rfl rfl (qF (by omega))) rfl rfl ?_ | refine qv rfl (rr_sub64 rfl rfl (by omega) (by omega) rfl) rfl rfl ?_))
              exact E_ret1 rfl rfl fun w hm => hm.meetsB (S := dwS gw t n vp (st2, out1 ++ [(1, (pn : Int))], a1' + 1, 14)) (vt2, vo2) trivial [0, 1, 2] (by decide) rfl
        · rw [if_neg c2] at z6; cases z6
end Go.Proofs.Ytkkiopmdcolobaa.eng

/- ClimbD -/
namespace Go.Proofs.Ytkkiopmdcolobaa.eng
open Go.RowKit kit mix gramL treeL climbL
theorem build_sy2 (w : World) : (Instr.build 47 #[(0, .int .i64 2)]).run Try.prog w = .ok (.agg (symC (2, 0)).toArray) w := by
  unfold symC; go_simp
theorem build_cl0 (g : Nat) (w : World) : (Instr.build 51 #[(0, .slice (some ⟨g, 0, none⟩) 1 1)]).run Try.prog w = .ok (clV (.slice (some ⟨g, 0, none⟩) 1 1) 0 0 false) w := by
  unfold clV; go_simp
def beginCS : Spec Value := ⟨fun _ => True, fun vt => clV vt 0 0 false, fun vt => [tdO vt [.sym (2, 0)]]⟩
set_option maxRecDepth 100000 in
theorem climbBegin_calls (w : World) : Calls Try.prog 14 #[] w (Meets beginCS w) := by
  refine enter (args := []) (n := 5) Try.func14 rfl rfl rfl ?_
  refine T_seq (T_region (TL_new rfl fun g2 => ?_))
  conv => arg 8; simp only [zA, zB, zC, zD, zE, zF, zG, zH, zI, rowS, ret, id_eq]
  repeat (first
    | refine TL_nil ?_ | refine T_seq ?_ | refine T_region ?_ | refine T_ret ?_ | refine E_then ?_ | refine E_thenR ?_
    | refine qv rfl (rr_build rfl build_sy2) rfl rfl ?_ | refine qv rfl (rr_build rfl (build_tdS (2, 0))) rfl rfl ?_)
  refine TL_litN (cs := (tdC (.sym (2, 0))).toArray) [tdV (.sym (2, 0))] rfl rfl rfl (by intro v hv; simp at hv; subst hv; rfl) rfl rfl rfl fun g3 => ?_
  conv => arg 8; simp only [zA, zB, zC, zD, zE, zF, zG, zH, zI, rowS, ret, id_eq]
  repeat (first
    | refine TL_nil ?_ | refine T_seq ?_ | refine T_region ?_ | refine T_ret ?_ | refine E_then ?_ | refine E_thenR ?_
    | refine qv rfl (rr_build rfl (build_cl0 _)) rfl rfl ?_)
  refine TL_storeB (i := 0) (cs' := #[.slice (some ⟨g3, 0, none⟩) 1 1, .int .i64 0, .int .i64 0, .bool false]) rfl rfl rfl rfl rfl rfl ?_
  conv => arg 8; simp only [zA, zB, zC, zD, zE, zF, zG, zH, zI, rowS, ret, id_eq]
  refine TL_toRow (i := 1) 4 rfl rfl (by omega) ?_
  conv => arg 8; simp only [zA, zB, zC, zD, zE, zF, zG, zH, zI, rowS, ret, id_eq]
  repeat (first
    | refine TL_nil ?_ | refine T_seq ?_ | refine T_region ?_ | refine T_ret ?_ | refine E_then ?_ | refine E_thenR ?_)
  exact E_retc1 (i := 0) rfl rfl rfl rfl fun w hm => hm.meets (S := beginCS) (.slice (some ⟨g3, 0, none⟩) 1 1) trivial [1] (by decide) rfl
theorem build_cw (t n : Int) (bp : Option Addr) (mp cp : Nat) (bt : Option Addr) (mt ct : Nat) (w : World) : (Instr.build 95 #[(0, graV t n (.slice bp mp cp)), (1, .slice bt mt ct)]).run Try.prog w = .ok (.agg (cwV t n (.slice bp mp cp) (.slice bt mt ct) (.slice none 0 0) 0)) w := by
  unfold graV cwV; go_simp
def begunS (t n : Int) (vp : Value) (st : List TD) : Spec (Nat × Value) := ⟨fun _ => True, fun x => .pointer (some ⟨x.1, 0, none⟩), fun x => [cwO x.1 t n vp x.2 (.slice none 0 0) 0, tdO x.2 st]⟩
set_option maxHeartbeats 2000000 in
theorem begun_calls (t n : Int) (vp vt : Value) (st : List TD) (seen over : Int) (done : Bool) (w : World) (ht : TdR w vt st) (hl : st.length ≤ 60) (hvp : ∃ b m c, vp = .slice b m c) :
    Calls Try.prog 30 #[graV t n vp, clV vt seen over done] w (Meets (begunS t n vp st) w) := by
  have hcl := fun w' (hg : Gr w w') => cloneTdS_calls vt st.reverse w' (by rw [List.length_reverse]; exact ht.gr hg) (by rw [List.length_reverse]; omega)
  rw [List.length_reverse] at hcl
  obtain ⟨bp, mp, cp, rfl⟩ := hvp
  refine enter (args := [graV t n (.slice bp mp cp), clV vt seen over done]) (n := 11) Try.func30 rfl rfl rfl ?_
  refine T_seq (T_region (TL_box rfl rfl rfl fun g0 => TL_box rfl rfl rfl fun g1 => ?_))
  conv => arg 8; simp only [zA, zB, zC, zD, zE, zF, zG, zH, zI, rowS, ret, id_eq]
  repeat (first
    | refine qv rfl (qp rfl) rfl rfl ?_ | refine TL_nil ?_ | refine T_seq ?_ | refine T_region ?_ | refine T_ret ?_ | refine E_then ?_ | refine E_thenR ?_
    | refine qv rfl (qfld FldC.fld rfl rfl) rfl rfl ?_)
  refine T_ord ([blkO g0 (graV t n (.slice bp mp cp)).cells 24, blkO g1 (clV vt seen over done).cells 51]) (.calm 0 (.calm 1 (.calm 2 (.one 3 (.calm 4 (.one 5 (.calm 6 (.done)))))))) (fun _ h => h) (by kernel_rfl) (by kernel_rfl) (by intro c a d v w h; cases d <;> exact h) ?_
  repeat (first
    | ((first | refine TW_plain rfl rfl ?_ | refine TW_gmet rfl rfl rfl rfl ?_); first | refine TN_val (qp rfl) rfl rfl ?_ | refine TN_val (rr_loadB (i := 0) TyC.ty rfl rfl rfl) rfl rfl ?_ | refine TN_val (rr_load1 (v := vt) TyC.ty rfl (at_blk (i := 1) rfl rfl)) rfl rfl ?_ | refine TN_val (qfld FldC.fld rfl rfl) rfl rfl ?_)
    | refine TW_done ?_)
  refine TW_one rfl ?_
  refine TL_call (he1 EntersC.en rfl rfl) (fun w hm => hcl _ hm.below) rfl rfl rfl ?_
  intro vt' _
  conv => arg 8; simp only [zA, zB, zC, zD, zE, zF, zG, zH, zI, rowS, ret, id_eq]
  refine TL_rowv (i := 2) rfl fun bt ct hv q1 q2 => ?_
  subst hv
  refine TW_on (sub_pick [0, 1] (by decide) rfl) ?_
  repeat (first
    | ((first | refine TW_plain rfl rfl ?_ | refine TW_gmet rfl rfl rfl rfl ?_); first | refine TN_val (qp rfl) rfl rfl ?_ | refine TN_val (rr_build rfl (build_cw _ _ _ _ _ _ _ _)) rfl rfl ?_ | refine TN_val (qfld FldC.fld rfl rfl) rfl rfl ?_)
    | refine TW_done ?_)
  refine TW_one rfl (TL_box rfl rfl rfl fun g2 => ?_)
  conv => arg 8; simp only [zA, zB, zC, zD, zE, zF, zG, zH, zI, rowS, ret, id_eq]
  refine TW_on (sub_pick [0, 1] (by decide) rfl) ?_
  repeat (first
    | ((first | refine TW_plain rfl rfl ?_ | refine TW_gmet rfl rfl rfl rfl ?_); first | refine TN_val (qp rfl) rfl rfl ?_ | refine TN_val (qfld FldC.fld rfl rfl) rfl rfl ?_)
    | refine TW_done ?_)
  repeat (first
    | refine qv rfl (qp rfl) rfl rfl ?_ | refine TL_nil ?_ | refine T_seq ?_ | refine T_region ?_ | refine T_ret ?_ | refine E_then ?_ | refine E_thenR ?_
    | refine qv rfl (qfld FldC.fld rfl rfl) rfl rfl ?_)
  exact E_ret1 rfl rfl fun w hm => hm.meets (S := begunS t n (.slice bp mp cp) st) (g2, .slice bt st.length ct) trivial [3, 2] (by decide) rfl
theorem push_bad {l : List gramL.Prod} {nx : Int → Int} {st : List TD} {seen : Nat} {t : Int} {st1 : List TD} {out1 : List Sym} {a1 : Nat} {e : Int} (hD : downF l nx 2001 st [] 0 = (st1, out1, a1, e)) (he : e ≠ 0) : pushF l nx st seen t = (e, [], []) := by
  unfold pushF; rw [hD]; dsimp only; rw [if_pos he]
theorem push_nil {l : List gramL.Prod} {nx : Int → Int} {st : List TD} {seen : Nat} {t : Int} {out1 : List Sym} {a1 : Nat} (hD : downF l nx 2001 st [] 0 = ([], out1, a1, 0)) : pushF l nx st seen t = (13, [], []) := by
  unfold pushF; rw [hD]; dsimp only; rw [if_neg (by decide)]
theorem push_sym {l : List gramL.Prod} {nx : Int → Int} {st : List TD} {seen : Nat} {t : Int} {x : Sym} {r : List TD} {out1 : List Sym} {a1 : Nat} (hD : downF l nx 2001 st [] 0 = (.sym x :: r, out1, a1, 0)) : pushF l nx st seen t = if x.2 ≠ t then (13, [], []) else if a1 + 1 ≤ 2000 ∧ (closesF r (out1 ++ [(2, (seen : Int))]) (a1 + 1)).2.2.2 = true then (0, (closesF r (out1 ++ [(2, (seen : Int))]) (a1 + 1)).1, (closesF r (out1 ++ [(2, (seen : Int))]) (a1 + 1)).2.1) else (14, [], []) := by
  unfold pushF; rw [hD]; dsimp only; rw [if_neg (by decide)]
theorem end_bad {l : List gramL.Prod} {nx : Int → Int} {st : List TD} {st1 : List TD} {out1 : List Sym} {a1 : Nat} {e : Int} (hD : downF l nx 2001 st [] 0 = (st1, out1, a1, e)) (he : e ≠ 0) : endF l nx st = (e, []) := by
  unfold endF; rw [hD]; dsimp only; rw [if_pos he]
theorem end_nil {l : List gramL.Prod} {nx : Int → Int} {st : List TD} {out1 : List Sym} {a1 : Nat} (hD : downF l nx 2001 st [] 0 = ([], out1, a1, 0)) : endF l nx st = (0, out1) := by
  unfold endF; rw [hD]; dsimp only; rw [if_neg (by decide)]
theorem end_sym {l : List gramL.Prod} {nx : Int → Int} {st : List TD} {x : Sym} {r : List TD} {out1 : List Sym} {a1 : Nat} (hD : downF l nx 2001 st [] 0 = (.sym x :: r, out1, a1, 0)) : endF l nx st = (13, []) := by
  unfold endF; rw [hD]; dsimp only; rw [if_neg (by decide)]
/-- a push's answer -/
def pushS (seen : Int) (R : Int × List TD × List Sym) : Spec (Value × Value) :=
  ⟨fun _ => True, fun x => if R.1 = 0 then .tuple #[clV x.1 (seen + 1) 0 false, x.2, .int .i64 0] else .tuple #[clV (.slice none 0 0) seen R.1 false, .slice none 0 0, .int .i64 R.1], fun x => if R.1 = 0 then [tdO x.1 R.2.1, evO x.2 R.2.2] else []⟩
theorem build_clE (seen e : Int) (w : World) : (Instr.build 51 #[(1, .int .i64 seen), (2, .int .i64 e)]).run Try.prog w = .ok (clV (.slice none 0 0) seen e false) w := by
  unfold clV; go_simp
theorem build_clN (b : Option Addr) (m c : Nat) (seen : Int) (w : World) : (Instr.build 51 #[(0, .slice b m c), (1, .int .i64 seen)]).run Try.prog w = .ok (clV (.slice b m c) seen 0 false) w := by
  unfold clV; go_simp
set_option maxHeartbeats 4000000 in
theorem climbPush_calls (v vr vt : Value) (g : Gram) (ll : List (List Int)) (T N : Nat) (st : List TD) (seen t : Nat) (w : World) (h : GraR (fun k => k < w.heap.size) w v g) (hr : RowsR w vr ll) (ht : TdR w vt st) (h0 : chkL g ll = 0) (hg : checkG g = 0) (hT : TabOk g ll T N) (hs : ∀ d ∈ st, okTD g d) (hl : st.length ≤ 60) (h1 : seen ≤ 1000000) (h2 : t < T) :
    Calls Try.prog 15 #[v, vr, clV vt (seen : Int) 0 false, .int .i64 (t : Int)] w (Meets (pushS (seen : Int) (pushF g.prods (nxL ll t) st seen (t : Int))) w) := by
  have hck := fun w' (hg' : Gr w w') => climbCheck_calls v vr vt g ll st (seen : Int) (t : Int) w' (h.gr hg') (hr.gr hg') (ht.gr hg') h0 hs hl (by omega) (by omega) (by omega) (by have := hT.terms; omega)
  have hterm := hT.terms
  obtain ⟨vp, rfl, hp, _⟩ := h
  have hbg := fun w' (hg' : Gr w w') => begun_calls g.terms g.nons vp vt st (seen : Int) 0 false w' (ht.gr hg') hl (by obtain ⟨b, c, e, _⟩ := hp; exact ⟨b, _, c, e⟩)
  have hdw := fun gw vt0 vo0 w' B ho hm => wdown_calls w gw g.terms g.nons vp vr g ll T N t hp hr hg hT (by omega) vt0 vo0 st w' B hs hl ho hm
  have hdl := fun R => @down_len g.prods (nxL ll t) 2001 st [] 0 R
  have hdt := fun R => @down_top g.prods (nxL ll t) 2001 st [] 0 R
  have hde := @down_err g.prods (nxL ll t) 2001 st [] 0
  generalize hD : downF g.prods (nxL ll t) 2001 st [] 0 = D at *
  obtain ⟨st1, out1, a1, e⟩ := D
  have hdl := fun h => hdl _ rfl h hl (by omega)
  have hdt := fun h => hdt _ rfl h
  dsimp only at *
  refine enter (args := [graV g.terms g.nons vp, vr, clV vt (seen : Int) 0 false, .int .i64 (t : Int)]) (n := 96) Try.func15 rfl rfl rfl ?_
  refine T_seq (T_region (TL_box rfl rfl rfl fun g0 => TL_box rfl rfl rfl fun g1 => TL_new rfl fun g2 => ?_))
  conv => arg 8; simp only [zA, zB, zC, zD, zE, zF, zG, zH, zI, rowS, ret, id_eq]
  repeat (first
    | refine qv rfl (qp rfl) rfl rfl ?_ | refine TL_nil ?_ | refine T_seq ?_ | refine T_region ?_ | refine qcT rfl ?_ | refine qcF rfl ?_ | refine T_skip ?_
    | refine T_ret ?_ | refine E_then ?_ | refine E_thenR ?_ | refine qs rfl rfl rfl rfl rfl rfl ?_
    | ((try refine qg rfl rfl rfl ?_); first | refine qv rfl (qp rfl) rfl rfl ?_ | refine qv rfl (rr_load1 (v := .int .i64 g.terms) TyC.ty rfl (at_blk (i := 0) rfl rfl)) rfl rfl ?_ | refine qv rfl (rr_loadB (i := 0) TyC.ty rfl rfl rfl) rfl rfl ?_ | refine qv rfl (rr_loadB (i := 1) TyC.ty rfl rfl rfl) rfl rfl ?_ | refine qv rfl (qfld FldC.fld rfl rfl) rfl rfl ?_ | refine qv rfl (rr_not rfl rfl) rfl rfl ?_ | refine qv rfl (rr_nilc rfl) rfl rfl ?_ | refine qv rfl (rr_eql rfl rfl (qT (by omega))) rfl rfl ?_ | refine qv rfl (rr_eql rfl rfl (qF (by omega))) rfl rfl ?_ | refine qv rfl (rr_neq rfl rfl (qT (by omega))) rfl rfl ?_ | refine qv rfl (rr_neq rfl rfl (qF (by omega))) rfl rfl ?_ | refine qv rfl (rr_add64 rfl rfl (by omega) (by omega) rfl) rfl rfl ?_ | refine qv rfl (qlen Und.eq rfl) rfl rfl ?_ | refine qv rfl (rr_sub64 rfl rfl (by omega) (by omega) rfl) rfl rfl ?_))
  refine TL_call (he4 EntersC.en rfl rfl rfl rfl rfl) (fun w hm => hck _ hm.below) rfl rfl rfl ?_
  intro _ _
  conv => arg 8; simp only [zA, zB, zC, zD, zE, zF, zG, zH, zI, rowS, ret, id_eq]
  repeat (first
    | refine qv rfl (qp rfl) rfl rfl ?_ | refine TL_nil ?_ | refine T_seq ?_ | refine T_region ?_ | refine qcT rfl ?_ | refine qcF rfl ?_ | refine T_skip ?_
    | refine T_ret ?_ | refine E_then ?_ | refine E_thenR ?_ | refine qs rfl rfl rfl rfl rfl rfl ?_
    | ((try refine qg rfl rfl rfl ?_); first | refine qv rfl (qp rfl) rfl rfl ?_ | refine qv rfl (rr_loadB (i := 0) TyC.ty rfl rfl rfl) rfl rfl ?_ | refine qv rfl (rr_loadB (i := 1) TyC.ty rfl rfl rfl) rfl rfl ?_ | refine qv rfl (qfld FldC.fld rfl rfl) rfl rfl ?_ | refine qv rfl (rr_not rfl rfl) rfl rfl ?_ | refine qv rfl (rr_nilc rfl) rfl rfl ?_ | refine qv rfl (rr_eql rfl rfl (qT (by omega))) rfl rfl ?_ | refine qv rfl (rr_eql rfl rfl (qF (by omega))) rfl rfl ?_ | refine qv rfl (rr_neq rfl rfl (qT (by omega))) rfl rfl ?_ | refine qv rfl (rr_neq rfl rfl (qF (by omega))) rfl rfl ?_ | refine qv rfl (rr_add64 rfl rfl (by omega) (by omega) rfl) rfl rfl ?_ | refine qv rfl (qlen Und.eq rfl) rfl rfl ?_ | refine qv rfl (rr_sub64 rfl rfl (by omega) (by omega) rfl) rfl rfl ?_))
  refine TL_call (he2 EntersC.en rfl rfl rfl) (fun w hm => hbg _ hm.below) rfl rfl rfl ?_
  rintro ⟨gw, vt1⟩ _
  conv => arg 8; simp only [zA, zB, zC, zD, zE, zF, zG, zH, zI, rowS, ret, id_eq, begunS]
  repeat (first
    | refine qv rfl (qp rfl) rfl rfl ?_ | refine TL_nil ?_ | refine T_seq ?_ | refine T_region ?_ | refine qcT rfl ?_ | refine qcF rfl ?_ | refine T_skip ?_
    | refine T_ret ?_ | refine E_then ?_ | refine E_thenR ?_ | refine qs rfl rfl rfl rfl rfl rfl ?_
    | ((try refine qg rfl rfl rfl ?_); first | refine qv rfl (qp rfl) rfl rfl ?_ | refine qv rfl (qfld FldC.fld rfl rfl) rfl rfl ?_ | refine qv rfl (rr_not rfl rfl) rfl rfl ?_ | refine qv rfl (rr_nilc rfl) rfl rfl ?_ | refine qv rfl (rr_eql rfl rfl (qT (by omega))) rfl rfl ?_ | refine qv rfl (rr_eql rfl rfl (qF (by omega))) rfl rfl ?_ | refine qv rfl (rr_neq rfl rfl (qT (by omega))) rfl rfl ?_ | refine qv rfl (rr_neq rfl rfl (qF (by omega))) rfl rfl ?_ | refine qv rfl (rr_add64 rfl rfl (by omega) (by omega) rfl) rfl rfl ?_ | refine qv rfl (qlen Und.eq rfl) rfl rfl ?_ | refine qv rfl (rr_sub64 rfl rfl (by omega) (by omega) rfl) rfl rfl ?_))
  refine TL_nilrow 39 2 ?_
  conv => arg 8; simp only [zA, zB, zC, zD, zE, zF, zG, zH, zI, rowS, ret, id_eq]
  refine TL_callB [3, 4, 5] [0, 1, 2] (by decide) rfl rfl (he3 EntersC.en rfl rfl rfl rfl) (fun w' hm hb => hdw gw vt1 _ w' _ ((Old.self w).on hm fun o h => pick_mem h) hb) rfl rfl rfl ?_
  rintro ⟨vt2, vo2⟩ _
  conv => arg 8; simp only [zA, zB, zC, zD, zE, zF, zG, zH, zI, rowS, ret, id_eq, dwS]
  conv => arg 7; simp only [dwS]
  rcases hde with rfl | rfl | rfl
  · obtain ⟨hd1, hd2, hd3, hd4⟩ := hdl rfl
    rcases hdt rfl with rfl | ⟨x, r, rfl, hx⟩
    · rw [push_nil hD]
      repeat (first
        | refine qv rfl (qp rfl) rfl rfl ?_ | refine TL_nil ?_ | refine T_seq ?_ | refine T_region ?_ | refine qcT rfl ?_ | refine qcF rfl ?_ | refine T_skip ?_
        | refine T_ret ?_ | refine E_then ?_ | refine E_thenR ?_ | refine qs rfl rfl rfl rfl rfl rfl ?_
        | ((try refine qg rfl rfl rfl ?_); first | refine qv rfl (qp rfl) rfl rfl ?_ | refine qv rfl (qfld FldC.fld rfl rfl) rfl rfl ?_ | refine qv rfl (rr_not rfl rfl) rfl rfl ?_ | refine qv rfl (rr_nilc rfl) rfl rfl ?_ | refine qv rfl (rr_eql rfl rfl (qT (by omega))) rfl rfl ?_ | refine qv rfl (rr_eql rfl rfl (qF (by omega))) rfl rfl ?_ | refine qv rfl (rr_neq rfl rfl (qT (by omega))) rfl rfl ?_ | refine qv rfl (rr_neq rfl rfl (qF (by omega))) rfl rfl ?_ | refine qv rfl (rr_add64 rfl rfl (by omega) (by omega) rfl) rfl rfl ?_ | refine qv rfl (qlen Und.eq rfl) rfl rfl ?_ | refine qv rfl (rr_sub64 rfl rfl (by omega) (by omega) rfl) rfl rfl ?_))
      refine T_ord ([cwO gw g.terms g.nons vp vt2 vo2 a1, tdO vt2 []]) (.calm 0 (.calm 1 (.calm 2 (.calm 3 (.calm 4 (.calm 5 (.calm 6 (.calm 7 (.calm 8 (.calm 9 (.calm 10 (.calm 11 (.calm 12 (.calm 13 (.calm 14 (.calm 15 (.calm 16 (.calm 17 (.calm 18 (.calm 19 (.calm 20 (.calm 21 (.calm 22 (.calm 23 (.calm 24 (.calm 25 (.calm 26 (.calm 27 (.done))))))))))))))))))))))))))))) (sub_pick [3, 4] (by decide) rfl) (by kernel_rfl) (by kernel_rfl) (by intro c a d v w h; cases d <;> exact h) ?_
      repeat (first
        | ((first | refine TW_plain rfl rfl ?_ | refine TW_gmet rfl rfl rfl rfl ?_); first | refine TN_val (qp rfl) rfl rfl ?_ | refine TN_val (rr_load1 (v := vt2) TyC.ty rfl (at_blk (i := 0) rfl rfl)) rfl rfl ?_ | refine TN_val (rr_eql (b := true) rfl rfl rfl) rfl rfl ?_ | refine TN_val (qfld FldC.fld rfl rfl) rfl rfl ?_ | refine TN_val (rr_not rfl rfl) rfl rfl ?_ | refine TN_val (rr_nilc rfl) rfl rfl ?_ | refine TN_val (rr_eql rfl rfl (qT (by omega))) rfl rfl ?_ | refine TN_val (rr_eql rfl rfl (qF (by omega))) rfl rfl ?_ | refine TN_val (rr_neq rfl rfl (qT (by omega))) rfl rfl ?_ | refine TN_val (rr_neq rfl rfl (qF (by omega))) rfl rfl ?_ | refine TN_val (rr_add64 rfl rfl (by omega) (by omega) rfl) rfl rfl ?_ | refine TN_val (rr_rowlen (i := 1) Und.eq rfl rfl) rfl rfl ?_ | refine TN_val (qlen Und.eq rfl) rfl rfl ?_ | refine TN_val (rr_sub64 rfl rfl (by omega) (by omega) rfl) rfl rfl ?_)
        | refine TW_skip rfl rfl rfl rfl rfl rfl rfl ?_ | refine TW_done ?_)
      repeat (first
        | refine qv rfl (qp rfl) rfl rfl ?_ | refine TL_nil ?_ | refine T_seq ?_ | refine T_region ?_ | refine qcT rfl ?_ | refine qcF rfl ?_ | refine T_skip ?_
        | refine T_ret ?_ | refine E_then ?_ | refine E_thenR ?_ | refine qs rfl rfl rfl rfl rfl rfl ?_
        | ((try refine qg rfl rfl rfl ?_); first | refine qv rfl (qp rfl) rfl rfl ?_ | refine qv rfl (rr_load1 (v := .int .i64 (seen : Int)) TyC.ty rfl (at_blk (i := 1) rfl rfl)) rfl rfl ?_ | refine qv rfl (rr_build rfl (build_clE _ _)) rfl rfl ?_ | refine qv rfl (qfld FldC.fld rfl rfl) rfl rfl ?_ | refine qv rfl (rr_not rfl rfl) rfl rfl ?_ | refine qv rfl (rr_nilc rfl) rfl rfl ?_ | refine qv rfl (rr_eql rfl rfl (qT (by omega))) rfl rfl ?_ | refine qv rfl (rr_eql rfl rfl (qF (by omega))) rfl rfl ?_ | refine qv rfl (rr_neq rfl rfl (qT (by omega))) rfl rfl ?_ | refine qv rfl (rr_neq rfl rfl (qF (by omega))) rfl rfl ?_ | refine qv rfl (rr_add64 rfl rfl (by omega) (by omega) rfl) rfl rfl ?_ | refine qv rfl (qlen Und.eq rfl) rfl rfl ?_ | refine qv rfl (rr_sub64 rfl rfl (by omega) (by omega) rfl) rfl rfl ?_))
      refine TL_storeB (i := 2) (cs' := #[.slice none 0 0, .int .i64 (seen : Int), .int .i64 13, .bool false]) rfl rfl rfl rfl rfl rfl ?_
      conv => arg 8; simp only [zA, zB, zC, zD, zE, zF, zG, zH, zI, rowS, ret, id_eq]
      repeat (first
        | refine qv rfl (qp rfl) rfl rfl ?_ | refine TL_nil ?_ | refine T_seq ?_ | refine T_region ?_ | refine qcT rfl ?_ | refine qcF rfl ?_ | refine T_skip ?_
        | refine T_ret ?_ | refine E_then ?_ | refine E_thenR ?_ | refine qs rfl rfl rfl rfl rfl rfl ?_
        | ((try refine qg rfl rfl rfl ?_); first | refine qv rfl (qp rfl) rfl rfl ?_ | refine qv rfl (qfld FldC.fld rfl rfl) rfl rfl ?_ | refine qv rfl (rr_not rfl rfl) rfl rfl ?_ | refine qv rfl (rr_nilc rfl) rfl rfl ?_ | refine qv rfl (rr_eql rfl rfl (qT (by omega))) rfl rfl ?_ | refine qv rfl (rr_eql rfl rfl (qF (by omega))) rfl rfl ?_ | refine qv rfl (rr_neq rfl rfl (qT (by omega))) rfl rfl ?_ | refine qv rfl (rr_neq rfl rfl (qF (by omega))) rfl rfl ?_ | refine qv rfl (rr_add64 rfl rfl (by omega) (by omega) rfl) rfl rfl ?_ | refine qv rfl (qlen Und.eq rfl) rfl rfl ?_ | refine qv rfl (rr_sub64 rfl rfl (by omega) (by omega) rfl) rfl rfl ?_))
      exact E_retc3 (i := 2) rfl rfl rfl rfl rfl rfl fun w hm => hm.meets (S := pushS (seen : Int) (13, [], [])) (.slice none 0 0, .slice none 0 0) trivial [] (by decide) rfl
    · rw [push_sym hD]
      obtain ⟨k, m⟩ := x
      dsimp only at hx
      subst hx
      simp only [List.length_cons] at hd1
      repeat (first
        | refine qv rfl (qp rfl) rfl rfl ?_ | refine TL_nil ?_ | refine T_seq ?_ | refine T_region ?_ | refine qcT rfl ?_ | refine qcF rfl ?_ | refine T_skip ?_
        | refine T_ret ?_ | refine E_then ?_ | refine E_thenR ?_ | refine qs rfl rfl rfl rfl rfl rfl ?_
        | ((try refine qg rfl rfl rfl ?_); first | refine qv rfl (qp rfl) rfl rfl ?_ | refine qv rfl (qfld FldC.fld rfl rfl) rfl rfl ?_ | refine qv rfl (rr_not rfl rfl) rfl rfl ?_ | refine qv rfl (rr_nilc rfl) rfl rfl ?_ | refine qv rfl (rr_eql rfl rfl (qT (by omega))) rfl rfl ?_ | refine qv rfl (rr_eql rfl rfl (qF (by omega))) rfl rfl ?_ | refine qv rfl (rr_neq rfl rfl (qT (by omega))) rfl rfl ?_ | refine qv rfl (rr_neq rfl rfl (qF (by omega))) rfl rfl ?_ | refine qv rfl (rr_add64 rfl rfl (by omega) (by omega) rfl) rfl rfl ?_ | refine qv rfl (qlen Und.eq rfl) rfl rfl ?_ | refine qv rfl (rr_sub64 rfl rfl (by omega) (by omega) rfl) rfl rfl ?_))
      refine T_rowN (i := 4) rfl (by simp) fun gt ct hv q1 q2 => ?_
      subst hv
      simp only [List.length_cons] at *
      by_cases c1 : m ≠ (t : Int)
      · rw [if_pos c1]
        refine T_ord ([cwO gw g.terms g.nons vp (.slice (some ⟨gt, 0, none⟩) (r.length + 1) ct) vo2 a1, tdO (.slice (some ⟨gt, 0, none⟩) (r.length + 1) ct) (.sym (1, m) :: r)]) (.calm 0 (.calm 1 (.calm 2 (.calm 3 (.calm 4 (.calm 5 (.calm 6 (.calm 7 (.calm 8 (.calm 9 (.calm 10 (.calm 11 (.calm 12 (.calm 13 (.calm 14 (.calm 15 (.calm 16 (.calm 17 (.calm 18 (.calm 19 (.calm 20 (.calm 21 (.calm 22 (.calm 23 (.calm 24 (.calm 25 (.calm 26 (.calm 27 (.done))))))))))))))))))))))))))))) (sub_pick [3, 4] (by decide) rfl) (by kernel_rfl) (by kernel_rfl) (by intro c a d v w h; cases d <;> exact h) ?_
        repeat (first
          | ((first | refine TW_plain rfl rfl ?_ | refine TW_gmet rfl rfl rfl rfl ?_); first | refine TN_val (qp rfl) rfl rfl ?_ | refine TN_val (rr_load1 (v := .slice (some ⟨gt, 0, none⟩) (r.length + 1) ct) TyC.ty rfl (at_blk (i := 0) rfl rfl)) rfl rfl ?_ | refine TN_val (rr_eql (b := true) rfl rfl rfl) rfl rfl ?_ | refine TN_val (rr_eql (b := false) rfl rfl (decide_eq_false (by omega))) rfl rfl ?_ | refine TN_val (rr_load1 (v := .int .i64 m) TyC.ty rfl (td_at (i := 1) rfl 3 _ rfl)) rfl rfl ?_ | refine TN_val (rr_neq (b := true) rfl rfl (decide_eq_true c1)) rfl rfl ?_ | refine TN_val (qfld FldC.fld rfl rfl) rfl rfl ?_ | refine TN_val (rr_not rfl rfl) rfl rfl ?_ | refine TN_val (rr_nilc rfl) rfl rfl ?_ | refine TN_val (rr_eql rfl rfl (qT (by omega))) rfl rfl ?_ | refine TN_val (rr_eql rfl rfl (qF (by omega))) rfl rfl ?_ | refine TN_val (rr_neq rfl rfl (qT (by omega))) rfl rfl ?_ | refine TN_val (rr_neq rfl rfl (qF (by omega))) rfl rfl ?_ | refine TN_val (rr_add64 rfl rfl (by omega) (by omega) rfl) rfl rfl ?_ | refine TN_val (rr_sub64 (r := (r.length : Int)) rfl rfl (by omega) (by omega) (by omega)) rfl rfl ?_ | refine TN_val (rr_idxc (j := r.length) Und.eq TyC.ty rfl rfl (by omega)) rfl rfl ?_ | refine TN_val (qlen Und.eq rfl) rfl rfl ?_ | refine TN_val (rr_sub64 rfl rfl (by omega) (by omega) rfl) rfl rfl ?_)
          | refine TW_skip rfl rfl rfl rfl rfl rfl rfl ?_ | refine TW_done ?_)
        repeat (first
          | refine qv rfl (qp rfl) rfl rfl ?_ | refine TL_nil ?_ | refine T_seq ?_ | refine T_region ?_ | refine qcT rfl ?_ | refine qcF rfl ?_ | refine T_skip ?_
          | refine T_ret ?_ | refine E_then ?_ | refine E_thenR ?_ | refine qs rfl rfl rfl rfl rfl rfl ?_
          | ((try refine qg rfl rfl rfl ?_); first | refine qv rfl (qp rfl) rfl rfl ?_ | refine qv rfl (rr_load1 (v := .int .i64 (seen : Int)) TyC.ty rfl (at_blk (i := 1) rfl rfl)) rfl rfl ?_ | refine qv rfl (rr_build rfl (build_clE _ _)) rfl rfl ?_ | refine qv rfl (qfld FldC.fld rfl rfl) rfl rfl ?_ | refine qv rfl (rr_not rfl rfl) rfl rfl ?_ | refine qv rfl (rr_nilc rfl) rfl rfl ?_ | refine qv rfl (rr_eql rfl rfl (qT (by omega))) rfl rfl ?_ | refine qv rfl (rr_eql rfl rfl (qF (by omega))) rfl rfl ?_ | refine qv rfl (rr_neq rfl rfl (qT (by omega))) rfl rfl ?_ | refine qv rfl (rr_neq rfl rfl (qF (by omega))) rfl rfl ?_ | refine qv rfl (rr_add64 rfl rfl (by omega) (by omega) rfl) rfl rfl ?_ | refine qv rfl (qlen Und.eq rfl) rfl rfl ?_ | refine qv rfl (rr_sub64 rfl rfl (by omega) (by omega) rfl) rfl rfl ?_))
        refine TL_storeB (i := 2) (cs' := #[.slice none 0 0, .int .i64 (seen : Int), .int .i64 13, .bool false]) rfl rfl rfl rfl rfl rfl ?_
        conv => arg 8; simp only [zA, zB, zC, zD, zE, zF, zG, zH, zI, rowS, ret, id_eq]
        repeat (first
          | refine qv rfl (qp rfl) rfl rfl ?_ | refine TL_nil ?_ | refine T_seq ?_ | refine T_region ?_ | refine qcT rfl ?_ | refine qcF rfl ?_ | refine T_skip ?_
          | refine T_ret ?_ | refine E_then ?_ | refine E_thenR ?_ | refine qs rfl rfl rfl rfl rfl rfl ?_
          | ((try refine qg rfl rfl rfl ?_); first | refine qv rfl (qp rfl) rfl rfl ?_ | refine qv rfl (qfld FldC.fld rfl rfl) rfl rfl ?_ | refine qv rfl (rr_not rfl rfl) rfl rfl ?_ | refine qv rfl (rr_nilc rfl) rfl rfl ?_ | refine qv rfl (rr_eql rfl rfl (qT (by omega))) rfl rfl ?_ | refine qv rfl (rr_eql rfl rfl (qF (by omega))) rfl rfl ?_ | refine qv rfl (rr_neq rfl rfl (qT (by omega))) rfl rfl ?_ | refine qv rfl (rr_neq rfl rfl (qF (by omega))) rfl rfl ?_ | refine qv rfl (rr_add64 rfl rfl (by omega) (by omega) rfl) rfl rfl ?_ | refine qv rfl (qlen Und.eq rfl) rfl rfl ?_ | refine qv rfl (rr_sub64 rfl rfl (by omega) (by omega) rfl) rfl rfl ?_))
        exact E_retc3 (i := 2) rfl rfl rfl rfl rfl rfl fun w hm => hm.meets (S := pushS (seen : Int) (13, [], [])) (.slice none 0 0, .slice none 0 0) trivial [] (by decide) rfl
      · rw [if_neg c1]
        obtain rfl : m = (t : Int) := by simpa using c1
        refine T_ord ([cwO gw g.terms g.nons vp (.slice (some ⟨gt, 0, none⟩) (r.length + 1) ct) vo2 a1, tdO (.slice (some ⟨gt, 0, none⟩) (r.length + 1) ct) (.sym (1, (t : Int)) :: r)]) (.calm 0 (.calm 1 (.calm 2 (.calm 3 (.calm 4 (.calm 5 (.calm 6 (.calm 7 (.calm 8 (.calm 9 (.calm 10 (.calm 11 (.calm 12 (.calm 13 (.calm 14 (.calm 15 (.calm 16 (.calm 17 (.calm 18 (.calm 19 (.calm 20 (.calm 21 (.calm 22 (.calm 23 (.calm 24 (.calm 25 (.calm 26 (.calm 27 (.done))))))))))))))))))))))))))))) (sub_pick [3, 4] (by decide) rfl) (by kernel_rfl) (by kernel_rfl) (by intro c a d v w h; cases d <;> exact h) ?_
        repeat (first
          | ((first | refine TW_plain rfl rfl ?_ | refine TW_gmet rfl rfl rfl rfl ?_); first | refine TN_val (qp rfl) rfl rfl ?_ | refine TN_val (rr_load1 (v := .slice (some ⟨gt, 0, none⟩) (r.length + 1) ct) TyC.ty rfl (at_blk (i := 0) rfl rfl)) rfl rfl ?_ | refine TN_val (rr_eql (b := true) rfl rfl rfl) rfl rfl ?_ | refine TN_val (rr_eql (b := false) rfl rfl (decide_eq_false (by omega))) rfl rfl ?_ | refine TN_val (rr_load1 (v := .int .i64 (t : Int)) TyC.ty rfl (td_at (i := 1) rfl 3 _ rfl)) rfl rfl ?_ | refine TN_val (rr_neq (b := false) rfl rfl (decide_eq_false (by simp))) rfl rfl ?_ | refine TN_val (qfld FldC.fld rfl rfl) rfl rfl ?_ | refine TN_val (rr_not rfl rfl) rfl rfl ?_ | refine TN_val (rr_nilc rfl) rfl rfl ?_ | refine TN_val (rr_eql rfl rfl (qT (by omega))) rfl rfl ?_ | refine TN_val (rr_eql rfl rfl (qF (by omega))) rfl rfl ?_ | refine TN_val (rr_neq rfl rfl (qT (by omega))) rfl rfl ?_ | refine TN_val (rr_neq rfl rfl (qF (by omega))) rfl rfl ?_ | refine TN_val (rr_add64 rfl rfl (by omega) (by omega) rfl) rfl rfl ?_ | refine TN_val (rr_sub64 (r := (r.length : Int)) rfl rfl (by omega) (by omega) (by omega)) rfl rfl ?_ | refine TN_val (rr_idxc (j := r.length) Und.eq TyC.ty rfl rfl (by omega)) rfl rfl ?_ | refine TN_val (qlen Und.eq rfl) rfl rfl ?_ | refine TN_val (rr_sub64 rfl rfl (by omega) (by omega) rfl) rfl rfl ?_)
          | refine TW_skip rfl rfl rfl rfl rfl rfl rfl ?_ | refine TW_done ?_)
        repeat (first
          | refine qv rfl (qp rfl) rfl rfl ?_ | refine TL_nil ?_ | refine T_seq ?_ | refine T_region ?_ | refine qcT rfl ?_ | refine qcF rfl ?_ | refine T_skip ?_
          | refine T_ret ?_ | refine E_then ?_ | refine E_thenR ?_ | refine qs rfl rfl rfl rfl rfl rfl ?_
          | ((try refine qg rfl rfl rfl ?_); first | refine qv rfl (qp rfl) rfl rfl ?_ | refine qv rfl (rr_eql (b := true) rfl rfl rfl) rfl rfl ?_ | refine qv rfl (qfld FldC.fld rfl rfl) rfl rfl ?_ | refine qv rfl (rr_not rfl rfl) rfl rfl ?_ | refine qv rfl (rr_nilc rfl) rfl rfl ?_ | refine qv rfl (rr_eql rfl rfl (qT (by omega))) rfl rfl ?_ | refine qv rfl (rr_eql rfl rfl (qF (by omega))) rfl rfl ?_ | refine qv rfl (rr_neq rfl rfl (qT (by omega))) rfl rfl ?_ | refine qv rfl (rr_neq rfl rfl (qF (by omega))) rfl rfl ?_ | refine qv rfl (rr_add64 rfl rfl (by omega) (by omega) rfl) rfl rfl ?_ | refine qv rfl (qlen Und.eq rfl) rfl rfl ?_ | refine qv rfl (rr_sub64 rfl rfl (by omega) (by omega) rfl) rfl rfl ?_))
        refine TL_callB [3, 4] [0, 1, 2, 5] (by decide) rfl rfl (he1 EntersC.en rfl rfl) (fun w hm hb => pop_calls gw g.terms g.nons vp _ vo2 (.sym (1, (t : Int))) r a1 w _ (by omega) hb) rfl rfl rfl ?_
        intro vt3 _
        conv => arg 8; simp only [zA, zB, zC, zD, zE, zF, zG, zH, zI, rowS, ret, id_eq]
        dsimp only
        repeat (first
          | refine qv rfl (qp rfl) rfl rfl ?_ | refine TL_nil ?_ | refine T_seq ?_ | refine T_region ?_ | refine qcT rfl ?_ | refine qcF rfl ?_ | refine T_skip ?_
          | refine T_ret ?_ | refine E_then ?_ | refine E_thenR ?_ | refine qs rfl rfl rfl rfl rfl rfl ?_
          | ((try refine qg rfl rfl rfl ?_); first | refine qv rfl (qp rfl) rfl rfl ?_ | refine qv rfl (rr_load1 (v := .int .i64 (seen : Int)) TyC.ty rfl (at_blk (i := 1) rfl rfl)) rfl rfl ?_ | refine qv rfl (qfld FldC.fld rfl rfl) rfl rfl ?_ | refine qv rfl (rr_not rfl rfl) rfl rfl ?_ | refine qv rfl (rr_nilc rfl) rfl rfl ?_ | refine qv rfl (rr_eql rfl rfl (qT (by omega))) rfl rfl ?_ | refine qv rfl (rr_eql rfl rfl (qF (by omega))) rfl rfl ?_ | refine qv rfl (rr_neq rfl rfl (qT (by omega))) rfl rfl ?_ | refine qv rfl (rr_neq rfl rfl (qF (by omega))) rfl rfl ?_ | refine qv rfl (rr_add64 rfl rfl (by omega) (by omega) rfl) rfl rfl ?_ | refine qv rfl (qlen Und.eq rfl) rfl rfl ?_ | refine qv rfl (rr_sub64 rfl rfl (by omega) (by omega) rfl) rfl rfl ?_))
        refine TL_callB [4, 3] [0, 1, 2, 5] (by decide) rfl rfl (he3 EntersC.en rfl rfl rfl rfl) (fun w hm hb => act_calls gw g.terms g.nons vp vt3 vo2 out1 a1 2 (seen : Int) w _ (by simp at hd3; omega) (by omega) hb) rfl rfl rfl ?_
        intro vo3 _
        conv => arg 8; simp only [zA, zB, zC, zD, zE, zF, zG, zH, zI, rowS, ret, id_eq]
        dsimp only
        by_cases c2 : a1 + 1 ≤ 2000
        · rw [decide_eq_true (show ((a1 + 1 : Nat) : Int) ≤ 2000 by omega)]
          repeat (first
            | refine qv rfl (qp rfl) rfl rfl ?_ | refine TL_nil ?_ | refine T_seq ?_ | refine T_region ?_ | refine qcT rfl ?_ | refine qcF rfl ?_ | refine T_skip ?_
            | refine T_ret ?_ | refine E_then ?_ | refine E_thenR ?_ | refine qs rfl rfl rfl rfl rfl rfl ?_
            | ((try refine qg rfl rfl rfl ?_); first | refine qv rfl (qp rfl) rfl rfl ?_ | refine qv rfl (qfld FldC.fld rfl rfl) rfl rfl ?_ | refine qv rfl (rr_not rfl rfl) rfl rfl ?_ | refine qv rfl (rr_nilc rfl) rfl rfl ?_ | refine qv rfl (rr_eql rfl rfl (qT (by omega))) rfl rfl ?_ | refine qv rfl (rr_eql rfl rfl (qF (by omega))) rfl rfl ?_ | refine qv rfl (rr_neq rfl rfl (qT (by omega))) rfl rfl ?_ | refine qv rfl (rr_neq rfl rfl (qF (by omega))) rfl rfl ?_ | refine qv rfl (rr_add64 rfl rfl (by omega) (by omega) rfl) rfl rfl ?_ | refine qv rfl (qlen Und.eq rfl) rfl rfl ?_ | refine qv rfl (rr_sub64 rfl rfl (by omega) (by omega) rfl) rfl rfl ?_))
          refine TL_metg rfl rfl rfl ?_
          refine TL_callB [4, 3, 5] [0, 1, 2] (by decide) rfl rfl (he1 EntersC.en rfl rfl) (fun w hm hb => workCloses_calls gw g.terms g.nons vp vt3 vo3 r (out1 ++ [(2, (seen : Int))]) (a1 + 1) w _ (by omega) c2 (by simp at hd3 ⊢; omega) hb) rfl rfl rfl ?_
          rintro ⟨vt4, vo4⟩ _
          conv => arg 8; simp only [zA, zB, zC, zD, zE, zF, zG, zH, zI, rowS, ret, id_eq, clS]
          conv => arg 7; simp only [clS]
          generalize closesF r (out1 ++ [(2, (seen : Int))]) (a1 + 1) = C
          obtain ⟨st3, out3, a3, ok⟩ := C
          dsimp only
          cases ok with
          | true =>
            rw [if_pos ⟨c2, rfl⟩]
            repeat (first
              | refine qv rfl (qp rfl) rfl rfl ?_ | refine TL_nil ?_ | refine T_seq ?_ | refine T_region ?_ | refine qcT rfl ?_ | refine qcF rfl ?_ | refine T_skip ?_
              | refine T_ret ?_ | refine E_then ?_ | refine E_thenR ?_ | refine qs rfl rfl rfl rfl rfl rfl ?_
              | ((try refine qg rfl rfl rfl ?_); first | refine qv rfl (qp rfl) rfl rfl ?_ | refine qv rfl (rr_eql (b := true) rfl rfl rfl) rfl rfl ?_ | refine qv rfl (qfld FldC.fld rfl rfl) rfl rfl ?_ | refine qv rfl (rr_not rfl rfl) rfl rfl ?_ | refine qv rfl (rr_nilc rfl) rfl rfl ?_ | refine qv rfl (rr_eql rfl rfl (qT (by omega))) rfl rfl ?_ | refine qv rfl (rr_eql rfl rfl (qF (by omega))) rfl rfl ?_ | refine qv rfl (rr_neq rfl rfl (qT (by omega))) rfl rfl ?_ | refine qv rfl (rr_neq rfl rfl (qF (by omega))) rfl rfl ?_ | refine qv rfl (rr_add64 rfl rfl (by omega) (by omega) rfl) rfl rfl ?_ | refine qv rfl (qlen Und.eq rfl) rfl rfl ?_ | refine qv rfl (rr_sub64 rfl rfl (by omega) (by omega) rfl) rfl rfl ?_))
            refine T_rowv (i := 4) rfl fun bt ct' hv q3 q4 => ?_
            subst hv
            refine T_ord ([cwO gw g.terms g.nons vp (.slice bt st3.length ct') vo4 a3, blkO g1 (clV vt (seen : Int) 0 false).cells 51]) (.calm 0 (.calm 1 (.calm 2 (.calm 3 (.calm 4 (.calm 5 (.calm 6 (.calm 7 (.calm 8 (.calm 9 (.calm 10 (.calm 11 (.one 12 (.calm 13 (.calm 14 (.done)))))))))))))))) (sub_pick [3, 1] (by decide) rfl) (by kernel_rfl) (by kernel_rfl) (by intro c a d v w h; cases d <;> exact h) ?_
            repeat (first
              | ((first | refine TW_plain rfl rfl ?_ | refine TW_gmet rfl rfl rfl rfl ?_); first | refine TN_val (qp rfl) rfl rfl ?_ | refine TN_val (rr_load1 (v := .slice bt st3.length ct') TyC.ty rfl (at_blk (i := 0) rfl rfl)) rfl rfl ?_ | refine TN_val (rr_load1 (v := .int .i64 (seen : Int)) TyC.ty rfl (at_blk (i := 1) rfl rfl)) rfl rfl ?_ | refine TN_val (rr_load1 (v := vo4) TyC.ty rfl (at_blk (i := 0) rfl rfl)) rfl rfl ?_ | refine TN_val (rr_build rfl (build_clN _ _ _ _)) rfl rfl ?_ | refine TN_val (qfld FldC.fld rfl rfl) rfl rfl ?_ | refine TN_val (rr_not rfl rfl) rfl rfl ?_ | refine TN_val (rr_nilc rfl) rfl rfl ?_ | refine TN_val (rr_eql rfl rfl (qT (by omega))) rfl rfl ?_ | refine TN_val (rr_eql rfl rfl (qF (by omega))) rfl rfl ?_ | refine TN_val (rr_neq rfl rfl (qT (by omega))) rfl rfl ?_ | refine TN_val (rr_neq rfl rfl (qF (by omega))) rfl rfl ?_ | refine TN_val (rr_add64 rfl rfl (by omega) (by omega) rfl) rfl rfl ?_ | refine TN_val (qlen Und.eq rfl) rfl rfl ?_ | refine TN_val (rr_sub64 rfl rfl (by omega) (by omega) rfl) rfl rfl ?_)
              | refine TW_skip rfl rfl rfl rfl rfl rfl rfl ?_ | refine TW_done ?_)
            refine TW_one rfl (TL_storeB (i := 2) (cs' := #[.slice bt st3.length ct', .int .i64 ((seen : Int) + 1), .int .i64 0, .bool false]) rfl rfl rfl rfl rfl rfl (TW_on (sub_pick [3, 1] (by decide) rfl) ?_))
            repeat (first
              | ((first | refine TW_plain rfl rfl ?_ | refine TW_gmet rfl rfl rfl rfl ?_); first | refine TN_val (qp rfl) rfl rfl ?_ | refine TN_val (qfld FldC.fld rfl rfl) rfl rfl ?_ | refine TN_val (rr_not rfl rfl) rfl rfl ?_ | refine TN_val (rr_nilc rfl) rfl rfl ?_ | refine TN_val (rr_eql rfl rfl (qT (by omega))) rfl rfl ?_ | refine TN_val (rr_eql rfl rfl (qF (by omega))) rfl rfl ?_ | refine TN_val (rr_neq rfl rfl (qT (by omega))) rfl rfl ?_ | refine TN_val (rr_neq rfl rfl (qF (by omega))) rfl rfl ?_ | refine TN_val (rr_add64 rfl rfl (by omega) (by omega) rfl) rfl rfl ?_ | refine TN_val (qlen Und.eq rfl) rfl rfl ?_ | refine TN_val (rr_sub64 rfl rfl (by omega) (by omega) rfl) rfl rfl ?_)
              | refine TW_skip rfl rfl rfl rfl rfl rfl rfl ?_ | refine TW_done ?_)
            repeat (first
              | refine qv rfl (qp rfl) rfl rfl ?_ | refine TL_nil ?_ | refine T_seq ?_ | refine T_region ?_ | refine qcT rfl ?_ | refine qcF rfl ?_ | refine T_skip ?_
              | refine T_ret ?_ | refine E_then ?_ | refine E_thenR ?_ | refine qs rfl rfl rfl rfl rfl rfl ?_
              | ((try refine qg rfl rfl rfl ?_); first | refine qv rfl (qp rfl) rfl rfl ?_ | refine qv rfl (qfld FldC.fld rfl rfl) rfl rfl ?_ | refine qv rfl (rr_not rfl rfl) rfl rfl ?_ | refine qv rfl (rr_nilc rfl) rfl rfl ?_ | refine qv rfl (rr_eql rfl rfl (qT (by omega))) rfl rfl ?_ | refine qv rfl (rr_eql rfl rfl (qF (by omega))) rfl rfl ?_ | refine qv rfl (rr_neq rfl rfl (qT (by omega))) rfl rfl ?_ | refine qv rfl (rr_neq rfl rfl (qF (by omega))) rfl rfl ?_ | refine qv rfl (rr_add64 rfl rfl (by omega) (by omega) rfl) rfl rfl ?_ | refine qv rfl (qlen Und.eq rfl) rfl rfl ?_ | refine qv rfl (rr_sub64 rfl rfl (by omega) (by omega) rfl) rfl rfl ?_))
            exact E_retc3 (i := 2) rfl rfl rfl rfl rfl rfl fun w hm => hm.meets (S := pushS (seen : Int) (0, st3, out3)) (.slice bt st3.length ct', vo4) trivial [4, 5] (by decide) rfl
          | false =>
            rw [if_neg (by rintro ⟨_, h⟩; cases h)]
            repeat (first
              | refine qv rfl (qp rfl) rfl rfl ?_ | refine TL_nil ?_ | refine T_seq ?_ | refine T_region ?_ | refine qcT rfl ?_ | refine qcF rfl ?_ | refine T_skip ?_
              | refine T_ret ?_ | refine E_then ?_ | refine E_thenR ?_ | refine qs rfl rfl rfl rfl rfl rfl ?_
              | ((try refine qg rfl rfl rfl ?_); first | refine qv rfl (qp rfl) rfl rfl ?_ | refine qv rfl (qfld FldC.fld rfl rfl) rfl rfl ?_ | refine qv rfl (rr_not rfl rfl) rfl rfl ?_ | refine qv rfl (rr_nilc rfl) rfl rfl ?_ | refine qv rfl (rr_eql rfl rfl (qT (by omega))) rfl rfl ?_ | refine qv rfl (rr_eql rfl rfl (qF (by omega))) rfl rfl ?_ | refine qv rfl (rr_neq rfl rfl (qT (by omega))) rfl rfl ?_ | refine qv rfl (rr_neq rfl rfl (qF (by omega))) rfl rfl ?_ | refine qv rfl (rr_add64 rfl rfl (by omega) (by omega) rfl) rfl rfl ?_ | refine qv rfl (qlen Und.eq rfl) rfl rfl ?_ | refine qv rfl (rr_sub64 rfl rfl (by omega) (by omega) rfl) rfl rfl ?_))
            repeat (first
              | refine qv rfl (qp rfl) rfl rfl ?_ | refine TL_nil ?_ | refine T_seq ?_ | refine T_region ?_ | refine qcT rfl ?_ | refine qcF rfl ?_ | refine T_skip ?_
              | refine T_ret ?_ | refine E_then ?_ | refine E_thenR ?_ | refine qs rfl rfl rfl rfl rfl rfl ?_
              | ((try refine qg rfl rfl rfl ?_); first | refine qv rfl (qp rfl) rfl rfl ?_ | refine qv rfl (rr_load1 (v := .int .i64 (seen : Int)) TyC.ty rfl (at_blk (i := 1) rfl rfl)) rfl rfl ?_ | refine qv rfl (rr_build rfl (build_clE _ _)) rfl rfl ?_ | refine qv rfl (qfld FldC.fld rfl rfl) rfl rfl ?_ | refine qv rfl (rr_not rfl rfl) rfl rfl ?_ | refine qv rfl (rr_nilc rfl) rfl rfl ?_ | refine qv rfl (rr_eql rfl rfl (qT (by omega))) rfl rfl ?_ | refine qv rfl (rr_eql rfl rfl (qF (by omega))) rfl rfl ?_ | refine qv rfl (rr_neq rfl rfl (qT (by omega))) rfl rfl ?_ | refine qv rfl (rr_neq rfl rfl (qF (by omega))) rfl rfl ?_ | refine qv rfl (rr_add64 rfl rfl (by omega) (by omega) rfl) rfl rfl ?_ | refine qv rfl (qlen Und.eq rfl) rfl rfl ?_ | refine qv rfl (rr_sub64 rfl rfl (by omega) (by omega) rfl) rfl rfl ?_))
            refine TL_storeB (i := 2) (cs' := #[.slice none 0 0, .int .i64 (seen : Int), .int .i64 14, .bool false]) rfl rfl rfl rfl rfl rfl ?_
            conv => arg 8; simp only [zA, zB, zC, zD, zE, zF, zG, zH, zI, rowS, ret, id_eq]
            repeat (first
              | refine qv rfl (qp rfl) rfl rfl ?_ | refine TL_nil ?_ | refine T_seq ?_ | refine T_region ?_ | refine qcT rfl ?_ | refine qcF rfl ?_ | refine T_skip ?_
              | refine T_ret ?_ | refine E_then ?_ | refine E_thenR ?_ | refine qs rfl rfl rfl rfl rfl rfl ?_
              | ((try refine qg rfl rfl rfl ?_); first | refine qv rfl (qp rfl) rfl rfl ?_ | refine qv rfl (qfld FldC.fld rfl rfl) rfl rfl ?_ | refine qv rfl (rr_not rfl rfl) rfl rfl ?_ | refine qv rfl (rr_nilc rfl) rfl rfl ?_ | refine qv rfl (rr_eql rfl rfl (qT (by omega))) rfl rfl ?_ | refine qv rfl (rr_eql rfl rfl (qF (by omega))) rfl rfl ?_ | refine qv rfl (rr_neq rfl rfl (qT (by omega))) rfl rfl ?_ | refine qv rfl (rr_neq rfl rfl (qF (by omega))) rfl rfl ?_ | refine qv rfl (rr_add64 rfl rfl (by omega) (by omega) rfl) rfl rfl ?_ | refine qv rfl (qlen Und.eq rfl) rfl rfl ?_ | refine qv rfl (rr_sub64 rfl rfl (by omega) (by omega) rfl) rfl rfl ?_))
            exact E_retc3 (i := 2) rfl rfl rfl rfl rfl rfl fun w hm => hm.meets (S := pushS (seen : Int) (14, [], [])) (.slice none 0 0, .slice none 0 0) trivial [] (by decide) rfl
        · rw [if_neg (by rintro ⟨h, _⟩; exact c2 h)]
          rw [decide_eq_false (show ¬ ((a1 + 1 : Nat) : Int) ≤ 2000 by omega)]
          repeat (first
            | refine qv rfl (qp rfl) rfl rfl ?_ | refine TL_nil ?_ | refine T_seq ?_ | refine T_region ?_ | refine qcT rfl ?_ | refine qcF rfl ?_ | refine T_skip ?_
            | refine T_ret ?_ | refine E_then ?_ | refine E_thenR ?_ | refine qs rfl rfl rfl rfl rfl rfl ?_
            | ((try refine qg rfl rfl rfl ?_); first | refine qv rfl (qp rfl) rfl rfl ?_ | refine qv rfl (qfld FldC.fld rfl rfl) rfl rfl ?_ | refine qv rfl (rr_not rfl rfl) rfl rfl ?_ | refine qv rfl (rr_nilc rfl) rfl rfl ?_ | refine qv rfl (rr_eql rfl rfl (qT (by omega))) rfl rfl ?_ | refine qv rfl (rr_eql rfl rfl (qF (by omega))) rfl rfl ?_ | refine qv rfl (rr_neq rfl rfl (qT (by omega))) rfl rfl ?_ | refine qv rfl (rr_neq rfl rfl (qF (by omega))) rfl rfl ?_ | refine qv rfl (rr_add64 rfl rfl (by omega) (by omega) rfl) rfl rfl ?_ | refine qv rfl (qlen Und.eq rfl) rfl rfl ?_ | refine qv rfl (rr_sub64 rfl rfl (by omega) (by omega) rfl) rfl rfl ?_))
          repeat (first
            | refine qv rfl (qp rfl) rfl rfl ?_ | refine TL_nil ?_ | refine T_seq ?_ | refine T_region ?_ | refine qcT rfl ?_ | refine qcF rfl ?_ | refine T_skip ?_
            | refine T_ret ?_ | refine E_then ?_ | refine E_thenR ?_ | refine qs rfl rfl rfl rfl rfl rfl ?_
            | ((try refine qg rfl rfl rfl ?_); first | refine qv rfl (qp rfl) rfl rfl ?_ | refine qv rfl (rr_load1 (v := .int .i64 (seen : Int)) TyC.ty rfl (at_blk (i := 1) rfl rfl)) rfl rfl ?_ | refine qv rfl (rr_build rfl (build_clE _ _)) rfl rfl ?_ | refine qv rfl (qfld FldC.fld rfl rfl) rfl rfl ?_ | refine qv rfl (rr_not rfl rfl) rfl rfl ?_ | refine qv rfl (rr_nilc rfl) rfl rfl ?_ | refine qv rfl (rr_eql rfl rfl (qT (by omega))) rfl rfl ?_ | refine qv rfl (rr_eql rfl rfl (qF (by omega))) rfl rfl ?_ | refine qv rfl (rr_neq rfl rfl (qT (by omega))) rfl rfl ?_ | refine qv rfl (rr_neq rfl rfl (qF (by omega))) rfl rfl ?_ | refine qv rfl (rr_add64 rfl rfl (by omega) (by omega) rfl) rfl rfl ?_ | refine qv rfl (qlen Und.eq rfl) rfl rfl ?_ | refine qv rfl (rr_sub64 rfl rfl (by omega) (by omega) rfl) rfl rfl ?_))
          refine TL_storeB (i := 2) (cs' := #[.slice none 0 0, .int .i64 (seen : Int), .int .i64 14, .bool false]) rfl rfl rfl rfl rfl rfl ?_
          conv => arg 8; simp only [zA, zB, zC, zD, zE, zF, zG, zH, zI, rowS, ret, id_eq]
          repeat (first
            | refine qv rfl (qp rfl) rfl rfl ?_ | refine TL_nil ?_ | refine T_seq ?_ | refine T_region ?_ | refine qcT rfl ?_ | refine qcF rfl ?_ | refine T_skip ?_
            | refine T_ret ?_ | refine E_then ?_ | refine E_thenR ?_ | refine qs rfl rfl rfl rfl rfl rfl ?_
            | ((try refine qg rfl rfl rfl ?_); first | refine qv rfl (qp rfl) rfl rfl ?_ | refine qv rfl (qfld FldC.fld rfl rfl) rfl rfl ?_ | refine qv rfl (rr_not rfl rfl) rfl rfl ?_ | refine qv rfl (rr_nilc rfl) rfl rfl ?_ | refine qv rfl (rr_eql rfl rfl (qT (by omega))) rfl rfl ?_ | refine qv rfl (rr_eql rfl rfl (qF (by omega))) rfl rfl ?_ | refine qv rfl (rr_neq rfl rfl (qT (by omega))) rfl rfl ?_ | refine qv rfl (rr_neq rfl rfl (qF (by omega))) rfl rfl ?_ | refine qv rfl (rr_add64 rfl rfl (by omega) (by omega) rfl) rfl rfl ?_ | refine qv rfl (qlen Und.eq rfl) rfl rfl ?_ | refine qv rfl (rr_sub64 rfl rfl (by omega) (by omega) rfl) rfl rfl ?_))
          exact E_retc3 (i := 2) rfl rfl rfl rfl rfl rfl fun w hm => hm.meets (S := pushS (seen : Int) (14, [], [])) (.slice none 0 0, .slice none 0 0) trivial [] (by decide) rfl
  · rw [push_bad hD (by decide)]
    repeat (first
      | refine qv rfl (qp rfl) rfl rfl ?_ | refine TL_nil ?_ | refine T_seq ?_ | refine T_region ?_ | refine qcT rfl ?_ | refine qcF rfl ?_ | refine T_skip ?_
      | refine T_ret ?_ | refine E_then ?_ | refine E_thenR ?_ | refine qs rfl rfl rfl rfl rfl rfl ?_
      | ((try refine qg rfl rfl rfl ?_); first | refine qv rfl (qp rfl) rfl rfl ?_ | refine qv rfl (qfld FldC.fld rfl rfl) rfl rfl ?_ | refine qv rfl (rr_not rfl rfl) rfl rfl ?_ | refine qv rfl (rr_nilc rfl) rfl rfl ?_ | refine qv rfl (rr_eql rfl rfl (qT (by omega))) rfl rfl ?_ | refine qv rfl (rr_eql rfl rfl (qF (by omega))) rfl rfl ?_ | refine qv rfl (rr_neq rfl rfl (qT (by omega))) rfl rfl ?_ | refine qv rfl (rr_neq rfl rfl (qF (by omega))) rfl rfl ?_ | refine qv rfl (rr_add64 rfl rfl (by omega) (by omega) rfl) rfl rfl ?_ | refine qv rfl (qlen Und.eq rfl) rfl rfl ?_ | refine qv rfl (rr_sub64 rfl rfl (by omega) (by omega) rfl) rfl rfl ?_))
    refine T_ord ([]) (.calm 0 (.calm 1 (.calm 2 (.calm 3 (.calm 4 (.calm 5 (.calm 6 (.calm 7 (.calm 8 (.calm 9 (.calm 10 (.calm 11 (.calm 12 (.calm 13 (.calm 14 (.calm 15 (.calm 16 (.calm 17 (.calm 18 (.calm 19 (.calm 20 (.calm 21 (.calm 22 (.calm 23 (.calm 24 (.calm 25 (.calm 26 (.calm 27 (.done))))))))))))))))))))))))))))) (sub_pick [] (by decide) rfl) (by kernel_rfl) (by kernel_rfl) (by intro c a d v w h; cases d <;> exact h) ?_
    repeat (first
      | ((first | refine TW_plain rfl rfl ?_ | refine TW_gmet rfl rfl rfl rfl ?_); first | refine TN_val (qp rfl) rfl rfl ?_ | refine TN_val (qfld FldC.fld rfl rfl) rfl rfl ?_ | refine TN_val (rr_not rfl rfl) rfl rfl ?_ | refine TN_val (rr_nilc rfl) rfl rfl ?_ | refine TN_val (rr_eql rfl rfl (qT (by omega))) rfl rfl ?_ | refine TN_val (rr_eql rfl rfl (qF (by omega))) rfl rfl ?_ | refine TN_val (rr_neq rfl rfl (qT (by omega))) rfl rfl ?_ | refine TN_val (rr_neq rfl rfl (qF (by omega))) rfl rfl ?_ | refine TN_val (rr_add64 rfl rfl (by omega) (by omega) rfl) rfl rfl ?_ | refine TN_val (qlen Und.eq rfl) rfl rfl ?_ | refine TN_val (rr_sub64 rfl rfl (by omega) (by omega) rfl) rfl rfl ?_)
      | refine TW_skip rfl rfl rfl rfl rfl rfl rfl ?_ | refine TW_done ?_)
    repeat (first
      | refine qv rfl (qp rfl) rfl rfl ?_ | refine TL_nil ?_ | refine T_seq ?_ | refine T_region ?_ | refine qcT rfl ?_ | refine qcF rfl ?_ | refine T_skip ?_
      | refine T_ret ?_ | refine E_then ?_ | refine E_thenR ?_ | refine qs rfl rfl rfl rfl rfl rfl ?_
      | ((try refine qg rfl rfl rfl ?_); first | refine qv rfl (qp rfl) rfl rfl ?_ | refine qv rfl (rr_load1 (v := .int .i64 (seen : Int)) TyC.ty rfl (at_blk (i := 1) rfl rfl)) rfl rfl ?_ | refine qv rfl (rr_build rfl (build_clE _ _)) rfl rfl ?_ | refine qv rfl (qfld FldC.fld rfl rfl) rfl rfl ?_ | refine qv rfl (rr_not rfl rfl) rfl rfl ?_ | refine qv rfl (rr_nilc rfl) rfl rfl ?_ | refine qv rfl (rr_eql rfl rfl (qT (by omega))) rfl rfl ?_ | refine qv rfl (rr_eql rfl rfl (qF (by omega))) rfl rfl ?_ | refine qv rfl (rr_neq rfl rfl (qT (by omega))) rfl rfl ?_ | refine qv rfl (rr_neq rfl rfl (qF (by omega))) rfl rfl ?_ | refine qv rfl (rr_add64 rfl rfl (by omega) (by omega) rfl) rfl rfl ?_ | refine qv rfl (qlen Und.eq rfl) rfl rfl ?_ | refine qv rfl (rr_sub64 rfl rfl (by omega) (by omega) rfl) rfl rfl ?_))
    refine TL_storeB (i := 2) (cs' := #[.slice none 0 0, .int .i64 (seen : Int), .int .i64 13, .bool false]) rfl rfl rfl rfl rfl rfl ?_
    conv => arg 8; simp only [zA, zB, zC, zD, zE, zF, zG, zH, zI, rowS, ret, id_eq]
    repeat (first
      | refine qv rfl (qp rfl) rfl rfl ?_ | refine TL_nil ?_ | refine T_seq ?_ | refine T_region ?_ | refine qcT rfl ?_ | refine qcF rfl ?_ | refine T_skip ?_
      | refine T_ret ?_ | refine E_then ?_ | refine E_thenR ?_ | refine qs rfl rfl rfl rfl rfl rfl ?_
      | ((try refine qg rfl rfl rfl ?_); first | refine qv rfl (qp rfl) rfl rfl ?_ | refine qv rfl (qfld FldC.fld rfl rfl) rfl rfl ?_ | refine qv rfl (rr_not rfl rfl) rfl rfl ?_ | refine qv rfl (rr_nilc rfl) rfl rfl ?_ | refine qv rfl (rr_eql rfl rfl (qT (by omega))) rfl rfl ?_ | refine qv rfl (rr_eql rfl rfl (qF (by omega))) rfl rfl ?_ | refine qv rfl (rr_neq rfl rfl (qT (by omega))) rfl rfl ?_ | refine qv rfl (rr_neq rfl rfl (qF (by omega))) rfl rfl ?_ | refine qv rfl (rr_add64 rfl rfl (by omega) (by omega) rfl) rfl rfl ?_ | refine qv rfl (qlen Und.eq rfl) rfl rfl ?_ | refine qv rfl (rr_sub64 rfl rfl (by omega) (by omega) rfl) rfl rfl ?_))
    exact E_retc3 (i := 2) rfl rfl rfl rfl rfl rfl fun w hm => hm.meets (S := pushS (seen : Int) (13, [], [])) (.slice none 0 0, .slice none 0 0) trivial [] (by decide) rfl
  · rw [push_bad hD (by decide)]
    repeat (first
      | refine qv rfl (qp rfl) rfl rfl ?_ | refine TL_nil ?_ | refine T_seq ?_ | refine T_region ?_ | refine qcT rfl ?_ | refine qcF rfl ?_ | refine T_skip ?_
      | refine T_ret ?_ | refine E_then ?_ | refine E_thenR ?_ | refine qs rfl rfl rfl rfl rfl rfl ?_
      | ((try refine qg rfl rfl rfl ?_); first | refine qv rfl (qp rfl) rfl rfl ?_ | refine qv rfl (qfld FldC.fld rfl rfl) rfl rfl ?_ | refine qv rfl (rr_not rfl rfl) rfl rfl ?_ | refine qv rfl (rr_nilc rfl) rfl rfl ?_ | refine qv rfl (rr_eql rfl rfl (qT (by omega))) rfl rfl ?_ | refine qv rfl (rr_eql rfl rfl (qF (by omega))) rfl rfl ?_ | refine qv rfl (rr_neq rfl rfl (qT (by omega))) rfl rfl ?_ | refine qv rfl (rr_neq rfl rfl (qF (by omega))) rfl rfl ?_ | refine qv rfl (rr_add64 rfl rfl (by omega) (by omega) rfl) rfl rfl ?_ | refine qv rfl (qlen Und.eq rfl) rfl rfl ?_ | refine qv rfl (rr_sub64 rfl rfl (by omega) (by omega) rfl) rfl rfl ?_))
    refine T_ord ([]) (.calm 0 (.calm 1 (.calm 2 (.calm 3 (.calm 4 (.calm 5 (.calm 6 (.calm 7 (.calm 8 (.calm 9 (.calm 10 (.calm 11 (.calm 12 (.calm 13 (.calm 14 (.calm 15 (.calm 16 (.calm 17 (.calm 18 (.calm 19 (.calm 20 (.calm 21 (.calm 22 (.calm 23 (.calm 24 (.calm 25 (.calm 26 (.calm 27 (.done))))))))))))))))))))))))))))) (sub_pick [] (by decide) rfl) (by kernel_rfl) (by kernel_rfl) (by intro c a d v w h; cases d <;> exact h) ?_
    repeat (first
      | ((first | refine TW_plain rfl rfl ?_ | refine TW_gmet rfl rfl rfl rfl ?_); first | refine TN_val (qp rfl) rfl rfl ?_ | refine TN_val (qfld FldC.fld rfl rfl) rfl rfl ?_ | refine TN_val (rr_not rfl rfl) rfl rfl ?_ | refine TN_val (rr_nilc rfl) rfl rfl ?_ | refine TN_val (rr_eql rfl rfl (qT (by omega))) rfl rfl ?_ | refine TN_val (rr_eql rfl rfl (qF (by omega))) rfl rfl ?_ | refine TN_val (rr_neq rfl rfl (qT (by omega))) rfl rfl ?_ | refine TN_val (rr_neq rfl rfl (qF (by omega))) rfl rfl ?_ | refine TN_val (rr_add64 rfl rfl (by omega) (by omega) rfl) rfl rfl ?_ | refine TN_val (qlen Und.eq rfl) rfl rfl ?_ | refine TN_val (rr_sub64 rfl rfl (by omega) (by omega) rfl) rfl rfl ?_)
      | refine TW_skip rfl rfl rfl rfl rfl rfl rfl ?_ | refine TW_done ?_)
    repeat (first
      | refine qv rfl (qp rfl) rfl rfl ?_ | refine TL_nil ?_ | refine T_seq ?_ | refine T_region ?_ | refine qcT rfl ?_ | refine qcF rfl ?_ | refine T_skip ?_
      | refine T_ret ?_ | refine E_then ?_ | refine E_thenR ?_ | refine qs rfl rfl rfl rfl rfl rfl ?_
      | ((try refine qg rfl rfl rfl ?_); first | refine qv rfl (qp rfl) rfl rfl ?_ | refine qv rfl (rr_load1 (v := .int .i64 (seen : Int)) TyC.ty rfl (at_blk (i := 1) rfl rfl)) rfl rfl ?_ | refine qv rfl (rr_build rfl (build_clE _ _)) rfl rfl ?_ | refine qv rfl (qfld FldC.fld rfl rfl) rfl rfl ?_ | refine qv rfl (rr_not rfl rfl) rfl rfl ?_ | refine qv rfl (rr_nilc rfl) rfl rfl ?_ | refine qv rfl (rr_eql rfl rfl (qT (by omega))) rfl rfl ?_ | refine qv rfl (rr_eql rfl rfl (qF (by omega))) rfl rfl ?_ | refine qv rfl (rr_neq rfl rfl (qT (by omega))) rfl rfl ?_ | refine qv rfl (rr_neq rfl rfl (qF (by omega))) rfl rfl ?_ | refine qv rfl (rr_add64 rfl rfl (by omega) (by omega) rfl) rfl rfl ?_ | refine qv rfl (qlen Und.eq rfl) rfl rfl ?_ | refine qv rfl (rr_sub64 rfl rfl (by omega) (by omega) rfl) rfl rfl ?_))
    refine TL_storeB (i := 2) (cs' := #[.slice none 0 0, .int .i64 (seen : Int), .int .i64 14, .bool false]) rfl rfl rfl rfl rfl rfl ?_
    conv => arg 8; simp only [zA, zB, zC, zD, zE, zF, zG, zH, zI, rowS, ret, id_eq]
    repeat (first
      | refine qv rfl (qp rfl) rfl rfl ?_ | refine TL_nil ?_ | refine T_seq ?_ | refine T_region ?_ | refine qcT rfl ?_ | refine qcF rfl ?_ | refine T_skip ?_
      | refine T_ret ?_ | refine E_then ?_ | refine E_thenR ?_ | refine qs rfl rfl rfl rfl rfl rfl ?_
      | ((try refine qg rfl rfl rfl ?_); first | refine qv rfl (qp rfl) rfl rfl ?_ | refine qv rfl (qfld FldC.fld rfl rfl) rfl rfl ?_ | refine qv rfl (rr_not rfl rfl) rfl rfl ?_ | refine qv rfl (rr_nilc rfl) rfl rfl ?_ | refine qv rfl (rr_eql rfl rfl (qT (by omega))) rfl rfl ?_ | refine qv rfl (rr_eql rfl rfl (qF (by omega))) rfl rfl ?_ | refine qv rfl (rr_neq rfl rfl (qT (by omega))) rfl rfl ?_ | refine qv rfl (rr_neq rfl rfl (qF (by omega))) rfl rfl ?_ | refine qv rfl (rr_add64 rfl rfl (by omega) (by omega) rfl) rfl rfl ?_ | refine qv rfl (qlen Und.eq rfl) rfl rfl ?_ | refine qv rfl (rr_sub64 rfl rfl (by omega) (by omega) rfl) rfl rfl ?_))
    exact E_retc3 (i := 2) rfl rfl rfl rfl rfl rfl fun w hm => hm.meets (S := pushS (seen : Int) (14, [], [])) (.slice none 0 0, .slice none 0 0) trivial [] (by decide) rfl

/-- an end's answer -/
def endS (seen : Int) (R : Int × List Sym) : Spec Value :=
  ⟨fun _ => True, fun x => if R.1 = 0 then .tuple #[clV (.slice none 0 0) seen 0 true, x, .int .i64 0] else .tuple #[clV (.slice none 0 0) seen R.1 false, .slice none 0 0, .int .i64 R.1], fun x => if R.1 = 0 then [evO x R.2] else []⟩
theorem build_clD (seen : Int) (w : World) : (Instr.build 51 #[(1, .int .i64 seen), (3, .bool true)]).run Try.prog w = .ok (clV (.slice none 0 0) seen 0 true) w := by
  unfold clV; go_simp
set_option maxHeartbeats 4000000 in
theorem climbEnd_calls (v vr vt : Value) (g : Gram) (ll : List (List Int)) (T N : Nat) (st : List TD) (seen : Nat) (w : World) (h : GraR (fun k => k < w.heap.size) w v g) (hr : RowsR w vr ll) (ht : TdR w vt st) (h0 : chkL g ll = 0) (hg : checkG g = 0) (hT : TabOk g ll T N) (hs : ∀ d ∈ st, okTD g d) (hl : st.length ≤ 60) (h1 : seen ≤ 1000000) :
    Calls Try.prog 16 #[v, vr, clV vt (seen : Int) 0 false] w (Meets (endS (seen : Int) (endF g.prods (nxL ll T) st)) w) := by
  have hterm := hT.terms
  have hck := fun w' (hg' : Gr w w') => climbCheck_calls v vr vt g ll st (seen : Int) g.terms w' (h.gr hg') (hr.gr hg') (ht.gr hg') h0 hs hl (by omega) (by omega) (by omega) (by omega)
  obtain ⟨vp, rfl, hp, _⟩ := h
  have hbg := fun w' (hg' : Gr w w') => begun_calls g.terms g.nons vp vt st (seen : Int) 0 false w' (ht.gr hg') hl (by obtain ⟨b, c, e, _⟩ := hp; exact ⟨b, _, c, e⟩)
  have hdw := fun gw vt0 vo0 w' B ho hm => wdown_calls w gw g.terms g.nons vp vr g ll T N T hp hr hg hT (by omega) vt0 vo0 st w' B hs hl ho hm
  rw [← hterm] at hdw
  have hdt := fun R => @down_top g.prods (nxL ll T) 2001 st [] 0 R
  have hde := @down_err g.prods (nxL ll T) 2001 st [] 0
  generalize hD : downF g.prods (nxL ll T) 2001 st [] 0 = D at *
  obtain ⟨st1, out1, a1, e⟩ := D
  have hdt := fun h => hdt _ rfl h
  dsimp only at *
  refine enter (args := [graV g.terms g.nons vp, vr, clV vt (seen : Int) 0 false]) (n := 55) Try.func16 rfl rfl rfl ?_
  refine T_seq (T_region (TL_box rfl rfl rfl fun g0 => TL_box rfl rfl rfl fun g1 => TL_new rfl fun g2 => ?_))
  conv => arg 8; simp only [zA, zB, zC, zD, zE, zF, zG, zH, zI, rowS, ret, id_eq]
  repeat (first
    | refine qv rfl (qp rfl) rfl rfl ?_ | refine TL_nil ?_ | refine T_seq ?_ | refine T_region ?_ | refine qcT rfl ?_ | refine qcF rfl ?_ | refine T_skip ?_
    | refine T_ret ?_ | refine E_then ?_ | refine E_thenR ?_ | refine qs rfl rfl rfl rfl rfl rfl ?_
    | ((try refine qg rfl rfl rfl ?_); first | refine qv rfl (qp rfl) rfl rfl ?_ | refine qv rfl (rr_load1 (v := .int .i64 g.terms) TyC.ty rfl (at_blk (i := 0) rfl rfl)) rfl rfl ?_ | refine qv rfl (rr_loadB (i := 0) TyC.ty rfl rfl rfl) rfl rfl ?_ | refine qv rfl (rr_loadB (i := 1) TyC.ty rfl rfl rfl) rfl rfl ?_ | refine qv rfl (qfld FldC.fld rfl rfl) rfl rfl ?_ | refine qv rfl (rr_nilc rfl) rfl rfl ?_ | refine qv rfl (rr_eql rfl rfl (qT (by omega))) rfl rfl ?_ | refine qv rfl (rr_eql rfl rfl (qF (by omega))) rfl rfl ?_ | refine qv rfl (rr_neq rfl rfl (qT (by omega))) rfl rfl ?_ | refine qv rfl (rr_neq rfl rfl (qF (by omega))) rfl rfl ?_ | refine qv rfl (qlen Und.eq rfl) rfl rfl ?_ | refine qv rfl (rr_gtr rfl rfl (qT (by omega))) rfl rfl ?_ | refine qv rfl (rr_gtr rfl rfl (qF (by omega))) rfl rfl ?_))
  refine TL_call (he4 EntersC.en rfl rfl rfl rfl rfl) (fun w hm => hck _ hm.below) rfl rfl rfl ?_
  intro _ _
  conv => arg 8; simp only [zA, zB, zC, zD, zE, zF, zG, zH, zI, rowS, ret, id_eq]
  repeat (first
    | refine qv rfl (qp rfl) rfl rfl ?_ | refine TL_nil ?_ | refine T_seq ?_ | refine T_region ?_ | refine qcT rfl ?_ | refine qcF rfl ?_ | refine T_skip ?_
    | refine T_ret ?_ | refine E_then ?_ | refine E_thenR ?_ | refine qs rfl rfl rfl rfl rfl rfl ?_
    | ((try refine qg rfl rfl rfl ?_); first | refine qv rfl (qp rfl) rfl rfl ?_ | refine qv rfl (rr_loadB (i := 0) TyC.ty rfl rfl rfl) rfl rfl ?_ | refine qv rfl (rr_loadB (i := 1) TyC.ty rfl rfl rfl) rfl rfl ?_ | refine qv rfl (qfld FldC.fld rfl rfl) rfl rfl ?_ | refine qv rfl (rr_nilc rfl) rfl rfl ?_ | refine qv rfl (rr_eql rfl rfl (qT (by omega))) rfl rfl ?_ | refine qv rfl (rr_eql rfl rfl (qF (by omega))) rfl rfl ?_ | refine qv rfl (rr_neq rfl rfl (qT (by omega))) rfl rfl ?_ | refine qv rfl (rr_neq rfl rfl (qF (by omega))) rfl rfl ?_ | refine qv rfl (qlen Und.eq rfl) rfl rfl ?_ | refine qv rfl (rr_gtr rfl rfl (qT (by omega))) rfl rfl ?_ | refine qv rfl (rr_gtr rfl rfl (qF (by omega))) rfl rfl ?_))
  refine TL_call (he2 EntersC.en rfl rfl rfl) (fun w hm => hbg _ hm.below) rfl rfl rfl ?_
  rintro ⟨gw, vt1⟩ _
  conv => arg 8; simp only [zA, zB, zC, zD, zE, zF, zG, zH, zI, rowS, ret, id_eq, begunS]
  repeat (first
    | refine qv rfl (qp rfl) rfl rfl ?_ | refine TL_nil ?_ | refine T_seq ?_ | refine T_region ?_ | refine qcT rfl ?_ | refine qcF rfl ?_ | refine T_skip ?_
    | refine T_ret ?_ | refine E_then ?_ | refine E_thenR ?_ | refine qs rfl rfl rfl rfl rfl rfl ?_
    | ((try refine qg rfl rfl rfl ?_); first | refine qv rfl (qp rfl) rfl rfl ?_ | refine qv rfl (rr_load1 (v := .int .i64 g.terms) TyC.ty rfl (at_blk (i := 0) rfl rfl)) rfl rfl ?_ | refine qv rfl (qfld FldC.fld rfl rfl) rfl rfl ?_ | refine qv rfl (rr_nilc rfl) rfl rfl ?_ | refine qv rfl (rr_eql rfl rfl (qT (by omega))) rfl rfl ?_ | refine qv rfl (rr_eql rfl rfl (qF (by omega))) rfl rfl ?_ | refine qv rfl (rr_neq rfl rfl (qT (by omega))) rfl rfl ?_ | refine qv rfl (rr_neq rfl rfl (qF (by omega))) rfl rfl ?_ | refine qv rfl (qlen Und.eq rfl) rfl rfl ?_ | refine qv rfl (rr_gtr rfl rfl (qT (by omega))) rfl rfl ?_ | refine qv rfl (rr_gtr rfl rfl (qF (by omega))) rfl rfl ?_))
  refine TL_nilrow 39 2 ?_
  conv => arg 8; simp only [zA, zB, zC, zD, zE, zF, zG, zH, zI, rowS, ret, id_eq]
  refine TL_callB [3, 4, 5] [0, 1, 2] (by decide) rfl rfl (he3 EntersC.en rfl rfl rfl rfl) (fun w' hm hb => hdw gw vt1 _ w' _ ((Old.self w).on hm fun o h => pick_mem h) hb) rfl rfl rfl ?_
  rintro ⟨vt2, vo2⟩ _
  conv => arg 8; simp only [zA, zB, zC, zD, zE, zF, zG, zH, zI, rowS, ret, id_eq, dwS]
  conv => arg 7; simp only [dwS]
  rcases hde with rfl | rfl | rfl
  · rcases hdt rfl with rfl | ⟨x, r, rfl, hx⟩
    · rw [end_nil hD]
      repeat (first
        | refine qv rfl (qp rfl) rfl rfl ?_ | refine TL_nil ?_ | refine T_seq ?_ | refine T_region ?_ | refine qcT rfl ?_ | refine qcF rfl ?_ | refine T_skip ?_
        | refine T_ret ?_ | refine E_then ?_ | refine E_thenR ?_ | refine qs rfl rfl rfl rfl rfl rfl ?_
        | ((try refine qg rfl rfl rfl ?_); first | refine qv rfl (qp rfl) rfl rfl ?_ | refine qv rfl (rr_load1 (v := vt2) TyC.ty rfl (at_blk (i := 3) rfl rfl)) rfl rfl ?_ | refine qv rfl (rr_eql (b := true) rfl rfl rfl) rfl rfl ?_ | refine qv rfl (qfld FldC.fld rfl rfl) rfl rfl ?_ | refine qv rfl (rr_nilc rfl) rfl rfl ?_ | refine qv rfl (rr_eql rfl rfl (qT (by omega))) rfl rfl ?_ | refine qv rfl (rr_eql rfl rfl (qF (by omega))) rfl rfl ?_ | refine qv rfl (rr_neq rfl rfl (qT (by omega))) rfl rfl ?_ | refine qv rfl (rr_neq rfl rfl (qF (by omega))) rfl rfl ?_ | refine qv rfl (rr_rowlen (i := 4) Und.eq rfl rfl) rfl rfl ?_ | refine qv rfl (rr_gtr (b := false) rfl rfl rfl) rfl rfl ?_ | refine qv rfl (qlen Und.eq rfl) rfl rfl ?_ | refine qv rfl (rr_gtr rfl rfl (qT (by omega))) rfl rfl ?_ | refine qv rfl (rr_gtr rfl rfl (qF (by omega))) rfl rfl ?_))
      refine T_ord ([cwO gw g.terms g.nons vp vt2 vo2 a1, blkO g1 (clV vt (seen : Int) 0 false).cells 51]) (.calm 0 (.calm 1 (.calm 2 (.calm 3 (.calm 4 (.calm 5 (.calm 6 (.one 7 (.calm 8 (.calm 9 (.done))))))))))) (sub_pick [3, 1] (by decide) rfl) (by kernel_rfl) (by kernel_rfl) (by intro c a d v w h; cases d <;> exact h) ?_
      repeat (first
        | ((first | refine TW_plain rfl rfl ?_ | refine TW_gmet rfl rfl rfl rfl ?_); first | refine TN_val (qp rfl) rfl rfl ?_ | refine TN_val (rr_load1 (v := .int .i64 (seen : Int)) TyC.ty rfl (at_blk (i := 1) rfl rfl)) rfl rfl ?_ | refine TN_val (rr_load1 (v := vo2) TyC.ty rfl (at_blk (i := 0) rfl rfl)) rfl rfl ?_ | refine TN_val (rr_build rfl (build_clD _)) rfl rfl ?_ | refine TN_val (qfld FldC.fld rfl rfl) rfl rfl ?_ | refine TN_val (rr_nilc rfl) rfl rfl ?_ | refine TN_val (rr_eql rfl rfl (qT (by omega))) rfl rfl ?_ | refine TN_val (rr_eql rfl rfl (qF (by omega))) rfl rfl ?_ | refine TN_val (rr_neq rfl rfl (qT (by omega))) rfl rfl ?_ | refine TN_val (rr_neq rfl rfl (qF (by omega))) rfl rfl ?_ | refine TN_val (qlen Und.eq rfl) rfl rfl ?_ | refine TN_val (rr_gtr rfl rfl (qT (by omega))) rfl rfl ?_ | refine TN_val (rr_gtr rfl rfl (qF (by omega))) rfl rfl ?_)
        | refine TW_skip rfl rfl rfl rfl rfl rfl rfl ?_ | refine TW_done ?_)
      refine TW_one rfl (TL_storeB (i := 2) (cs' := #[.slice none 0 0, .int .i64 (seen : Int), .int .i64 0, .bool true]) rfl rfl rfl rfl rfl rfl (TW_on (sub_pick [3, 1] (by decide) rfl) ?_))
      repeat (first
        | ((first | refine TW_plain rfl rfl ?_ | refine TW_gmet rfl rfl rfl rfl ?_); first | refine TN_val (qp rfl) rfl rfl ?_ | refine TN_val (qfld FldC.fld rfl rfl) rfl rfl ?_ | refine TN_val (rr_nilc rfl) rfl rfl ?_ | refine TN_val (rr_eql rfl rfl (qT (by omega))) rfl rfl ?_ | refine TN_val (rr_eql rfl rfl (qF (by omega))) rfl rfl ?_ | refine TN_val (rr_neq rfl rfl (qT (by omega))) rfl rfl ?_ | refine TN_val (rr_neq rfl rfl (qF (by omega))) rfl rfl ?_ | refine TN_val (qlen Und.eq rfl) rfl rfl ?_ | refine TN_val (rr_gtr rfl rfl (qT (by omega))) rfl rfl ?_ | refine TN_val (rr_gtr rfl rfl (qF (by omega))) rfl rfl ?_)
        | refine TW_skip rfl rfl rfl rfl rfl rfl rfl ?_ | refine TW_done ?_)
      repeat (first
        | refine qv rfl (qp rfl) rfl rfl ?_ | refine TL_nil ?_ | refine T_seq ?_ | refine T_region ?_ | refine qcT rfl ?_ | refine qcF rfl ?_ | refine T_skip ?_
        | refine T_ret ?_ | refine E_then ?_ | refine E_thenR ?_ | refine qs rfl rfl rfl rfl rfl rfl ?_
        | ((try refine qg rfl rfl rfl ?_); first | refine qv rfl (qp rfl) rfl rfl ?_ | refine qv rfl (qfld FldC.fld rfl rfl) rfl rfl ?_ | refine qv rfl (rr_nilc rfl) rfl rfl ?_ | refine qv rfl (rr_eql rfl rfl (qT (by omega))) rfl rfl ?_ | refine qv rfl (rr_eql rfl rfl (qF (by omega))) rfl rfl ?_ | refine qv rfl (rr_neq rfl rfl (qT (by omega))) rfl rfl ?_ | refine qv rfl (rr_neq rfl rfl (qF (by omega))) rfl rfl ?_ | refine qv rfl (qlen Und.eq rfl) rfl rfl ?_ | refine qv rfl (rr_gtr rfl rfl (qT (by omega))) rfl rfl ?_ | refine qv rfl (rr_gtr rfl rfl (qF (by omega))) rfl rfl ?_))
      exact E_retc3 (i := 2) rfl rfl rfl rfl rfl rfl fun w hm => hm.meets (S := endS (seen : Int) (0, out1)) vo2 trivial [5] (by decide) rfl
    · rw [end_sym hD]
      repeat (first
        | refine qv rfl (qp rfl) rfl rfl ?_ | refine TL_nil ?_ | refine T_seq ?_ | refine T_region ?_ | refine qcT rfl ?_ | refine qcF rfl ?_ | refine T_skip ?_
        | refine T_ret ?_ | refine E_then ?_ | refine E_thenR ?_ | refine qs rfl rfl rfl rfl rfl rfl ?_
        | ((try refine qg rfl rfl rfl ?_); first | refine qv rfl (qp rfl) rfl rfl ?_ | refine qv rfl (rr_load1 (v := vt2) TyC.ty rfl (at_blk (i := 3) rfl rfl)) rfl rfl ?_ | refine qv rfl (rr_eql (b := true) rfl rfl rfl) rfl rfl ?_ | refine qv rfl (rr_load1 (v := .int .i64 (seen : Int)) TyC.ty rfl (at_blk (i := 1) rfl rfl)) rfl rfl ?_ | refine qv rfl (rr_build rfl (build_clE _ _)) rfl rfl ?_ | refine qv rfl (qfld FldC.fld rfl rfl) rfl rfl ?_ | refine qv rfl (rr_nilc rfl) rfl rfl ?_ | refine qv rfl (rr_eql rfl rfl (qT (by omega))) rfl rfl ?_ | refine qv rfl (rr_eql rfl rfl (qF (by omega))) rfl rfl ?_ | refine qv rfl (rr_neq rfl rfl (qT (by omega))) rfl rfl ?_ | refine qv rfl (rr_neq rfl rfl (qF (by omega))) rfl rfl ?_ | refine qv rfl (rr_rowlen (i := 4) Und.eq rfl rfl) rfl rfl ?_ | refine qv rfl (rr_gtr (b := true) rfl rfl (decide_eq_true (by rw [List.length_cons]; omega))) rfl rfl ?_ | refine qv rfl (qlen Und.eq rfl) rfl rfl ?_ | refine qv rfl (rr_gtr rfl rfl (qT (by omega))) rfl rfl ?_ | refine qv rfl (rr_gtr rfl rfl (qF (by omega))) rfl rfl ?_))
      refine TL_storeB (i := 2) (cs' := #[.slice none 0 0, .int .i64 (seen : Int), .int .i64 13, .bool false]) rfl rfl rfl rfl rfl rfl ?_
      conv => arg 8; simp only [zA, zB, zC, zD, zE, zF, zG, zH, zI, rowS, ret, id_eq]
      repeat (first
        | refine qv rfl (qp rfl) rfl rfl ?_ | refine TL_nil ?_ | refine T_seq ?_ | refine T_region ?_ | refine qcT rfl ?_ | refine qcF rfl ?_ | refine T_skip ?_
        | refine T_ret ?_ | refine E_then ?_ | refine E_thenR ?_ | refine qs rfl rfl rfl rfl rfl rfl ?_
        | ((try refine qg rfl rfl rfl ?_); first | refine qv rfl (qp rfl) rfl rfl ?_ | refine qv rfl (qfld FldC.fld rfl rfl) rfl rfl ?_ | refine qv rfl (rr_nilc rfl) rfl rfl ?_ | refine qv rfl (rr_eql rfl rfl (qT (by omega))) rfl rfl ?_ | refine qv rfl (rr_eql rfl rfl (qF (by omega))) rfl rfl ?_ | refine qv rfl (rr_neq rfl rfl (qT (by omega))) rfl rfl ?_ | refine qv rfl (rr_neq rfl rfl (qF (by omega))) rfl rfl ?_ | refine qv rfl (qlen Und.eq rfl) rfl rfl ?_ | refine qv rfl (rr_gtr rfl rfl (qT (by omega))) rfl rfl ?_ | refine qv rfl (rr_gtr rfl rfl (qF (by omega))) rfl rfl ?_))
      exact E_retc3 (i := 2) rfl rfl rfl rfl rfl rfl fun w hm => hm.meets (S := endS (seen : Int) (13, [])) (.slice none 0 0) trivial [] (by decide) rfl
  · rw [end_bad hD (by decide)]
    repeat (first
      | refine qv rfl (qp rfl) rfl rfl ?_ | refine TL_nil ?_ | refine T_seq ?_ | refine T_region ?_ | refine qcT rfl ?_ | refine qcF rfl ?_ | refine T_skip ?_
      | refine T_ret ?_ | refine E_then ?_ | refine E_thenR ?_ | refine qs rfl rfl rfl rfl rfl rfl ?_
      | ((try refine qg rfl rfl rfl ?_); first | refine qv rfl (qp rfl) rfl rfl ?_ | refine qv rfl (rr_load1 (v := .int .i64 (seen : Int)) TyC.ty rfl (at_blk (i := 1) rfl rfl)) rfl rfl ?_ | refine qv rfl (rr_build rfl (build_clE _ _)) rfl rfl ?_ | refine qv rfl (qfld FldC.fld rfl rfl) rfl rfl ?_ | refine qv rfl (rr_nilc rfl) rfl rfl ?_ | refine qv rfl (rr_eql rfl rfl (qT (by omega))) rfl rfl ?_ | refine qv rfl (rr_eql rfl rfl (qF (by omega))) rfl rfl ?_ | refine qv rfl (rr_neq rfl rfl (qT (by omega))) rfl rfl ?_ | refine qv rfl (rr_neq rfl rfl (qF (by omega))) rfl rfl ?_ | refine qv rfl (qlen Und.eq rfl) rfl rfl ?_ | refine qv rfl (rr_gtr rfl rfl (qT (by omega))) rfl rfl ?_ | refine qv rfl (rr_gtr rfl rfl (qF (by omega))) rfl rfl ?_))
    refine TL_storeB (i := 2) (cs' := #[.slice none 0 0, .int .i64 (seen : Int), .int .i64 13, .bool false]) rfl rfl rfl rfl rfl rfl ?_
    conv => arg 8; simp only [zA, zB, zC, zD, zE, zF, zG, zH, zI, rowS, ret, id_eq]
    repeat (first
      | refine qv rfl (qp rfl) rfl rfl ?_ | refine TL_nil ?_ | refine T_seq ?_ | refine T_region ?_ | refine qcT rfl ?_ | refine qcF rfl ?_ | refine T_skip ?_
      | refine T_ret ?_ | refine E_then ?_ | refine E_thenR ?_ | refine qs rfl rfl rfl rfl rfl rfl ?_
      | ((try refine qg rfl rfl rfl ?_); first | refine qv rfl (qp rfl) rfl rfl ?_ | refine qv rfl (qfld FldC.fld rfl rfl) rfl rfl ?_ | refine qv rfl (rr_nilc rfl) rfl rfl ?_ | refine qv rfl (rr_eql rfl rfl (qT (by omega))) rfl rfl ?_ | refine qv rfl (rr_eql rfl rfl (qF (by omega))) rfl rfl ?_ | refine qv rfl (rr_neq rfl rfl (qT (by omega))) rfl rfl ?_ | refine qv rfl (rr_neq rfl rfl (qF (by omega))) rfl rfl ?_ | refine qv rfl (qlen Und.eq rfl) rfl rfl ?_ | refine qv rfl (rr_gtr rfl rfl (qT (by omega))) rfl rfl ?_ | refine qv rfl (rr_gtr rfl rfl (qF (by omega))) rfl rfl ?_))
    exact E_retc3 (i := 2) rfl rfl rfl rfl rfl rfl fun w hm => hm.meets (S := endS (seen : Int) (13, [])) (.slice none 0 0) trivial [] (by decide) rfl
  · rw [end_bad hD (by decide)]
    repeat (first
      | refine qv rfl (qp rfl) rfl rfl ?_ | refine TL_nil ?_ | refine T_seq ?_ | refine T_region ?_ | refine qcT rfl ?_ | refine qcF rfl ?_ | refine T_skip ?_
      | refine T_ret ?_ | refine E_then ?_ | refine E_thenR ?_ | refine qs rfl rfl rfl rfl rfl rfl ?_
      | ((try refine qg rfl rfl rfl ?_); first | refine qv rfl (qp rfl) rfl rfl ?_ | refine qv rfl (rr_load1 (v := .int .i64 (seen : Int)) TyC.ty rfl (at_blk (i := 1) rfl rfl)) rfl rfl ?_ | refine qv rfl (rr_build rfl (build_clE _ _)) rfl rfl ?_ | refine qv rfl (qfld FldC.fld rfl rfl) rfl rfl ?_ | refine qv rfl (rr_nilc rfl) rfl rfl ?_ | refine qv rfl (rr_eql rfl rfl (qT (by omega))) rfl rfl ?_ | refine qv rfl (rr_eql rfl rfl (qF (by omega))) rfl rfl ?_ | refine qv rfl (rr_neq rfl rfl (qT (by omega))) rfl rfl ?_ | refine qv rfl (rr_neq rfl rfl (qF (by omega))) rfl rfl ?_ | refine qv rfl (qlen Und.eq rfl) rfl rfl ?_ | refine qv rfl (rr_gtr rfl rfl (qT (by omega))) rfl rfl ?_ | refine qv rfl (rr_gtr rfl rfl (qF (by omega))) rfl rfl ?_))
    refine TL_storeB (i := 2) (cs' := #[.slice none 0 0, .int .i64 (seen : Int), .int .i64 14, .bool false]) rfl rfl rfl rfl rfl rfl ?_
    conv => arg 8; simp only [zA, zB, zC, zD, zE, zF, zG, zH, zI, rowS, ret, id_eq]
    repeat (first
      | refine qv rfl (qp rfl) rfl rfl ?_ | refine TL_nil ?_ | refine T_seq ?_ | refine T_region ?_ | refine qcT rfl ?_ | refine qcF rfl ?_ | refine T_skip ?_
      | refine T_ret ?_ | refine E_then ?_ | refine E_thenR ?_ | refine qs rfl rfl rfl rfl rfl rfl ?_
      | ((try refine qg rfl rfl rfl ?_); first | refine qv rfl (qp rfl) rfl rfl ?_ | refine qv rfl (qfld FldC.fld rfl rfl) rfl rfl ?_ | refine qv rfl (rr_nilc rfl) rfl rfl ?_ | refine qv rfl (rr_eql rfl rfl (qT (by omega))) rfl rfl ?_ | refine qv rfl (rr_eql rfl rfl (qF (by omega))) rfl rfl ?_ | refine qv rfl (rr_neq rfl rfl (qT (by omega))) rfl rfl ?_ | refine qv rfl (rr_neq rfl rfl (qF (by omega))) rfl rfl ?_ | refine qv rfl (qlen Und.eq rfl) rfl rfl ?_ | refine qv rfl (rr_gtr rfl rfl (qT (by omega))) rfl rfl ?_ | refine qv rfl (rr_gtr rfl rfl (qF (by omega))) rfl rfl ?_))
    exact E_retc3 (i := 2) rfl rfl rfl rfl rfl rfl fun w hm => hm.meets (S := endS (seen : Int) (14, [])) (.slice none 0 0) trivial [] (by decide) rfl
end Go.Proofs.Ytkkiopmdcolobaa.eng

/- Opens -/
namespace Go.Proofs.Ytkkiopmdcolobaa.derL
open gramL treeL countL factsL
def partO (o : Sym → Nat → Nat → Nat) (x : Sym) (frm : Nat) (A : Nat → Bool) : Nat → Nat → Bool
  | 0, _ => false
  | k + 1, b => partO o x frm A k b || (A (frm + k) && decide (frm + k ≤ b) && decide (0 < o x (frm + k) b))
def anyO (p : Nat → Bool) (frm : Nat) : Nat → Bool
  | 0 => false
  | k + 1 => anyO p frm k || p (frm + k)
def opGo (o : Sym → Nat → Nat → Nat) (O : Nat → Nat → Bool) (n frm : Nat) : List Sym → (Nat → Bool) → Bool
  | [], A => A n
  | x :: r, A => if A n = true then true else if x.1 = 2 ∧ anyO (fun a => A a && O x.2.toNat a) frm (n + 1 - frm) = true then true else opGo o O n frm r (partO o x frm A (n + 1 - frm))
def opensF (o : Sym → Nat → Nat → Nat) (O : Nat → Nat → Bool) (M : List Bool) (n frm : Nat) (l : List Sym) : Bool := if allF M l true = true then opGo o O n frm l (fun b => decide (b = frm)) else false
def mixO (o : Sym → Nat → Nat → Nat) (x : Sym) (frm : Nat) (A : Nat → Bool) (k j b : Nat) : Bool := if b < j then partO o x frm A (k + 1) b else partO o x frm A k b
section
variable {o : Sym → Nat → Nat → Nat} {x : Sym} {frm : Nat} {A : Nat → Bool}
theorem partO_none {k : Nat} (h : A (frm + k) = false) : partO o x frm A (k + 1) = partO o x frm A k := by
  funext b; rw [partO, h]; simp
theorem mixO_0 (k : Nat) : mixO o x frm A k (frm + k) = partO o x frm A k := by
  funext b
  unfold mixO
  split
  · rw [partO, decide_eq_false (by omega : ¬ frm + k ≤ b)]; simp
  · rfl
theorem mixO_at (k j : Nat) : mixO o x frm A k j j = partO o x frm A k j := by simp [mixO]
theorem mixO_step {k j : Nat} (h : A (frm + k) = true) (hj : frm + k ≤ j) (b : Nat) : mixO o x frm A k (j + 1) b = if b = j then (partO o x frm A k j || decide (0 < o x (frm + k) j)) else mixO o x frm A k j b := by
  unfold mixO
  by_cases c : b = j
  · subst c; rw [if_pos (by omega), if_pos rfl, partO, h, decide_eq_true hj]; simp
  · rw [if_neg c]
    by_cases c2 : b < j
    · rw [if_pos (by omega), if_pos c2]
    · rw [if_neg (by omega), if_neg c2]
theorem mixO_end {k j b : Nat} (h : b < j) : mixO o x frm A k j b = partO o x frm A (k + 1) b := by unfold mixO; rw [if_pos h]
theorem partO_iff {b : Nat} : ∀ {k : Nat}, partO o x frm A k b = true ↔ ∃ i, i < k ∧ A (frm + i) = true ∧ frm + i ≤ b ∧ 0 < o x (frm + i) b
  | 0 => by simp [partO]
  | k + 1 => by
    rw [partO, Bool.or_eq_true, partO_iff, Bool.and_eq_true, Bool.and_eq_true, decide_eq_true_iff, decide_eq_true_iff]
    constructor
    · rintro (⟨i, h1, h2⟩ | ⟨⟨h1, h2⟩, h3⟩)
      · exact ⟨i, by omega, h2⟩
      · exact ⟨k, by omega, h1, h2, h3⟩
    · rintro ⟨i, h1, h2, h3, h4⟩
      by_cases e : i = k
      · subst e; exact .inr ⟨⟨h2, h3⟩, h4⟩
      · exact .inl ⟨i, by omega, h2, h3, h4⟩
theorem anyO_iff {p : Nat → Bool} : ∀ {k : Nat}, anyO p frm k = true ↔ ∃ i, i < k ∧ p (frm + i) = true
  | 0 => by simp [anyO]
  | k + 1 => by
    rw [anyO, Bool.or_eq_true, anyO_iff]
    constructor
    · rintro (⟨i, h1, h2⟩ | h1)
      · exact ⟨i, by omega, h2⟩
      · exact ⟨k, by omega, h1⟩
    · rintro ⟨i, h1, h2⟩
      by_cases e : i = k
      · subst e; exact .inr h2
      · exact .inl ⟨i, by omega, h2⟩
end
section
variable {w : List Int} {l : List gramL.Prod} {n : Nat} {c : Chart} {O : Nat → Nat → Bool}
theorem made_all : ∀ (b : List Sym), (∀ x ∈ b, ∃ ws, Der l x ws) → ∃ ws, Ders l b ws
  | [], _ => ⟨[], .nil⟩
  | x :: r, h => by
    obtain ⟨u, h1⟩ := h x (by simp)
    obtain ⟨s, h2⟩ := made_all r fun y hy => h y (by simp [hy])
    exact ⟨u ++ s, .cons h1 h2⟩
theorem cut_drop {a b : Nat} (h : a ≤ b) : cut w a b ++ w.drop b = w.drop a := by
  unfold cut
  have e3 : w.drop b = (w.drop a).drop (b - a) := by rw [List.drop_drop, show a + (b - a) = b by omega]
  rw [e3, List.take_append_drop]
theorem opGo_sound (hc : Lfp w l n c) (hs : SymsOk n l) (hO : ∀ (k : Nat) a, O k a = true → a ≤ w.length → ∃ v, Der l (2, (k : Int)) (w.drop a ++ v)) {frm : Nat} (hf : frm ≤ w.length) : ∀ (body : List Sym) (A : Nat → Bool) (pre : List Sym), (∀ x ∈ body, (x.1 = 1 ∨ (x.1 = 2 ∧ 0 ≤ x.2 ∧ x.2 < (n : Int))) ∧ ∃ ws, Der l x ws) → (∀ b, frm ≤ b → b ≤ w.length → A b = true → Ders l pre (cut w frm b)) → opGo (oneF c w) O w.length frm body A = true → ∃ v, Ders l (pre ++ body) (w.drop frm ++ v)
  | [], A, pre, _, hA, h => by
    have := hA w.length hf (Nat.le_refl _) h
    rw [cut_end rfl] at this
    exact ⟨[], by rw [List.append_nil, List.append_nil]; exact this⟩
  | x :: r, A, pre, hx, hA, h => by
    rw [opGo] at h
    split at h
    · rename_i h1
      have h2 := hA w.length hf (Nat.le_refl _) h1
      rw [cut_end rfl] at h2
      obtain ⟨ws, h3⟩ := made_all (x :: r) fun y hy => (hx y hy).2
      exact ⟨ws, h2.app h3⟩
    · split at h
      · rename_i h1
        obtain ⟨h1, h2⟩ := h1
        obtain ⟨i, h3, h4⟩ := anyO_iff.1 h2
        rw [Bool.and_eq_true] at h4
        have hk := ((hx x (by simp)).1.resolve_left (by omega)).2
        obtain ⟨v, h5⟩ := hO _ _ h4.2 (by omega)
        obtain ⟨x1, x2⟩ := x
        dsimp only at h1 hk h5
        subst h1
        rw [Int.toNat_of_nonneg hk.1] at h5
        obtain ⟨ws, h6⟩ := made_all r fun y hy => (hx y (by simp [hy])).2
        refine ⟨v ++ ws, ?_⟩
        have h7 := (hA (frm + i) (by omega) (by omega) h4.1).app (Ders.cons h5 h6)
        rw [List.append_assoc (w.drop (frm + i)), ← List.append_assoc (cut w frm (frm + i)), cut_drop (by omega)] at h7
        exact h7
      · obtain ⟨v, h1⟩ := opGo_sound hc hs hO hf r _ (pre ++ [x]) (fun y hy => hx y (by simp [hy])) (fun b hb1 hb2 hb => by
          obtain ⟨i, h3, h4, h5, h6⟩ := partO_iff.1 hb
          rw [← cut_app (by omega : frm ≤ frm + i) h5]
          exact (hA _ (by omega) (by omega) h4).app (ders_one (der_of_one hc hs (hx x (by simp)).1 h5 hb2 h6))) h
        exact ⟨v, by rw [List.append_assoc] at h1; exact h1⟩
theorem opensF_sound {M : List Bool} (hM : ∀ i : Nat, M.getD i false = true → ∃ ws, Der l (2, (i : Int)) ws) (hc : Lfp w l n c) (hs : SymsOk n l) (hO : ∀ (k : Nat) a, O k a = true → a ≤ w.length → ∃ v, Der l (2, (k : Int)) (w.drop a ++ v)) {frm : Nat} (hf : frm ≤ w.length) {body : List Sym} (hx : ∀ x ∈ body, x.1 = 1 ∨ (x.1 = 2 ∧ 0 ≤ x.2 ∧ x.2 < (n : Int))) (h : opensF (oneF c w) O M w.length frm body = true) : ∃ v, Ders l body (w.drop frm ++ v) := by
  unfold opensF at h
  split at h
  · rename_i hm
    refine opGo_sound hc hs hO hf body _ [] (fun x hb => ⟨hx x hb, ?_⟩) (fun b _ _ hb => ?_) h
    · unfold allF at hm
      have := List.all_eq_true.1 hm x hb
      rcases hx x hb with c1 | ⟨c1, c2, _⟩
      · exact ⟨_, .term c1⟩
      · rw [if_neg (by omega), if_pos c1] at this
        obtain ⟨ws, hw⟩ := hM _ this
        obtain ⟨x1, x2⟩ := x
        dsimp only at c1 c2 hw
        subst c1
        rw [Int.toNat_of_nonneg c2] at hw
        exact ⟨ws, hw⟩
    · have : b = frm := by simpa using hb
      subst this
      rw [cut_self]; exact .nil
  · cases h
mutual
theorem open_of_der {M : List Bool} {E R : List Bool} {F W : List Nat} (hC : ClosedF l E F W R M) (hc : Lfp w l n c) (hs : SymsOk n l) (hcl : ∀ p ∈ l, ∀ a, a ≤ w.length → opensF (oneF c w) O M w.length a p.2 = true → O p.1.toNat a = true) : ∀ {x : Sym} {ws : List Int}, Der l x ws → x.1 ≠ 1 → ∀ {a : Nat} {v : List Int}, a ≤ w.length → ws = w.drop a ++ v → O x.2.toNat a = true
  | _, _, .term h, h0, _, _, _, _ => absurd h h0
  | x, ws, .non (p := p) h1 hp hx hd, _, a, v, ha, hw => by
    rw [← hx]
    refine hcl p hp a ha ?_
    unfold opensF
    rw [if_pos (makes_ders hC hd)]
    exact go_of_ders hC hc hs hcl hd (fun y hy => ((hs p hp).2.2 y hy).imp id fun h => h.1) (Nat.le_refl _) ha (by simp) hw
theorem go_of_ders {M : List Bool} {E R : List Bool} {F W : List Nat} (hC : ClosedF l E F W R M) (hc : Lfp w l n c) (hs : SymsOk n l) (hcl : ∀ p ∈ l, ∀ a, a ≤ w.length → opensF (oneF c w) O M w.length a p.2 = true → O p.1.toNat a = true) : ∀ {b : List Sym} {ws : List Int}, Ders l b ws → (∀ y ∈ b, y.1 = 1 ∨ y.1 = 2) → ∀ {frm a : Nat} {v : List Int} {A : Nat → Bool}, frm ≤ a → a ≤ w.length → A a = true → ws = w.drop a ++ v → opGo (oneF c w) O w.length frm b A = true
  | [], _, .nil, _, frm, a, v, A, h1, h2, h3, h4 => by
    have := congrArg List.length h4
    rw [List.length_append, List.length_drop, List.length_nil] at this
    obtain rfl : a = w.length := by omega
    exact h3
  | y :: b, _, .cons (a := u) (b := s) k1 k2, hy, frm, a, v, A, h1, h2, h3, h4 => by
    rw [opGo]
    by_cases c1 : A w.length = true
    · rw [if_pos c1]
    · rw [if_neg c1]
      by_cases c2 : y.1 = 2 ∧ anyO (fun a => A a && O y.2.toNat a) frm (w.length + 1 - frm) = true
      · rw [if_pos c2]
      · rw [if_neg c2]
        by_cases c3 : u.length ≤ w.length - a
        · have e1 : w.drop a = u ++ (w.drop a).drop u.length := by
            have h5 : (w.drop a).take u.length = u := by
              have := congrArg (List.take u.length) h4
              rw [List.take_left, List.take_append_of_le_length (by rw [List.length_drop]; exact c3)] at this
              exact this.symm
            conv => lhs; rw [← List.take_append_drop u.length (w.drop a), h5]
          have e2 : s = w.drop (a + u.length) ++ v := by
            rw [e1, List.append_assoc] at h4
            rw [← List.drop_drop]
            exact List.append_cancel_left h4
          have h6 := one_of_der hc hs k1 (hy y (by simp)) h2 ⟨_, e1⟩
          refine go_of_ders hC hc hs hcl k2 (fun z hz => hy z (by simp [hz])) (by omega : frm ≤ a + u.length) (by omega) (partO_iff.2 ⟨a - frm, by omega, ?_, ?_, ?_⟩) e2
          · rw [show frm + (a - frm) = a by omega]; exact h3
          · omega
          · rw [show frm + (a - frm) = a by omega]; exact h6
        · exfalso
          by_cases c4 : y.1 = 1
          · have hu := der_term k1 c4
            have : u.length = 1 := by rw [hu]; rfl
            have : a = w.length := by omega
            subst this
            exact c1 h3
          · have e1 : u = w.drop a ++ u.drop (w.length - a) := by
              have h5 : u.take (w.length - a) = w.drop a := by
                have := congrArg (List.take (w.length - a)) h4
                rw [List.take_append_of_le_length (by omega), List.take_left' (by rw [List.length_drop])] at this
                exact this
              conv => lhs; rw [← List.take_append_drop (w.length - a) u, h5]
            have h5 := open_of_der hC hc hs hcl k1 c4 h2 e1
            refine c2 ⟨(hy y (by simp)).resolve_left c4, anyO_iff.2 ⟨a - frm, by omega, ?_⟩⟩
            rw [show frm + (a - frm) = a by omega, h3, h5]; rfl
end
end
end Go.Proofs.Ytkkiopmdcolobaa.derL

/- BeginL -/
namespace Go.Proofs.Ytkkiopmdcolobaa.derL
open gramL treeL countL factsL eng
def setB (O : Nat → Nat → Bool) (h a : Nat) : Nat → Nat → Bool := fun i j => if i = h ∧ j = a then true else O i j
def fal (N m : Nat) (O : Nat → Nat → Bool) : Nat := sumN (fun i => sumN (fun j => if O i j = true then 0 else 1) m) N
def SoundO (l : List gramL.Prod) (w : List Int) (O : Nat → Nat → Bool) : Prop := ∀ (k : Nat) a, O k a = true → a ≤ w.length → ∃ v, Der l (2, (k : Int)) (w.drop a ++ v)
theorem sumN_lt {f f' : Nat → Nat} : ∀ {k i : Nat}, i < k → (∀ j, j < k → f j ≤ f' j) → f i < f' i → sumN f k < sumN f' k
  | k + 1, i, hi, h, hl => by
    rw [sumN, sumN]
    by_cases e : i = k
    · subst e
      have := sumN_mono (f := f) (f' := f') i fun j hj => h j (by omega)
      omega
    · have := sumN_lt (f := f) (f' := f') (k := k) (i := i) (by omega) (fun j hj => h j (by omega)) hl
      have := h k (by omega)
      omega
theorem fal_set {N m h a : Nat} {O : Nat → Nat → Bool} (hh : h < N) (ha : a < m) (ho : O h a = false) : fal N m (setB O h a) < fal N m O := by
  have hle : ∀ i j, (if setB O h a i j = true then 0 else 1) ≤ (if O i j = true then 0 else 1) := fun i j => by
    unfold setB
    by_cases e : i = h ∧ j = a
    · rw [if_pos e, if_pos rfl]; exact Nat.zero_le _
    · rw [if_neg e]; exact Nat.le_refl _
  unfold fal
  refine sumN_lt hh (fun i _ => sumN_mono m fun j _ => hle i j) (sumN_lt ha (fun j _ => hle h j) ?_)
  have e1 : setB O h a h a = true := by unfold setB; rw [if_pos ⟨rfl, rfl⟩]
  rw [e1, ho]; decide
/-- the pass: what it has come to -/
structure PassO (l : List gramL.Prod) (w : List Int) (o : Sym → Nat → Nat → Nat) (M : List Bool) (N : Nat) (O O' : Nat → Nat → Bool) (more : Bool) (i a : Nat) : Prop where
  sound : SoundO l w O'
  less : more = true → fal N (w.length + 1) O' < fal N (w.length + 1) O
  still : more = false → O' = O ∧ ∀ q a', (q < i ∨ (q = i ∧ a' < a)) → ∀ h : q < l.length, a' ≤ w.length → opensF o O M w.length a' l[q].2 = true → O l[q].1.toNat a' = true
section
variable {l : List gramL.Prod} {w : List Int} {n : Nat} {c : Chart} {M : List Bool} {O O' : Nat → Nat → Bool} {more : Bool} {i a : Nat}
theorem PassO.start (h : SoundO l w O) (o : Sym → Nat → Nat → Nat) (N : Nat) : PassO l w o M N O O false 0 0 := ⟨h, fun h => by (cases h), fun _ => ⟨rfl, fun q a' h => by omega⟩⟩
theorem PassO.next {o : Sym → Nat → Nat → Nat} {N : Nat} (h : PassO l w o M N O O' more i (w.length + 1)) : PassO l w o M N O O' more (i + 1) 0 := ⟨h.sound, h.less, fun e => ⟨(h.still e).1, fun q a' h1 h2 h3 => (h.still e).2 q a' (by omega) h2 h3⟩⟩
theorem PassO.skip {o : Sym → Nat → Nat → Nat} {N : Nat} (h : PassO l w o M N O O' more i a) (hi : i < l.length) (hn : O' l[i].1.toNat a = true ∨ opensF o O' M w.length a l[i].2 = false) : PassO l w o M N O O' more i (a + 1) := ⟨h.sound, h.less, fun e => by
  obtain ⟨rfl, h2⟩ := h.still e
  refine ⟨rfl, fun q a' h1 h3 h4 h5 => ?_⟩
  by_cases e2 : q = i ∧ a' = a
  · obtain ⟨rfl, rfl⟩ := e2
    rcases hn with hn | hn
    · exact hn
    · rw [hn] at h5; cases h5
  · exact h2 q a' (by omega) h3 h4 h5⟩
theorem PassO.set (hM : ∀ i : Nat, M.getD i false = true → ∃ ws, Der l (2, (i : Int)) ws) (hc : Lfp w l n c) (hs : SymsOk n l) {N : Nat} (h : PassO l w (oneF c w) M N O O' more i a) (hi : i < l.length) (ha : a ≤ w.length) (hN : l[i].1.toNat < N) (h0 : O' l[i].1.toNat a = false) (h1 : opensF (oneF c w) O' M w.length a l[i].2 = true) : PassO l w (oneF c w) M N O (setB O' l[i].1.toNat a) true i (a + 1) := by
  obtain ⟨s1, s2, s3⟩ := hs _ (List.getElem_mem hi)
  refine ⟨fun k b hk hb => ?_, fun _ => ?_, fun e => by cases e⟩
  · unfold setB at hk
    by_cases e : k = l[i].1.toNat ∧ b = a
    · obtain ⟨rfl, rfl⟩ := e
      obtain ⟨v, hv⟩ := opensF_sound hM hc hs h.sound ha (fun x hx => (s3 x hx)) h1
      exact ⟨v, .non (by show (2 : Int) ≠ 1; decide) (List.getElem_mem hi) (by show l[i].1 = ((l[i].1.toNat : Nat) : Int); omega) hv⟩
    · rw [if_neg e] at hk
      exact h.sound k b hk hb
  · have := fal_set (N := N) (m := w.length + 1) hN (by omega : a < w.length + 1) h0
    cases hm : more
    · obtain ⟨rfl, _⟩ := h.still hm
      exact this
    · have := h.less hm; omega
end
open Classical in
noncomputable def beginsB (g : Gram) (w : List Int) : Bool := decide (checkC g w = 0 ∧ ∃ v, Der g.prods (2, 0) (w ++ v))
open Classical in
theorem begins_iff {g : Gram} {w : List Int} : beginsB g w = true ↔ checkC g w = 0 ∧ ∃ v, Der g.prods (2, 0) (w ++ v) := by
  unfold beginsB
  rw [decide_eq_true_iff]
theorem fallsQ {n : Nat} {l : List gramL.Prod} (hf : Fine n l) (hs : SymsOk n l) : Falls (stepS l) (fun s => okR n s ∧ SoundS l s) (lackS n) :=
  ⟨fun s hs' => ⟨(fallsS hf).keep s hs'.1, roundL_sound hs l (fun _ h => h) _ hs'.2⟩, fun s hs' => (fallsS hf).dec s hs'.1⟩
theorem sound_of {g : Gram} {n : Nat} (hck : checkG g = 0) (hn : g.nons = n) : okR n (ofS n g.prods) ∧ SoundS g.prods (ofS n g.prods) := by
  have hf := fine_of hck hn
  have hs := symsOk_of hck hn
  have hz : ∀ i : Nat, (List.replicate n false).getD i false = false := fun i => by
    rw [List.getD_eq_getElem?_getD, List.getElem?_replicate]; split <;> rfl
  have h0 : SoundS g.prods ⟨List.replicate n false, (List.replicate n false).set 0 true, List.replicate n false, false⟩ :=
    ⟨fun i h => (by have h : (List.replicate n false).getD i false = true := h; rw [hz i] at h; cases h), fun i h => (by have h : (List.replicate n false).getD i false = true := h; rw [hz i] at h; cases h)⟩
  obtain ⟨s', h1, h2, h3⟩ := fix_end (fallsQ hf hs) _ ⟨List.replicate n false, (List.replicate n false).set 0 true, List.replicate n false, false⟩ ⟨⟨by simp, by simp, by simp⟩, h0⟩ (Nat.le_refl _)
  have e : ofS n g.prods = roundL g.prods ⟨s'.E, s'.R, s'.M, false⟩ := h3
  rw [e]
  exact (fallsQ hf hs).keep s' h1
/-- what the table tells at the top -/
theorem begins_of {g : Gram} {w : List Int} {n : Nat} {c : Chart} (hck : checkC g w = 0) (hn : g.nons = n) (hc : Lfp w g.prods n c) {O O' : Nat → Nat → Bool} {k : Nat} (h : PassO g.prods w (oneF c w) (ofS n g.prods).M k O O' false g.prods.length 0) : O' 0 0 = beginsB g w := by
  obtain ⟨hg, _, _⟩ := checkC_ok hck
  have hs := symsOk_of hg hn
  have hC := closed_of hg hn
  obtain ⟨rfl, hst⟩ := h.still rfl
  have e : O' 0 0 = true ↔ beginsB g w = true := by
    rw [begins_iff]
    constructor
    · intro h1
      obtain ⟨v, hv⟩ := h.sound 0 0 h1 (Nat.zero_le _)
      exact ⟨hck, v, hv⟩
    · rintro ⟨_, v, hv⟩
      have := open_of_der hC hc hs (O := O') (fun p hp a ha hop => by
        obtain ⟨q, hq, rfl⟩ := List.mem_iff_getElem.1 hp
        exact hst q a (.inl hq) hq ha hop) hv (by show (2 : Int) ≠ 1; decide) (a := 0) (v := v) (Nat.zero_le _) rfl
      exact this
  cases h1 : O' 0 0 <;> cases h2 : beginsB g w <;> simp_all
end Go.Proofs.Ytkkiopmdcolobaa.derL

/- BeginW -/
namespace Go.Proofs.Ytkkiopmdcolobaa.derL
open gramL treeL countL factsL eng
theorem checkW_take {t : Int} : ∀ {w : List Int} (k : Nat), checkW t w = 0 → checkW t (w.take k) = 0
  | [], k, _ => by simp [checkW]
  | x :: r, 0, _ => by simp [checkW]
  | x :: r, k + 1, h => by
    rw [checkW] at h
    rw [List.take_succ_cons, checkW]
    split at h; · cases h
    split at h; · cases h
    rw [if_neg (by assumption), if_neg (by assumption)]
    exact checkW_take k h
theorem checkC_W {g : Gram} {w : List Int} (h : checkC g w = 0) : checkW g.terms w = 0 := by
  unfold checkC at h
  split at h; · contradiction
  split at h; · cases h
  exact h
theorem checkC_mk {g : Gram} {w : List Int} (h1 : checkG g = 0) (h2 : w.length ≤ 20) (h3 : checkW g.terms w = 0) : checkC g w = 0 := by
  unfold checkC
  rw [if_neg (by simpa using h1), if_neg (by omega), h3]
end Go.Proofs.Ytkkiopmdcolobaa.derL


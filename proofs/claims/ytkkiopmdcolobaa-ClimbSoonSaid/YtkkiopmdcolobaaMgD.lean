/- Part 4 of what ClimbSoon needs: FactsD, FactsO, FactsT, Look, GramM, FactsE, FactsF, Fam, CountA, CountB, CountC, CountD. -/
import Derived.Test.YtkkiopmdcolobaaMgC
import Derived.WalkKit
import Derived.WalkSpells
import Derived.WalkLawsBesides
import Derived.Deep.RegionLaw
import Derived.Deep.AppendLies
import Derived.Deep.QuietTactic
import Derived.BigQuiet
import Derived.Deep.DeepCutAuto
import Derived.Lib.Hide
import Derived.Test.YtkkiopmdcolobaaRows
import Derived.ProofKit
import Derived.OpenShut
import Derived.ShutString
import Derived.SizedLaws
import Derived.JoinedCond
import Derived.Deep.CondSized
import Derived.Deep.Quiet
import Derived.StillTail
import Derived.Deep.LoopGhost
import Derived.Laws.BitsLemmas
import Derived.Laws.BytesString
import Derived.Test.YtkkiopmdcolobaaProg
import Derived.Laws.StructEq
import Derived.Laws.MakeOwn
import Derived.Laws.AppendOwn
import Derived.Laws.Entries
import Derived.Maps.OwnSet
import Derived.DeepKeys4
import Derived.WideKeyEntry
/- FactsD -/
namespace Go.Proofs.Ytkkiopmdcolobaa.eng
open Go.RowKit kit mix gramL factsL
def rowNn (n g c : Nat) (l : List Nat) : Own := rowO 81 1 (.slice (some ⟨g, 0, none⟩) n c) n (l.map bitV)
theorem add2_calls (n g cap : Nat) (l : List Nat) (i b : Nat) (w : World) (B : Base) (hl : okW n l) (hi : i < n) (hb : b < 18446744073709551616) (hm : Mem B [rowNn n g cap l] w) :
    Calls Try.prog 64 #[.slice (some ⟨g, 0, none⟩) n cap, .int .i64 (i : Int), bitV b] w (MeetsB ⟨fun (_ : Unit) => True, fun _ => .bool (addF l i b).2, fun _ => [rowNn n g cap (addF l i b).1]⟩ B) := by
  obtain ⟨rfl, h64⟩ := hl
  exact add_calls g cap l i b w B hi h64 hb hm
structure Rows4 where
  gE : Nat
  cE : Nat
  gF : Nat
  cF : Nat
  gW : Nat
  cW : Nat
  gM : Nat
  cM : Nat
theorem passF_cons (E M : List Bool) (p : gramL.Prod) (r : List gramL.Prod) (F : List Nat) (more : Bool) : passF E M (p :: r) F more = passF E M r (stepF E M p F more).1 (stepF E M p F more).2 := rfl
theorem passW_cons (E : List Bool) (F : List Nat) (p : gramL.Prod) (r : List gramL.Prod) (W : List Nat) (more : Bool) : passW E F (p :: r) W more = passW E F r (passWb E F p.1.toNat p.2 W more).1 (passWb E F p.1.toNat p.2 W more).2 := rfl
theorem passWb_cons (E : List Bool) (F : List Nat) (h : Nat) (x : Sym) (r : List Sym) (W : List Nat) (more : Bool) : passWb E F h (x :: r) W more = passWb E F h r (stepW E F h x r W more).1 (stepW E F h x r W more).2 := rfl
def setsF (E M : List Bool) (l : List gramL.Prod) (F : List Nat) : List Nat := factsL.fix (fun F => passF E M l F false) lack F
def setsW (E : List Bool) (F : List Nat) (l : List gramL.Prod) (W : List Nat) : List Nat := factsL.fix (fun W => passW E F l W false) lack W
set_option maxHeartbeats 8000000 in
theorem sets_calls (w0 : World) (v : Value) (g : Gram) (h : GraR (fun k => k < w0.heap.size) w0 v g) (hck : checkG g = 0) (n : Nat) (hn : g.nons = n) (x : Rows4) (vR : Value) (E : List Bool) (F W : List Nat) (M : List Bool) (hE : E.length = n) (hF : okW n F) (hW : okW n W) (hM : M.length = n) (w : World) (B : Base) (ho : Old w0 B) (hm : Mem B [rowBn n x.gE x.cE E, rowNn n x.gF x.cF F, rowNn n x.gW x.cW W, rowBn n x.gM x.cM M] w) :
    Calls Try.prog 38 #[v, facV (vRow n x.gE x.cE) (vRow n x.gF x.cF) (vRow n x.gW x.cW) vR (vRow n x.gM x.cM)] w (MeetsB ⟨fun (_ : Unit) => True, fun _ => .tuple #[], fun _ => [rowBn n x.gE x.cE E, rowNn n x.gF x.cF (setsF E M g.prods F), rowNn n x.gW x.cW (setsW E (setsF E M g.prods F) g.prods W), rowBn n x.gM x.cM M]⟩ B) := by
  obtain ⟨gE, cE, gF, cF, gW, cW, gM, cM⟩ := x
  dsimp only at *
  have hfine := fine_of hck hn
  obtain ⟨_, _, _, _, hlen, _⟩ := checkG_ok hck
  obtain ⟨vp, rfl, h1, _⟩ := h
  obtain ⟨bp, cp, rfl, hcp, hmp, hrp⟩ := h1
  unfold maxLen at hmp
  obtain ⟨t, nn, prods⟩ := g
  dsimp only at *
  subst hn
  have hfalls := fallsF (E := E) (M := M) hfine
  refine enterB hm (args := [graV t (n : Int) (.slice bp prods.length cp), facV (vRow n gE cE) (vRow n gF cF) (vRow n gW cW) vR (vRow n gM cM)]) (n := 80) Try.func38 rfl rfl rfl ?_
  refine T_seq (T_region (TL_box rfl rfl rfl fun g2 => TL_box rfl rfl rfl fun g3 => ?_))
  conv => arg 8; simp only [zA, zB, zC, zD, zE, zF, zG, zH, zI, rowS, ret, id_eq]
  repeat (first
    | refine qv rfl (qp rfl) rfl rfl ?_ | refine TL_nil ?_ | refine T_seq ?_ | refine T_region ?_ | refine qcT rfl ?_ | refine qcF rfl ?_ | refine T_skip ?_
    | refine T_exit ?_ | refine T_block ?_ | refine E_then ?_ | refine E_thenX ?_ | refine E_thenR ?_ | refine E_blockN ?_ | refine E_blockR ?_
    | refine E_blockX ?_ | refine E_blockO rfl ?_ | refine qs rfl rfl rfl rfl rfl rfl ?_
    | ((try refine qg rfl rfl rfl ?_); first | refine qv rfl (qp rfl) rfl rfl ?_ | refine qv rfl (qlen Und.eq rfl) rfl rfl ?_ | refine qv rfl (qfld FldC.fld rfl rfl) rfl rfl ?_ | refine qv rfl (rr_lss rfl rfl (qT (by omega))) rfl rfl ?_ | refine qv rfl (rr_lss rfl rfl (qF (by omega))) rfl rfl ?_ | refine qv rfl (rr_eql rfl rfl (qT (by omega))) rfl rfl ?_ | refine qv rfl (rr_eql rfl rfl (qF (by omega))) rfl rfl ?_ | refine qv rfl (rr_add64 rfl rfl (by omega) (by omega) rfl) rfl rfl ?_))
  generalize hfin : setsF E M prods F = fin
  refine T_loop (ι := List Nat × Bool) (fun (F, more) => okW n F ∧ (more = true → setsF E M prods F = fin) ∧ (more = false → F = fin)) (fun (_, more) => [(2, .pointer (some ⟨g2, 0, none⟩)), (3, .pointer (some ⟨g3, 0, none⟩)), (4, .bool more)])
    (fun (F, _) => [rowBn n gE cE E, rowNn n gF cF F, rowNn n gW cW W, rowBn n gM cM M, blkO g2 (graV t (n : Int) (.slice bp prods.length cp)).cells 24, blkO g3 (facV (vRow n gE cE) (vRow n gF cF) (vRow n gW cW) vR (vRow n gM cM)).cells 67]) (fun (F, more) => 2 * lack F + (if more = true then 1 else 0)) (F, true) ⟨hF, fun _ => hfin, fun h => by cases h⟩ (by repeat' (first | exact True.intro | refine And.intro rfl ?_)) rfl ?_
  clear hm hF hfin
  rintro ⟨F, more⟩ ⟨i1, i2, i3⟩
  dsimp only at i1 i2 i3 ⊢
  cases more
  · have i3 := i3 rfl
    subst i3
    clear i2 hfalls
    have hfalls := fallsW (E := E) i1 hfine
    repeat (first
      | refine qv rfl (qp rfl) rfl rfl ?_ | refine TL_nil ?_ | refine T_seq ?_ | refine T_region ?_ | refine qcT rfl ?_ | refine qcF rfl ?_ | refine T_skip ?_
      | refine T_exit ?_ | refine T_block ?_ | refine E_then ?_ | refine E_thenX ?_ | refine E_thenR ?_ | refine E_blockN ?_ | refine E_blockR ?_
      | refine E_blockX ?_ | refine E_blockO rfl ?_ | refine qs rfl rfl rfl rfl rfl rfl ?_
      | ((try refine qg rfl rfl rfl ?_); first | refine qv rfl (qp rfl) rfl rfl ?_ | refine qv rfl (qlen Und.eq rfl) rfl rfl ?_ | refine qv rfl (qfld FldC.fld rfl rfl) rfl rfl ?_ | refine qv rfl (rr_lss rfl rfl (qT (by omega))) rfl rfl ?_ | refine qv rfl (rr_lss rfl rfl (qF (by omega))) rfl rfl ?_ | refine qv rfl (rr_eql rfl rfl (qT (by omega))) rfl rfl ?_ | refine qv rfl (rr_eql rfl rfl (qF (by omega))) rfl rfl ?_ | refine qv rfl (rr_add64 rfl rfl (by omega) (by omega) rfl) rfl rfl ?_))
    generalize hfin : setsW E F prods W = fin
    refine T_loop (ι := List Nat × Bool) (fun (W, more) => okW n W ∧ (more = true → setsW E F prods W = fin) ∧ (more = false → W = fin)) (fun (_, more) => [(2, .pointer (some ⟨g2, 0, none⟩)), (3, .pointer (some ⟨g3, 0, none⟩)), (7, .bool more)])
      (fun (W, _) => [rowBn n gE cE E, rowNn n gF cF F, rowNn n gW cW W, rowBn n gM cM M, blkO g2 (graV t (n : Int) (.slice bp prods.length cp)).cells 24, blkO g3 (facV (vRow n gE cE) (vRow n gF cF) (vRow n gW cW) vR (vRow n gM cM)).cells 67]) (fun (W, more) => 2 * lack W + (if more = true then 1 else 0)) (W, true) ⟨hW, fun _ => hfin, fun h => by cases h⟩ (by repeat' (first | exact True.intro | refine And.intro rfl ?_)) rfl ?_
    clear hfin hW
    clear W
    rintro ⟨W, more⟩ ⟨j1, j2, j3⟩
    dsimp only at j1 j2 j3 ⊢
    cases more
    · have j3 := j3 rfl
      subst j3
      repeat (first
        | refine qv rfl (qp rfl) rfl rfl ?_ | refine TL_nil ?_ | refine T_seq ?_ | refine T_region ?_ | refine qcT rfl ?_ | refine qcF rfl ?_ | refine T_skip ?_
        | refine T_exit ?_ | refine T_block ?_ | refine E_then ?_ | refine E_thenX ?_ | refine E_thenR ?_ | refine E_blockN ?_ | refine E_blockR ?_
        | refine E_blockX ?_ | refine E_blockO rfl ?_ | refine qs rfl rfl rfl rfl rfl rfl ?_
        | ((try refine qg rfl rfl rfl ?_); first | refine qv rfl (qp rfl) rfl rfl ?_ | refine qv rfl (qlen Und.eq rfl) rfl rfl ?_ | refine qv rfl (qfld FldC.fld rfl rfl) rfl rfl ?_ | refine qv rfl (rr_lss rfl rfl (qT (by omega))) rfl rfl ?_ | refine qv rfl (rr_lss rfl rfl (qF (by omega))) rfl rfl ?_ | refine qv rfl (rr_eql rfl rfl (qT (by omega))) rfl rfl ?_ | refine qv rfl (rr_eql rfl rfl (qF (by omega))) rfl rfl ?_ | refine qv rfl (rr_add64 rfl rfl (by omega) (by omega) rfl) rfl rfl ?_))
      exact E_end0 rfl fun w hm => hm.meetsB (S := ⟨fun (_ : Unit) => True, fun _ => .tuple #[], fun _ => [rowBn n gE cE E, rowNn n gF cF F, rowNn n gW cW W, rowBn n gM cM M]⟩) () trivial [0, 1, 2, 3] (by decide) rfl
    · have j2 := j2 rfl
      clear j3
      have hdone : ∀ W' m', passW E F prods W false = (W', m') → okW n W' ∧ (m' = true → setsW E F prods W' = fin) ∧ (m' = false → W' = fin) ∧ 2 * lack W' + (if m' = true then 1 else 0) < 2 * lack W + 1 := fun W' m' hp => by
        have hk := passW_ok (E := E) i1 prods W false hfine j1
        rw [hp] at hk
        dsimp only at hk
        refine ⟨hk.1, fun c => ?_, fun c => ?_, ?_⟩
        · rw [← j2]
          unfold setsW
          rw [fix_go hfalls j1 (by rw [hp]; exact c), hp]
        · rw [← j2]
          unfold setsW
          rw [fix_stop (by rw [hp]; exact c), hp]
        · have h2 := hk.2.2
          cases m'
          · have := hk.2.1; simp; omega
          · rcases h2 rfl with h | h
            · cases h
            · simp; omega
      repeat (first
        | refine qv rfl (qp rfl) rfl rfl ?_ | refine TL_nil ?_ | refine T_seq ?_ | refine T_region ?_ | refine qcT rfl ?_ | refine qcF rfl ?_ | refine T_skip ?_
        | refine T_exit ?_ | refine T_block ?_ | refine E_then ?_ | refine E_thenX ?_ | refine E_thenR ?_ | refine E_blockN ?_ | refine E_blockR ?_
        | refine E_blockX ?_ | refine E_blockO rfl ?_ | refine qs rfl rfl rfl rfl rfl rfl ?_
        | ((try refine qg rfl rfl rfl ?_); first | refine qv rfl (qp rfl) rfl rfl ?_ | refine qv rfl (rr_load1 TyC.ty rfl (at_blk (i := 4) rfl rfl)) rfl rfl ?_ | refine qv rfl (qlen Und.eq rfl) rfl rfl ?_ | refine qv rfl (qfld FldC.fld rfl rfl) rfl rfl ?_ | refine qv rfl (rr_lss rfl rfl (qT (by omega))) rfl rfl ?_ | refine qv rfl (rr_lss rfl rfl (qF (by omega))) rfl rfl ?_ | refine qv rfl (rr_eql rfl rfl (qT (by omega))) rfl rfl ?_ | refine qv rfl (rr_eql rfl rfl (qF (by omega))) rfl rfl ?_ | refine qv rfl (rr_add64 rfl rfl (by omega) (by omega) rfl) rfl rfl ?_))
      generalize hfp : passW E F prods W false = fp at *
      obtain ⟨Wx, mx⟩ := fp
      have hdone := hdone Wx mx rfl
      refine T_loop (ι := Nat × List Nat × Bool) (fun (k, W, m) => k ≤ prods.length ∧ okW n W ∧ passW E F (prods.drop k) W m = (Wx, mx)) (fun (k, _, m) => [(2, .pointer (some ⟨g2, 0, none⟩)), (3, .pointer (some ⟨g3, 0, none⟩)), (7, .bool m), (40, .slice bp prods.length cp), (41, .int .i64 prods.length), (42, .int .i64 (k : Int))])
        (fun (_, W, _) => [rowBn n gE cE E, rowNn n gF cF F, rowNn n gW cW W, rowBn n gM cM M, blkO g2 (graV t (n : Int) (.slice bp prods.length cp)).cells 24, blkO g3 (facV (vRow n gE cE) (vRow n gF cF) (vRow n gW cW) vR (vRow n gM cM)).cells 67]) (fun (k, _, _) => prods.length - k) (0, W, false) ⟨Nat.zero_le _, j1, hfp⟩ (by repeat' (first | exact True.intro | refine And.intro rfl ?_)) rfl ?_
      clear hfp j2
      rintro ⟨k, W', m⟩ ⟨k1, k2, k3⟩
      dsimp only at k1 k2 k3 ⊢
      by_cases c6 : k < prods.length
      · obtain ⟨b, off, rfl, _, hr⟩ := hrp (by omega)
        obtain ⟨bb, cb, q1, q2, q3⟩ := prod_at hr c6
        have hp1 := hfine.head prods[k] (List.getElem_mem c6)
        have hp2 := hfine.term prods[k] (List.getElem_mem c6)
        have hp3 := hfine.non prods[k] (List.getElem_mem c6)
        rw [List.drop_eq_getElem_cons c6, passW_cons] at k3
        have hat : ∀ (L : List Own) (j : Nat) (v : Value), ([.int .i64 prods[k].1, .slice bb prods[k].2.length cb] : List Value)[j]? = some v → At B L ⟨b, off + k * 2 + j, none⟩ v := fun L j v hj => at_old0 ho (q1 j v hj)
        have hfl := q3.flat (by decide)
        clear hr hrp q1 q3
        generalize prods[k] = p at *
        obtain ⟨hd, body⟩ := p
        dsimp only at *
        obtain ⟨hn, rfl⟩ : ∃ hn : Nat, hd = hn := ⟨hd.toNat, by omega⟩
        rw [Int.toNat_natCast] at hp1 k3
        have hsb : ∀ w' L, Mem B L w' → Sl w' (.slice bb body.length cb) body.length (body.flatMap symC) := fun w' L hm => hfl.gr (ho.mem hm)
        obtain ⟨bb2, cb2, he, h4, h5, h6⟩ := hfl
        simp only [Value.slice.injEq, true_and] at he
        obtain ⟨rfl, rfl⟩ := he
        unfold maxLen at h5
        repeat (first
          | refine qv rfl (qp rfl) rfl rfl ?_ | refine TL_nil ?_ | refine T_seq ?_ | refine T_region ?_ | refine qcT rfl ?_ | refine qcF rfl ?_ | refine T_skip ?_
          | refine T_exit ?_ | refine T_block ?_ | refine E_then ?_ | refine E_thenX ?_ | refine E_thenR ?_ | refine E_blockN ?_ | refine E_blockR ?_
          | refine E_blockX ?_ | refine E_blockO rfl ?_ | refine qs rfl rfl rfl rfl rfl rfl ?_
          | ((try refine qg rfl rfl rfl ?_); first | refine qv rfl (qp rfl) rfl rfl ?_ | refine qv rfl (rr_idxc Und.eq TyC.ty rfl rfl c6) rfl rfl ?_ | refine qv rfl (rr_loadN TyC.ty rfl rfl (hat _)) rfl rfl ?_ | refine qv rfl (qlen Und.eq rfl) rfl rfl ?_ | refine qv rfl (qfld FldC.fld rfl rfl) rfl rfl ?_ | refine qv rfl (rr_lss rfl rfl (qT (by omega))) rfl rfl ?_ | refine qv rfl (rr_lss rfl rfl (qF (by omega))) rfl rfl ?_ | refine qv rfl (rr_eql rfl rfl (qT (by omega))) rfl rfl ?_ | refine qv rfl (rr_eql rfl rfl (qF (by omega))) rfl rfl ?_ | refine qv rfl (rr_add64 rfl rfl (by omega) (by omega) rfl) rfl rfl ?_))
        clear hat
        refine TL_new rfl fun g9 => ?_
        refine TL_storeB (i := 6) rfl rfl rfl rfl rfl rfl ?_
        conv => arg 8; simp only [zA, zB, zC, zD, zE, zF, zG, zH, zI, rowS, ret, id_eq]
        repeat (first
          | refine qv rfl (qp rfl) rfl rfl ?_ | refine TL_nil ?_ | refine T_seq ?_ | refine T_region ?_ | refine qcT rfl ?_ | refine qcF rfl ?_ | refine T_skip ?_
          | refine T_exit ?_ | refine T_block ?_ | refine E_then ?_ | refine E_thenX ?_ | refine E_thenR ?_ | refine E_blockN ?_ | refine E_blockR ?_
          | refine E_blockX ?_ | refine E_blockO rfl ?_ | refine qs rfl rfl rfl rfl rfl rfl ?_
          | ((try refine qg rfl rfl rfl ?_); first | refine qv rfl (qp rfl) rfl rfl ?_ | refine qv rfl (rr_load1 TyC.ty rfl (at_blk (i := 6) rfl rfl)) rfl rfl ?_ | refine qv rfl (qlen Und.eq rfl) rfl rfl ?_ | refine qv rfl (qfld FldC.fld rfl rfl) rfl rfl ?_ | refine qv rfl (rr_lss rfl rfl (qT (by omega))) rfl rfl ?_ | refine qv rfl (rr_lss rfl rfl (qF (by omega))) rfl rfl ?_ | refine qv rfl (rr_eql rfl rfl (qT (by omega))) rfl rfl ?_ | refine qv rfl (rr_eql rfl rfl (qF (by omega))) rfl rfl ?_ | refine qv rfl (rr_add64 rfl rfl (by omega) (by omega) rfl) rfl rfl ?_))
        refine T_loop (ι := Nat × List Nat × Bool) (fun (j, W, m) => j ≤ body.length ∧ okW n W ∧ passW E F (prods.drop (k + 1)) (passWb E F hn (body.drop j) W m).1 (passWb E F hn (body.drop j) W m).2 = (Wx, mx)) (fun (j, _, m) => [(2, .pointer (some ⟨g2, 0, none⟩)), (3, .pointer (some ⟨g3, 0, none⟩)), (7, .bool m), (9, .pointer (some ⟨g9, 0, none⟩)), (40, .slice (some ⟨b, off, none⟩) prods.length cp), (41, .int .i64 prods.length), (42, .int .i64 (k : Int)), (47, .slice bb body.length cb), (48, .int .i64 body.length), (49, .int .i64 (j : Int))])
          (fun (_, W, _) => [rowBn n gE cE E, rowNn n gF cF F, rowNn n gW cW W, rowBn n gM cM M, blkO g2 (graV t (n : Int) (.slice (some ⟨b, off, none⟩) prods.length cp)).cells 24, blkO g3 (facV (vRow n gE cE) (vRow n gF cF) (vRow n gW cW) vR (vRow n gM cM)).cells 67, blkO g9 #[.int .i64 (hn : Int), .slice bb body.length cb] 46]) (fun (j, _, _) => body.length - j) (0, W', m) ⟨Nat.zero_le _, k2, k3⟩ (by repeat' (first | exact True.intro | refine And.intro rfl ?_)) rfl ?_
        clear k2 k3
        rintro ⟨j, W2, m2⟩ ⟨k2, k3, k4⟩
        dsimp only at k2 k3 k4 ⊢
        by_cases c7 : j < body.length
        · obtain ⟨b2, off2, rfl, hr2⟩ := h6 (by omega)
          have hat2 := at_elL (W := B) (L := [rowBn n gE cE E, rowNn n gF cF F, rowNn n gW cW W2, rowBn n gM cM M, blkO g2 (graV t (n : Int) (.slice (some ⟨b, off, none⟩) prods.length cp)).cells 24, blkO g3 (facV (vRow n gE cE) (vRow n gF cF) (vRow n gW cW) vR (vRow n gM cM)).cells 67, blkO g9 #[.int .i64 (hn : Int), .slice (some ⟨b2, off2, none⟩) body.length cb] 46]) SymS_len (fun q x hq => at_old0 ho (hr2 q x hq)) c7
          have hx3 := hp3 body[j] (List.getElem_mem c7)
          have hsub : ∀ w' L, Mem B L w' → Sl w' (subV (some ⟨b2, off2, none⟩) cb 2 (j + 1) body.length) (body.drop (j + 1)).length ((body.drop (j + 1)).flatMap symC) := fun w' L hm => by
            have := sl_sub SymS_len (hsb w' L hm) (i := j + 1) (j := body.length) (by omega) (Nat.le_refl _)
            rwa [List.take_of_length_le (by simp)] at this
          have hbl : beginF E F (body.drop (j + 1)) (W2.getD hn 0) < 18446744073709551616 := beginF_lt i1 (getD_lt k3 _) fun x hx h => (hp2 x (List.mem_of_mem_drop hx) h).2
          have hbg := fun w' L (hm : Mem B L w') (hx : Sl w' (vRow n gE cE) E.length (E.map .bool)) (hy : Sl w' (vRow n gF cF) F.length (F.map bitV)) => begin_calls (vRow n gE cE) (vRow n gF cF) (vRow n gW cW) vR (vRow n gM cM) _ E F (body.drop (j + 1)) (W2.getD hn 0) w' hx hy (hsub w' L hm) (by rw [hE, i1.1]) (fun x hx => ⟨fun h => by have := hp2 x (List.mem_of_mem_drop hx) h; omega, fun h => by have := hp3 x (List.mem_of_mem_drop hx) h; rw [i1.1]; omega⟩) i1.2 (getD_lt k3 _)
          rw [hE, i1.1] at hbg
          have hcW : (W2.map bitV)[hn]? = some (bitV (W2.getD hn 0)) := bit_at (by rw [k3.1]; exact hp1.2)
          rw [List.drop_eq_getElem_cons c7, passWb_cons] at k4
          generalize body[j] = x at *
          obtain ⟨q, mn⟩ := x
          dsimp only at hx3
          unfold stepW at k4
          dsimp only at k4
          generalize W2.getD hn 0 = bh at *
          generalize beginF E F (body.drop (j + 1)) bh = bg at *
          repeat (first
            | refine qv rfl (qp rfl) rfl rfl ?_ | refine TL_nil ?_ | refine T_seq ?_ | refine T_region ?_ | refine qcT rfl ?_ | refine qcF rfl ?_ | refine T_skip ?_
            | refine T_exit ?_ | refine T_block ?_ | refine E_then ?_ | refine E_thenX ?_ | refine E_thenR ?_ | refine E_blockN ?_ | refine E_blockR ?_
            | refine E_blockX ?_ | refine E_blockO rfl ?_ | refine qs rfl rfl rfl rfl rfl rfl ?_
            | ((try refine qg rfl rfl rfl ?_); first | refine qv rfl (qp rfl) rfl rfl ?_ | refine qv rfl (rr_idxc Und.eq TyC.ty rfl rfl c7) rfl rfl ?_ | refine qv rfl (rr_loadN TyC.ty rfl rfl hat2) rfl rfl ?_ | refine qv rfl (qlen Und.eq rfl) rfl rfl ?_ | refine qv rfl (qfld FldC.fld rfl rfl) rfl rfl ?_ | refine qv rfl (rr_lss rfl rfl (qT (by omega))) rfl rfl ?_ | refine qv rfl (rr_lss rfl rfl (qF (by omega))) rfl rfl ?_ | refine qv rfl (rr_eql rfl rfl (qT (by omega))) rfl rfl ?_ | refine qv rfl (rr_eql rfl rfl (qF (by omega))) rfl rfl ?_ | refine qv rfl (rr_add64 rfl rfl (by omega) (by omega) rfl) rfl rfl ?_))
          clear hat2 hr2
          refine TL_new rfl fun g11 => ?_
          conv => arg 8; simp only [zA, zB, zC, zD, zE, zF, zG, zH, zI, rowS, ret, id_eq]
          repeat (first
            | refine qv rfl (qp rfl) rfl rfl ?_ | refine TL_nil ?_ | refine T_seq ?_ | refine T_region ?_ | refine qcT rfl ?_ | refine qcF rfl ?_ | refine T_skip ?_
            | refine T_exit ?_ | refine T_block ?_ | refine E_then ?_ | refine E_thenX ?_ | refine E_thenR ?_ | refine E_blockN ?_ | refine E_blockR ?_
            | refine E_blockX ?_ | refine E_blockO rfl ?_ | refine qs rfl rfl rfl rfl rfl rfl ?_
            | ((try refine qg rfl rfl rfl ?_); first | refine qv rfl (qp rfl) rfl rfl ?_ | refine qv rfl (qlen Und.eq rfl) rfl rfl ?_ | refine qv rfl (qfld FldC.fld rfl rfl) rfl rfl ?_ | refine qv rfl (rr_lss rfl rfl (qT (by omega))) rfl rfl ?_ | refine qv rfl (rr_lss rfl rfl (qF (by omega))) rfl rfl ?_ | refine qv rfl (rr_eql rfl rfl (qT (by omega))) rfl rfl ?_ | refine qv rfl (rr_eql rfl rfl (qF (by omega))) rfl rfl ?_ | refine qv rfl (rr_add64 rfl rfl (by omega) (by omega) rfl) rfl rfl ?_))
          refine TL_storeB (i := 7) rfl rfl rfl rfl rfl rfl ?_
          conv => arg 8; simp only [zA, zB, zC, zD, zE, zF, zG, zH, zI, rowS, ret, id_eq]
          by_cases c1 : q = 2
          · rw [if_pos c1] at k4
            obtain ⟨_, o1, o2⟩ := hx3 (by omega)
            subst c1
            obtain ⟨mm, rfl⟩ : ∃ mm : Nat, mn = mm := ⟨mn.toNat, by omega⟩
            rw [Int.toNat_natCast] at k4 o2
            have hok2 := addF_ok (i := mm) k3 hbl
            have hadd := fun w' B' hm => add2_calls n gW cW W2 mm bg w' B' k3 o2 hbl hm
            generalize addF W2 mm bg = ad at *
            obtain ⟨W3, ch⟩ := ad
            dsimp only at k4 hok2 hadd
            repeat (first
              | refine qv rfl (qp rfl) rfl rfl ?_ | refine TL_nil ?_ | refine T_seq ?_ | refine T_region ?_ | refine qcT rfl ?_ | refine qcF rfl ?_ | refine T_skip ?_
              | refine T_exit ?_ | refine T_block ?_ | refine E_then ?_ | refine E_thenX ?_ | refine E_thenR ?_ | refine E_blockN ?_ | refine E_blockR ?_
              | refine E_blockX ?_ | refine E_blockO rfl ?_ | refine qs rfl rfl rfl rfl rfl rfl ?_
              | ((try refine qg rfl rfl rfl ?_); first | refine qv rfl (qp rfl) rfl rfl ?_ | refine qv rfl (rr_load1 TyC.ty rfl (at_blk (i := 7) rfl rfl)) rfl rfl ?_ | refine qv rfl (qlen Und.eq rfl) rfl rfl ?_ | refine qv rfl (qfld FldC.fld rfl rfl) rfl rfl ?_ | refine qv rfl (rr_lss rfl rfl (qT (by omega))) rfl rfl ?_ | refine qv rfl (rr_lss rfl rfl (qF (by omega))) rfl rfl ?_ | refine qv rfl (rr_eql rfl rfl (qT (by omega))) rfl rfl ?_ | refine qv rfl (rr_eql rfl rfl (qF (by omega))) rfl rfl ?_ | refine qv rfl (rr_add64 rfl rfl (by omega) (by omega) rfl) rfl rfl ?_))
            refine T_ord ([blkO g3 (facV (vRow n gE cE) (vRow n gF cF) (vRow n gW cW) vR (vRow n gM cM)).cells 67, blkO g9 #[.int .i64 (hn : Int), .slice (some ⟨b2, off2, none⟩) body.length cb] 46, blkO g11 #[.int .i64 2, .int .i64 (mm : Int)] 47]) (.calm 0 (.calm 1 (.calm 2 (.calm 3 (.calm 4 (.calm 5 (.calm 6 (.calm 7 (.calm 8 (.calm 9 (.calm 10 (.calm 11 (.calm 12 (.calm 13 (.calm 14 (.one 15 (.one 16 (.one 17 (.calm 18 (.calm 19 (.calm 20 (.calm 21 (.done))))))))))))))))))))))) (sub_pick [5, 6, 7] (by decide) rfl) (by kernel_rfl) (by kernel_rfl) (by intro c a d v w h; cases d <;> exact h) ?_
            repeat (first
              | ((first | refine TW_plain rfl rfl ?_ | refine TW_gmet rfl rfl rfl rfl ?_); first | refine TN_val (qp rfl) rfl rfl ?_ | refine TN_val (rr_load1 TyC.ty rfl (at_blk (i := 0) rfl rfl)) rfl rfl ?_ | refine TN_val (rr_load1 TyC.ty rfl (at_blk (i := 1) rfl rfl)) rfl rfl ?_ | refine TN_val (rr_load1 TyC.ty rfl (at_blk (i := 2) rfl rfl)) rfl rfl ?_ | refine TN_val (rr_loadB (i := 0) TyC.ty rfl rfl rfl) rfl rfl ?_ | refine TN_val (rr_slfrom (i := j + 1) Und.eq TyC.ty rfl rfl c7 h4) rfl rfl ?_ | refine TN_val (rr_idx1 Und.eq TyC.ty rfl rfl hp1.2) rfl rfl ?_ | refine TN_val (qlen Und.eq rfl) rfl rfl ?_ | refine TN_val (qfld FldC.fld rfl rfl) rfl rfl ?_ | refine TN_val (rr_lss rfl rfl (qT (by omega))) rfl rfl ?_ | refine TN_val (rr_lss rfl rfl (qF (by omega))) rfl rfl ?_ | refine TN_val (rr_eql rfl rfl (qT (by omega))) rfl rfl ?_ | refine TN_val (rr_eql rfl rfl (qF (by omega))) rfl rfl ?_ | refine TN_val (rr_add64 rfl rfl (by omega) (by omega) rfl) rfl rfl ?_)
              | refine TW_skip rfl rfl rfl rfl rfl rfl rfl ?_ | refine TW_done ?_)
            refine TW_one rfl ?_
            refine TL_val (rr_load1 TyC.ty rfl (at_row (i := 2) rfl (by rw [Nat.zero_add]; exact hcW))) rfl rfl rfl ?_
            refine TW_on (sub_pick [5, 6, 7] (by decide) rfl) ?_
            refine TW_one rfl ?_
            refine TL_call (he3 EntersC.en rfl rfl rfl rfl) (fun w hm => hbg _ _ hm (sl_row (i := 0) rfl w hm) (sl_row (i := 1) rfl w hm)) rfl rfl rfl ?_
            intro _ _
            conv => arg 8; simp only [zA, zB, zC, zD, zE, zF, zG, zH, zI, rowS, ret, id_eq]
            refine TW_on (sub_pick [5, 6, 7] (by decide) rfl) ?_
            refine TW_one rfl ?_
            refine TL_callB [2] [0, 1, 3, 4, 5, 6, 7] (by decide) rfl rfl (he3 EntersC.en rfl rfl rfl rfl) (fun w hm hb => hadd w _ hb) rfl rfl rfl ?_
            intro _ _
            conv => arg 8; simp only [zA, zB, zC, zD, zE, zF, zG, zH, zI, rowS, ret, id_eq]
            refine TW_on (sub_pick [4, 5, 6] (by decide) rfl) ?_
            cases ch
            · repeat (first
                | ((first | refine TW_plain rfl rfl ?_ | refine TW_gmet rfl rfl rfl rfl ?_); first | refine TN_val (qp rfl) rfl rfl ?_ | refine TN_val (qlen Und.eq rfl) rfl rfl ?_ | refine TN_val (qfld FldC.fld rfl rfl) rfl rfl ?_ | refine TN_val (rr_lss rfl rfl (qT (by omega))) rfl rfl ?_ | refine TN_val (rr_lss rfl rfl (qF (by omega))) rfl rfl ?_ | refine TN_val (rr_eql rfl rfl (qT (by omega))) rfl rfl ?_ | refine TN_val (rr_eql rfl rfl (qF (by omega))) rfl rfl ?_ | refine TN_val (rr_add64 rfl rfl (by omega) (by omega) rfl) rfl rfl ?_)
                | refine TW_skip rfl rfl rfl rfl rfl rfl rfl ?_ | refine TW_done ?_)
              repeat (first
                | refine qv rfl (qp rfl) rfl rfl ?_ | refine TL_nil ?_ | refine T_seq ?_ | refine T_region ?_ | refine qcT rfl ?_ | refine qcF rfl ?_ | refine T_skip ?_
                | refine T_exit ?_ | refine T_block ?_ | refine E_then ?_ | refine E_thenX ?_ | refine E_thenR ?_ | refine E_blockN ?_ | refine E_blockR ?_
                | refine E_blockX ?_ | refine E_blockO rfl ?_ | refine qs rfl rfl rfl rfl rfl rfl ?_
                | ((try refine qg rfl rfl rfl ?_); first | refine qv rfl (qp rfl) rfl rfl ?_ | refine qv rfl (qlen Und.eq rfl) rfl rfl ?_ | refine qv rfl (qfld FldC.fld rfl rfl) rfl rfl ?_ | refine qv rfl (rr_lss rfl rfl (qT (by omega))) rfl rfl ?_ | refine qv rfl (rr_lss rfl rfl (qF (by omega))) rfl rfl ?_ | refine qv rfl (rr_eql rfl rfl (qT (by omega))) rfl rfl ?_ | refine qv rfl (rr_eql rfl rfl (qF (by omega))) rfl rfl ?_ | refine qv rfl (rr_add64 rfl rfl (by omega) (by omega) rfl) rfl rfl ?_))
              refine E_pick [0, 1, 7, 2, 3, 4, 5] (by decide) rfl ?_
              exact E_round (j + 1, W3, false || m2) ⟨by omega, hok2, k4⟩ (by show body.length - (j + 1) < body.length - j; omega) (by repeat' (first | exact True.intro | refine And.intro rfl ?_)) rfl
            · repeat (first
                | ((first | refine TW_plain rfl rfl ?_ | refine TW_gmet rfl rfl rfl rfl ?_); first | refine TN_val (qp rfl) rfl rfl ?_ | refine TN_val (qlen Und.eq rfl) rfl rfl ?_ | refine TN_val (qfld FldC.fld rfl rfl) rfl rfl ?_ | refine TN_val (rr_lss rfl rfl (qT (by omega))) rfl rfl ?_ | refine TN_val (rr_lss rfl rfl (qF (by omega))) rfl rfl ?_ | refine TN_val (rr_eql rfl rfl (qT (by omega))) rfl rfl ?_ | refine TN_val (rr_eql rfl rfl (qF (by omega))) rfl rfl ?_ | refine TN_val (rr_add64 rfl rfl (by omega) (by omega) rfl) rfl rfl ?_)
                | refine TW_skip rfl rfl rfl rfl rfl rfl rfl ?_ | refine TW_done ?_)
              repeat (first
                | refine qv rfl (qp rfl) rfl rfl ?_ | refine TL_nil ?_ | refine T_seq ?_ | refine T_region ?_ | refine qcT rfl ?_ | refine qcF rfl ?_ | refine T_skip ?_
                | refine T_exit ?_ | refine T_block ?_ | refine E_then ?_ | refine E_thenX ?_ | refine E_thenR ?_ | refine E_blockN ?_ | refine E_blockR ?_
                | refine E_blockX ?_ | refine E_blockO rfl ?_ | refine qs rfl rfl rfl rfl rfl rfl ?_
                | ((try refine qg rfl rfl rfl ?_); first | refine qv rfl (qp rfl) rfl rfl ?_ | refine qv rfl (qlen Und.eq rfl) rfl rfl ?_ | refine qv rfl (qfld FldC.fld rfl rfl) rfl rfl ?_ | refine qv rfl (rr_lss rfl rfl (qT (by omega))) rfl rfl ?_ | refine qv rfl (rr_lss rfl rfl (qF (by omega))) rfl rfl ?_ | refine qv rfl (rr_eql rfl rfl (qT (by omega))) rfl rfl ?_ | refine qv rfl (rr_eql rfl rfl (qF (by omega))) rfl rfl ?_ | refine qv rfl (rr_add64 rfl rfl (by omega) (by omega) rfl) rfl rfl ?_))
              refine E_pick [0, 1, 7, 2, 3, 4, 5] (by decide) rfl ?_
              exact E_round (j + 1, W3, true || m2) ⟨by omega, hok2, k4⟩ (by show body.length - (j + 1) < body.length - j; omega) (by repeat' (first | exact True.intro | refine And.intro rfl ?_)) rfl
          · rw [if_neg c1] at k4
            repeat (first
              | refine qv rfl (qp rfl) rfl rfl ?_ | refine TL_nil ?_ | refine T_seq ?_ | refine T_region ?_ | refine qcT rfl ?_ | refine qcF rfl ?_ | refine T_skip ?_
              | refine T_exit ?_ | refine T_block ?_ | refine E_then ?_ | refine E_thenX ?_ | refine E_thenR ?_ | refine E_blockN ?_ | refine E_blockR ?_
              | refine E_blockX ?_ | refine E_blockO rfl ?_ | refine qs rfl rfl rfl rfl rfl rfl ?_
              | ((try refine qg rfl rfl rfl ?_); first | refine qv rfl (qp rfl) rfl rfl ?_ | refine qv rfl (rr_load1 TyC.ty rfl (at_blk (i := 7) rfl rfl)) rfl rfl ?_ | refine qv rfl (qlen Und.eq rfl) rfl rfl ?_ | refine qv rfl (qfld FldC.fld rfl rfl) rfl rfl ?_ | refine qv rfl (rr_lss rfl rfl (qT (by omega))) rfl rfl ?_ | refine qv rfl (rr_lss rfl rfl (qF (by omega))) rfl rfl ?_ | refine qv rfl (rr_eql rfl rfl (qT (by omega))) rfl rfl ?_ | refine qv rfl (rr_eql rfl rfl (qF (by omega))) rfl rfl ?_ | refine qv rfl (rr_add64 rfl rfl (by omega) (by omega) rfl) rfl rfl ?_))
            refine E_pick [0, 1, 2, 3, 4, 5, 6] (by decide) rfl ?_
            exact E_round (j + 1, W2, m2) ⟨c7, k3, k4⟩ (by show body.length - (j + 1) < body.length - j; omega) (by repeat' (first | exact True.intro | refine And.intro rfl ?_)) rfl
        · rw [show body.drop j = [] from List.drop_of_length_le (by omega)] at k4
          repeat (first
            | refine qv rfl (qp rfl) rfl rfl ?_ | refine TL_nil ?_ | refine T_seq ?_ | refine T_region ?_ | refine qcT rfl ?_ | refine qcF rfl ?_ | refine T_skip ?_
            | refine T_exit ?_ | refine T_block ?_ | refine E_then ?_ | refine E_thenX ?_ | refine E_thenR ?_ | refine E_blockN ?_ | refine E_blockR ?_
            | refine E_blockX ?_ | refine E_blockO rfl ?_ | refine qs rfl rfl rfl rfl rfl rfl ?_
            | ((try refine qg rfl rfl rfl ?_); first | refine qv rfl (qp rfl) rfl rfl ?_ | refine qv rfl (qlen Und.eq rfl) rfl rfl ?_ | refine qv rfl (qfld FldC.fld rfl rfl) rfl rfl ?_ | refine qv rfl (rr_lss rfl rfl (qT (by omega))) rfl rfl ?_ | refine qv rfl (rr_lss rfl rfl (qF (by omega))) rfl rfl ?_ | refine qv rfl (rr_eql rfl rfl (qT (by omega))) rfl rfl ?_ | refine qv rfl (rr_eql rfl rfl (qF (by omega))) rfl rfl ?_ | refine qv rfl (rr_add64 rfl rfl (by omega) (by omega) rfl) rfl rfl ?_))
          refine E_pick [0, 1, 2, 3, 4, 5] (by decide) rfl ?_
          exact E_round (k + 1, W2, m2) ⟨by omega, k3, k4⟩ (by show prods.length - (k + 1) < prods.length - k; omega) (by repeat' (first | exact True.intro | refine And.intro rfl ?_)) rfl
      · rw [List.drop_of_length_le (by omega)] at k3
        have k3 : (W', m) = (Wx, mx) := k3
        simp only [Prod.mk.injEq] at k3
        obtain ⟨rfl, rfl⟩ := k3
        obtain ⟨d1, d2, d3, d4⟩ := hdone
        repeat (first
          | refine qv rfl (qp rfl) rfl rfl ?_ | refine TL_nil ?_ | refine T_seq ?_ | refine T_region ?_ | refine qcT rfl ?_ | refine qcF rfl ?_ | refine T_skip ?_
          | refine T_exit ?_ | refine T_block ?_ | refine E_then ?_ | refine E_thenX ?_ | refine E_thenR ?_ | refine E_blockN ?_ | refine E_blockR ?_
          | refine E_blockX ?_ | refine E_blockO rfl ?_ | refine qs rfl rfl rfl rfl rfl rfl ?_
          | ((try refine qg rfl rfl rfl ?_); first | refine qv rfl (qp rfl) rfl rfl ?_ | refine qv rfl (qlen Und.eq rfl) rfl rfl ?_ | refine qv rfl (qfld FldC.fld rfl rfl) rfl rfl ?_ | refine qv rfl (rr_lss rfl rfl (qT (by omega))) rfl rfl ?_ | refine qv rfl (rr_lss rfl rfl (qF (by omega))) rfl rfl ?_ | refine qv rfl (rr_eql rfl rfl (qT (by omega))) rfl rfl ?_ | refine qv rfl (rr_eql rfl rfl (qF (by omega))) rfl rfl ?_ | refine qv rfl (rr_add64 rfl rfl (by omega) (by omega) rfl) rfl rfl ?_))
        exact E_round (W', m) ⟨d1, d2, d3⟩ d4 (by repeat' (first | exact True.intro | refine And.intro rfl ?_)) rfl
  · have i2 := i2 rfl
    clear i3
    have hdone : ∀ F' m', passF E M prods F false = (F', m') → okW n F' ∧ (m' = true → setsF E M prods F' = fin) ∧ (m' = false → F' = fin) ∧ 2 * lack F' + (if m' = true then 1 else 0) < 2 * lack F + 1 := fun F' m' hp => by
      have hk := passF_ok (E := E) (M := M) prods F false hfine i1
      rw [hp] at hk
      dsimp only at hk
      refine ⟨hk.1, fun c => ?_, fun c => ?_, ?_⟩
      · rw [← i2]
        unfold setsF
        rw [fix_go hfalls i1 (by rw [hp]; exact c), hp]
      · rw [← i2]
        unfold setsF
        rw [fix_stop (by rw [hp]; exact c), hp]
      · have h2 := hk.2.2
        cases m'
        · have := hk.2.1; simp; omega
        · rcases h2 rfl with h | h
          · cases h
          · simp; omega
    repeat (first
      | refine qv rfl (qp rfl) rfl rfl ?_ | refine TL_nil ?_ | refine T_seq ?_ | refine T_region ?_ | refine qcT rfl ?_ | refine qcF rfl ?_ | refine T_skip ?_
      | refine T_exit ?_ | refine T_block ?_ | refine E_then ?_ | refine E_thenX ?_ | refine E_thenR ?_ | refine E_blockN ?_ | refine E_blockR ?_
      | refine E_blockX ?_ | refine E_blockO rfl ?_ | refine qs rfl rfl rfl rfl rfl rfl ?_
      | ((try refine qg rfl rfl rfl ?_); first | refine qv rfl (qp rfl) rfl rfl ?_ | refine qv rfl (rr_load1 TyC.ty rfl (at_blk (i := 4) rfl rfl)) rfl rfl ?_ | refine qv rfl (qlen Und.eq rfl) rfl rfl ?_ | refine qv rfl (qfld FldC.fld rfl rfl) rfl rfl ?_ | refine qv rfl (rr_lss rfl rfl (qT (by omega))) rfl rfl ?_ | refine qv rfl (rr_lss rfl rfl (qF (by omega))) rfl rfl ?_ | refine qv rfl (rr_eql rfl rfl (qT (by omega))) rfl rfl ?_ | refine qv rfl (rr_eql rfl rfl (qF (by omega))) rfl rfl ?_ | refine qv rfl (rr_add64 rfl rfl (by omega) (by omega) rfl) rfl rfl ?_))
    generalize hfp : passF E M prods F false = fp at *
    obtain ⟨Fx, mx⟩ := fp
    have hdone := hdone Fx mx rfl
    refine T_loop (ι := Nat × List Nat × Bool) (fun (k, F, m) => k ≤ prods.length ∧ okW n F ∧ passF E M (prods.drop k) F m = (Fx, mx)) (fun (k, _, m) => [(2, .pointer (some ⟨g2, 0, none⟩)), (3, .pointer (some ⟨g3, 0, none⟩)), (4, .bool m), (14, .slice bp prods.length cp), (15, .int .i64 prods.length), (16, .int .i64 (k : Int))])
      (fun (_, F, _) => [rowBn n gE cE E, rowNn n gF cF F, rowNn n gW cW W, rowBn n gM cM M, blkO g2 (graV t (n : Int) (.slice bp prods.length cp)).cells 24, blkO g3 (facV (vRow n gE cE) (vRow n gF cF) (vRow n gW cW) vR (vRow n gM cM)).cells 67]) (fun (k, _, _) => prods.length - k) (0, F, false) ⟨Nat.zero_le _, i1, hfp⟩ (by repeat' (first | exact True.intro | refine And.intro rfl ?_)) rfl ?_
    clear hfp i2
    rintro ⟨k, F', m⟩ ⟨j1, j2, j3⟩
    dsimp only at j1 j2 j3 ⊢
    by_cases c6 : k < prods.length
    · obtain ⟨b, off, rfl, _, hr⟩ := hrp (by omega)
      obtain ⟨bb, cb, q1, q2, q3⟩ := prod_at hr c6
      have hp1 := hfine.head prods[k] (List.getElem_mem c6)
      have hp2 := hfine.term prods[k] (List.getElem_mem c6)
      have hp3 := hfine.non prods[k] (List.getElem_mem c6)
      rw [List.drop_eq_getElem_cons c6, passF_cons] at j3
      have hat : ∀ (L : List Own) (j : Nat) (v : Value), ([.int .i64 prods[k].1, .slice bb prods[k].2.length cb] : List Value)[j]? = some v → At B L ⟨b, off + k * 2 + j, none⟩ v := fun L j v hj => at_old0 ho (q1 j v hj)
      have hfl := q3.flat (by decide)
      clear hr hrp q1 q3
      generalize prods[k] = p at *
      obtain ⟨hd, body⟩ := p
      dsimp only at *
      obtain ⟨hn, rfl⟩ : ∃ hn : Nat, hd = hn := ⟨hd.toNat, by omega⟩
      rw [Int.toNat_natCast] at hp1
      have hsb : ∀ w' L, Mem B L w' → Sl w' (.slice bb body.length cb) body.length (body.flatMap symC) := fun w' L hm => hfl.gr (ho.mem hm)
      have hall := fun w' L (hm : Mem B L w') (hx : Sl w' (vRow n gM cM) M.length (M.map .bool)) => allB_calls (vRow n gM cM) (.slice bb body.length cb) M body true w' hx (hsb w' L hm) (fun x hx hx2 => by have := hp3 x hx (by omega); rw [hM]; omega)
      rw [hM] at hall
      have hbg := fun w' L (hm : Mem B L w') (hx : Sl w' (vRow n gE cE) E.length (E.map .bool)) (hy : Sl w' (vRow n gF cF) F'.length (F'.map bitV)) => begin_calls (vRow n gE cE) (vRow n gF cF) (vRow n gW cW) vR (vRow n gM cM) (.slice bb body.length cb) E F' body 0 w' hx hy (hsb w' L hm) (by rw [hE, j2.1]) (fun x hx => ⟨fun h => by have := hp2 x hx h; omega, fun h => by have := hp3 x hx h; rw [j2.1]; omega⟩) j2.2 (by decide)
      rw [hE, j2.1] at hbg
      unfold stepF at j3
      dsimp only at j3
      rw [Int.toNat_natCast] at j3
      generalize allF M body true = a1 at *
      have hbl : beginF E F' body 0 < 18446744073709551616 := beginF_lt j2 (by decide) fun x hx h => (hp2 x hx h).2
      generalize beginF E F' body 0 = bg at *
      repeat (first
        | refine qv rfl (qp rfl) rfl rfl ?_ | refine TL_nil ?_ | refine T_seq ?_ | refine T_region ?_ | refine qcT rfl ?_ | refine qcF rfl ?_ | refine T_skip ?_
        | refine T_exit ?_ | refine T_block ?_ | refine E_then ?_ | refine E_thenX ?_ | refine E_thenR ?_ | refine E_blockN ?_ | refine E_blockR ?_
        | refine E_blockX ?_ | refine E_blockO rfl ?_ | refine qs rfl rfl rfl rfl rfl rfl ?_
        | ((try refine qg rfl rfl rfl ?_); first | refine qv rfl (qp rfl) rfl rfl ?_ | refine qv rfl (rr_idxc Und.eq TyC.ty rfl rfl c6) rfl rfl ?_ | refine qv rfl (rr_loadN TyC.ty rfl rfl (hat _)) rfl rfl ?_ | refine qv rfl (qlen Und.eq rfl) rfl rfl ?_ | refine qv rfl (qfld FldC.fld rfl rfl) rfl rfl ?_ | refine qv rfl (rr_lss rfl rfl (qT (by omega))) rfl rfl ?_ | refine qv rfl (rr_lss rfl rfl (qF (by omega))) rfl rfl ?_ | refine qv rfl (rr_eql rfl rfl (qT (by omega))) rfl rfl ?_ | refine qv rfl (rr_eql rfl rfl (qF (by omega))) rfl rfl ?_ | refine qv rfl (rr_add64 rfl rfl (by omega) (by omega) rfl) rfl rfl ?_))
      clear hat
      refine TL_new rfl fun g6 => ?_
      refine TL_storeB (i := 6) rfl rfl rfl rfl rfl rfl ?_
      conv => arg 8; simp only [zA, zB, zC, zD, zE, zF, zG, zH, zI, rowS, ret, id_eq]
      repeat (first
        | refine qv rfl (qp rfl) rfl rfl ?_ | refine TL_nil ?_ | refine T_seq ?_ | refine T_region ?_ | refine qcT rfl ?_ | refine qcF rfl ?_ | refine T_skip ?_
        | refine T_exit ?_ | refine T_block ?_ | refine E_then ?_ | refine E_thenX ?_ | refine E_thenR ?_ | refine E_blockN ?_ | refine E_blockR ?_
        | refine E_blockX ?_ | refine E_blockO rfl ?_ | refine qs rfl rfl rfl rfl rfl rfl ?_
        | ((try refine qg rfl rfl rfl ?_); first | refine qv rfl (qp rfl) rfl rfl ?_ | refine qv rfl (rr_load1 TyC.ty rfl (at_blk (i := 5) rfl rfl)) rfl rfl ?_ | refine qv rfl (rr_load1 TyC.ty rfl (at_blk (i := 6) rfl rfl)) rfl rfl ?_ | refine qv rfl (qlen Und.eq rfl) rfl rfl ?_ | refine qv rfl (qfld FldC.fld rfl rfl) rfl rfl ?_ | refine qv rfl (rr_lss rfl rfl (qT (by omega))) rfl rfl ?_ | refine qv rfl (rr_lss rfl rfl (qF (by omega))) rfl rfl ?_ | refine qv rfl (rr_eql rfl rfl (qT (by omega))) rfl rfl ?_ | refine qv rfl (rr_eql rfl rfl (qF (by omega))) rfl rfl ?_ | refine qv rfl (rr_add64 rfl rfl (by omega) (by omega) rfl) rfl rfl ?_))
      refine TL_call (he3 EntersC.en rfl rfl rfl rfl) (fun w hm => hall _ _ hm (sl_row (i := 3) rfl w hm)) rfl rfl rfl ?_
      intro _ _
      conv => arg 8; simp only [zA, zB, zC, zD, zE, zF, zG, zH, zI, rowS, ret, id_eq]
      cases a1
      · rw [if_neg (by decide)] at j3
        repeat (first
          | refine qv rfl (qp rfl) rfl rfl ?_ | refine TL_nil ?_ | refine T_seq ?_ | refine T_region ?_ | refine qcT rfl ?_ | refine qcF rfl ?_ | refine T_skip ?_
          | refine T_exit ?_ | refine T_block ?_ | refine E_then ?_ | refine E_thenX ?_ | refine E_thenR ?_ | refine E_blockN ?_ | refine E_blockR ?_
          | refine E_blockX ?_ | refine E_blockO rfl ?_ | refine qs rfl rfl rfl rfl rfl rfl ?_
          | ((try refine qg rfl rfl rfl ?_); first | refine qv rfl (qp rfl) rfl rfl ?_ | refine qv rfl (qlen Und.eq rfl) rfl rfl ?_ | refine qv rfl (qfld FldC.fld rfl rfl) rfl rfl ?_ | refine qv rfl (rr_lss rfl rfl (qT (by omega))) rfl rfl ?_ | refine qv rfl (rr_lss rfl rfl (qF (by omega))) rfl rfl ?_ | refine qv rfl (rr_eql rfl rfl (qT (by omega))) rfl rfl ?_ | refine qv rfl (rr_eql rfl rfl (qF (by omega))) rfl rfl ?_ | refine qv rfl (rr_add64 rfl rfl (by omega) (by omega) rfl) rfl rfl ?_))
        refine E_pick [0, 1, 2, 3, 4, 5] (by decide) rfl ?_
        exact E_round (k + 1, F', m) ⟨by omega, j2, j3⟩ (by show prods.length - (k + 1) < prods.length - k; omega) (by repeat' (first | exact True.intro | refine And.intro rfl ?_)) rfl
      · rw [if_pos rfl] at j3
        have hok2 := addF_ok (i := hn) j2 hbl
        have hadd := fun w' B' hm => add2_calls n gF cF F' hn bg w' B' j2 hp1.2 hbl hm
        generalize addF F' hn bg = ad at *
        obtain ⟨F2, ch⟩ := ad
        dsimp only at *
        repeat (first
          | refine qv rfl (qp rfl) rfl rfl ?_ | refine TL_nil ?_ | refine T_seq ?_ | refine T_region ?_ | refine qcT rfl ?_ | refine qcF rfl ?_ | refine T_skip ?_
          | refine T_exit ?_ | refine T_block ?_ | refine E_then ?_ | refine E_thenX ?_ | refine E_thenR ?_ | refine E_blockN ?_ | refine E_blockR ?_
          | refine E_blockX ?_ | refine E_blockO rfl ?_ | refine qs rfl rfl rfl rfl rfl rfl ?_
          | ((try refine qg rfl rfl rfl ?_); first | refine qv rfl (qp rfl) rfl rfl ?_ | refine qv rfl (qlen Und.eq rfl) rfl rfl ?_ | refine qv rfl (qfld FldC.fld rfl rfl) rfl rfl ?_ | refine qv rfl (rr_lss rfl rfl (qT (by omega))) rfl rfl ?_ | refine qv rfl (rr_lss rfl rfl (qF (by omega))) rfl rfl ?_ | refine qv rfl (rr_eql rfl rfl (qT (by omega))) rfl rfl ?_ | refine qv rfl (rr_eql rfl rfl (qF (by omega))) rfl rfl ?_ | refine qv rfl (rr_add64 rfl rfl (by omega) (by omega) rfl) rfl rfl ?_))
        refine T_ord ([blkO g3 (facV (vRow n gE cE) (vRow n gF cF) (vRow n gW cW) vR (vRow n gM cM)).cells 67, blkO g6 #[.int .i64 (hn : Int), .slice bb body.length cb] 46]) (.calm 0 (.calm 1 (.calm 2 (.calm 3 (.calm 4 (.calm 5 (.calm 6 (.one 7 (.one 8 (.calm 9 (.calm 10 (.calm 11 (.calm 12 (.done)))))))))))))) (sub_pick [5, 6] (by decide) rfl) (by kernel_rfl) (by kernel_rfl) (by intro c a d v w h; cases d <;> exact h) ?_
        repeat (first
          | ((first | refine TW_plain rfl rfl ?_ | refine TW_gmet rfl rfl rfl rfl ?_); first | refine TN_val (qp rfl) rfl rfl ?_ | refine TN_val (rr_load1 TyC.ty rfl (at_blk (i := 0) rfl rfl)) rfl rfl ?_ | refine TN_val (rr_load1 TyC.ty rfl (at_blk (i := 1) rfl rfl)) rfl rfl ?_ | refine TN_val (rr_loadB (i := 0) TyC.ty rfl rfl rfl) rfl rfl ?_ | refine TN_val (qlen Und.eq rfl) rfl rfl ?_ | refine TN_val (qfld FldC.fld rfl rfl) rfl rfl ?_ | refine TN_val (rr_lss rfl rfl (qT (by omega))) rfl rfl ?_ | refine TN_val (rr_lss rfl rfl (qF (by omega))) rfl rfl ?_ | refine TN_val (rr_eql rfl rfl (qT (by omega))) rfl rfl ?_ | refine TN_val (rr_eql rfl rfl (qF (by omega))) rfl rfl ?_ | refine TN_val (rr_add64 rfl rfl (by omega) (by omega) rfl) rfl rfl ?_)
          | refine TW_skip rfl rfl rfl rfl rfl rfl rfl ?_ | refine TW_done ?_)
        refine TW_one rfl ?_
        refine TL_call (he3 EntersC.en rfl rfl rfl rfl) (fun w hm => hbg _ _ hm (sl_row (i := 0) rfl w hm) (sl_row (i := 1) rfl w hm)) rfl rfl rfl ?_
        intro _ _
        conv => arg 8; simp only [zA, zB, zC, zD, zE, zF, zG, zH, zI, rowS, ret, id_eq]
        refine TW_on (sub_pick [5, 6] (by decide) rfl) ?_
        refine TW_one rfl ?_
        refine TL_callB [1] [0, 2, 3, 4, 5, 6] (by decide) rfl rfl (he3 EntersC.en rfl rfl rfl rfl) (fun w hm hb => hadd w _ hb) rfl rfl rfl ?_
        intro _ _
        conv => arg 8; simp only [zA, zB, zC, zD, zE, zF, zG, zH, zI, rowS, ret, id_eq]
        refine TW_on (sub_pick [4, 5] (by decide) rfl) ?_
        cases ch
        · repeat (first
            | ((first | refine TW_plain rfl rfl ?_ | refine TW_gmet rfl rfl rfl rfl ?_); first | refine TN_val (qp rfl) rfl rfl ?_ | refine TN_val (qlen Und.eq rfl) rfl rfl ?_ | refine TN_val (qfld FldC.fld rfl rfl) rfl rfl ?_ | refine TN_val (rr_lss rfl rfl (qT (by omega))) rfl rfl ?_ | refine TN_val (rr_lss rfl rfl (qF (by omega))) rfl rfl ?_ | refine TN_val (rr_eql rfl rfl (qT (by omega))) rfl rfl ?_ | refine TN_val (rr_eql rfl rfl (qF (by omega))) rfl rfl ?_ | refine TN_val (rr_add64 rfl rfl (by omega) (by omega) rfl) rfl rfl ?_)
            | refine TW_skip rfl rfl rfl rfl rfl rfl rfl ?_ | refine TW_done ?_)
          repeat (first
            | refine qv rfl (qp rfl) rfl rfl ?_ | refine TL_nil ?_ | refine T_seq ?_ | refine T_region ?_ | refine qcT rfl ?_ | refine qcF rfl ?_ | refine T_skip ?_
            | refine T_exit ?_ | refine T_block ?_ | refine E_then ?_ | refine E_thenX ?_ | refine E_thenR ?_ | refine E_blockN ?_ | refine E_blockR ?_
            | refine E_blockX ?_ | refine E_blockO rfl ?_ | refine qs rfl rfl rfl rfl rfl rfl ?_
            | ((try refine qg rfl rfl rfl ?_); first | refine qv rfl (qp rfl) rfl rfl ?_ | refine qv rfl (qlen Und.eq rfl) rfl rfl ?_ | refine qv rfl (qfld FldC.fld rfl rfl) rfl rfl ?_ | refine qv rfl (rr_lss rfl rfl (qT (by omega))) rfl rfl ?_ | refine qv rfl (rr_lss rfl rfl (qF (by omega))) rfl rfl ?_ | refine qv rfl (rr_eql rfl rfl (qT (by omega))) rfl rfl ?_ | refine qv rfl (rr_eql rfl rfl (qF (by omega))) rfl rfl ?_ | refine qv rfl (rr_add64 rfl rfl (by omega) (by omega) rfl) rfl rfl ?_))
          refine E_pick [0, 6, 1, 2, 3, 4] (by decide) rfl ?_
          exact E_round (k + 1, F2, false || m) ⟨by omega, hok2, j3⟩ (by show prods.length - (k + 1) < prods.length - k; omega) (by repeat' (first | exact True.intro | refine And.intro rfl ?_)) rfl
        · repeat (first
            | ((first | refine TW_plain rfl rfl ?_ | refine TW_gmet rfl rfl rfl rfl ?_); first | refine TN_val (qp rfl) rfl rfl ?_ | refine TN_val (qlen Und.eq rfl) rfl rfl ?_ | refine TN_val (qfld FldC.fld rfl rfl) rfl rfl ?_ | refine TN_val (rr_lss rfl rfl (qT (by omega))) rfl rfl ?_ | refine TN_val (rr_lss rfl rfl (qF (by omega))) rfl rfl ?_ | refine TN_val (rr_eql rfl rfl (qT (by omega))) rfl rfl ?_ | refine TN_val (rr_eql rfl rfl (qF (by omega))) rfl rfl ?_ | refine TN_val (rr_add64 rfl rfl (by omega) (by omega) rfl) rfl rfl ?_)
            | refine TW_skip rfl rfl rfl rfl rfl rfl rfl ?_ | refine TW_done ?_)
          repeat (first
            | refine qv rfl (qp rfl) rfl rfl ?_ | refine TL_nil ?_ | refine T_seq ?_ | refine T_region ?_ | refine qcT rfl ?_ | refine qcF rfl ?_ | refine T_skip ?_
            | refine T_exit ?_ | refine T_block ?_ | refine E_then ?_ | refine E_thenX ?_ | refine E_thenR ?_ | refine E_blockN ?_ | refine E_blockR ?_
            | refine E_blockX ?_ | refine E_blockO rfl ?_ | refine qs rfl rfl rfl rfl rfl rfl ?_
            | ((try refine qg rfl rfl rfl ?_); first | refine qv rfl (qp rfl) rfl rfl ?_ | refine qv rfl (qlen Und.eq rfl) rfl rfl ?_ | refine qv rfl (qfld FldC.fld rfl rfl) rfl rfl ?_ | refine qv rfl (rr_lss rfl rfl (qT (by omega))) rfl rfl ?_ | refine qv rfl (rr_lss rfl rfl (qF (by omega))) rfl rfl ?_ | refine qv rfl (rr_eql rfl rfl (qT (by omega))) rfl rfl ?_ | refine qv rfl (rr_eql rfl rfl (qF (by omega))) rfl rfl ?_ | refine qv rfl (rr_add64 rfl rfl (by omega) (by omega) rfl) rfl rfl ?_))
          refine E_pick [0, 6, 1, 2, 3, 4] (by decide) rfl ?_
          exact E_round (k + 1, F2, true || m) ⟨by omega, hok2, j3⟩ (by show prods.length - (k + 1) < prods.length - k; omega) (by repeat' (first | exact True.intro | refine And.intro rfl ?_)) rfl
    · rw [List.drop_of_length_le (by omega)] at j3
      have j3 : (F', m) = (Fx, mx) := j3
      simp only [Prod.mk.injEq] at j3
      obtain ⟨rfl, rfl⟩ := j3
      obtain ⟨d1, d2, d3, d4⟩ := hdone
      repeat (first
        | refine qv rfl (qp rfl) rfl rfl ?_ | refine TL_nil ?_ | refine T_seq ?_ | refine T_region ?_ | refine qcT rfl ?_ | refine qcF rfl ?_ | refine T_skip ?_
        | refine T_exit ?_ | refine T_block ?_ | refine E_then ?_ | refine E_thenX ?_ | refine E_thenR ?_ | refine E_blockN ?_ | refine E_blockR ?_
        | refine E_blockX ?_ | refine E_blockO rfl ?_ | refine qs rfl rfl rfl rfl rfl rfl ?_
        | ((try refine qg rfl rfl rfl ?_); first | refine qv rfl (qp rfl) rfl rfl ?_ | refine qv rfl (qlen Und.eq rfl) rfl rfl ?_ | refine qv rfl (qfld FldC.fld rfl rfl) rfl rfl ?_ | refine qv rfl (rr_lss rfl rfl (qT (by omega))) rfl rfl ?_ | refine qv rfl (rr_lss rfl rfl (qF (by omega))) rfl rfl ?_ | refine qv rfl (rr_eql rfl rfl (qT (by omega))) rfl rfl ?_ | refine qv rfl (rr_eql rfl rfl (qF (by omega))) rfl rfl ?_ | refine qv rfl (rr_add64 rfl rfl (by omega) (by omega) rfl) rfl rfl ?_))
      exact E_round (F', m) ⟨d1, d2, d3⟩ d4 (by repeat' (first | exact True.intro | refine And.intro rfl ?_)) rfl
end Go.Proofs.Ytkkiopmdcolobaa.eng

/- FactsO -/
namespace Go.Proofs.Ytkkiopmdcolobaa.eng
open Go.RowKit kit mix gramL factsL
def ofS (n : Nat) (l : List gramL.Prod) : FS := factsL.fix (stepS l) (lackS n) ⟨List.replicate n false, (List.replicate n false).set 0 true, List.replicate n false, false⟩
def ofF (n : Nat) (l : List gramL.Prod) : List Nat := setsF (ofS n l).E (ofS n l).M l (List.replicate n 0)
def ofW (n : Nat) (l : List gramL.Prod) : List Nat := setsW (ofS n l).E (ofF n l) l ((List.replicate n 0).set 0 9223372036854775808)
structure Rows5 extends Rows4 where
  gR : Nat
  cR : Nat
def Rows5.val (n : Nat) (x : Rows5) : Value := facV (vRow n x.gE x.cE) (vRow n x.gF x.cF) (vRow n x.gW x.cW) (vRow n x.gR x.cR) (vRow n x.gM x.cM)
theorem build_fac (a b c d e : Option Addr) (n1 n2 n3 n4 n5 c1 c2 c3 c4 c5 : Nat) (w : World) : (Instr.build 67 #[(0, .slice a n1 c1), (1, .slice b n2 c2), (2, .slice c n3 c3), (3, .slice d n4 c4), (4, .slice e n5 c5)]).run Try.prog w = .ok (.agg #[.slice a n1 c1, .slice b n2 c2, .slice c n3 c3, .slice d n4 c4, .slice e n5 c5]) w := by
  go_simp
def mkB (i d n : Nat) : Mk := ⟨i, d, fun g => .slice (some ⟨g, 0, none⟩) n n, fun g => blkO g (madeCells #[.bool false] (n * 1)) 4⟩
def mkN (i d n : Nat) : Mk := ⟨i, d, fun g => .slice (some ⟨g, 0, none⟩) n n, fun g => blkO g (madeCells #[.int .u64 0] (n * 1)) 81⟩
def mkF (i d : Nat) : Mk := ⟨i, d, fun g => .pointer (some ⟨g, 0, none⟩), fun g => blkO g #[.slice none 0 0, .slice none 0 0, .slice none 0 0, .slice none 0 0, .slice none 0 0] 67⟩
theorem T_rowMade {P : Program} {k : Nat} {W : Base} {Q : Exit → Act → World → Prop} {fr : Fr} {L : List Own} {c : Code} {i g m : Nat} {e : TypeId} {z : Value} (hi : L[i]? = some (blkO g (madeCells #[z] (m * 1)) e)) (hm : m ≤ 9223372036854775807) (h : T P k W c Q fr (L.set i (rowO e 1 (.slice (some ⟨g, 0, none⟩) m m) m (List.replicate m z)))) : T P k W c Q fr L :=
  T_toRowN 1 hi (by rw [size_madeCells]) (Nat.le_refl _) hm (by
    have : (madeCells #[z] (m * 1)).toList.take (m * 1) = List.replicate m z := by
      rw [made1, Nat.mul_one, List.take_of_length_le (by simp)]
    rw [this]; exact h)
set_option maxHeartbeats 8000000 in
theorem of_calls (v : Value) (g : Gram) (w : World) (h : GraR (fun k => k < w.heap.size) w v g) (hck : checkG g = 0) (n : Nat) (hn : g.nons = n) :
    Calls Try.prog 19 #[v] w (MeetsB ⟨fun (_ : Rows5) => True, fun x => .tuple #[x.val n, .int .i64 0], fun x => [rowBn n x.gE x.cE (ofS n g.prods).E, rowNn n x.gF x.cF (ofF n g.prods), rowNn n x.gW x.cW (ofW n g.prods), rowBn n x.gR x.cR (ofS n g.prods).R, rowBn n x.gM x.cM (ofS n g.prods).M]⟩ w) := by
  obtain ⟨n1, n2, _, _, hlen, _⟩ := checkG_ok hck
  have hcc := fun w' L (hm : Mem w L w') => checkG_calls v g w' (h.gr ((Old.self w).mem hm))
  rw [hck] at hcc
  have h0 := h
  obtain ⟨vp, rfl, h1, _⟩ := h
  obtain ⟨bp, cp, rfl, hcp, hmp, hrp⟩ := h1
  unfold maxLen at hmp
  obtain ⟨t, nn, prods⟩ := g
  dsimp only at *
  subst hn
  refine enter (args := [graV t (n : Int) (.slice bp prods.length cp)]) (n := 39) Try.func19 rfl rfl rfl ?_
  refine T_seq (T_region (TL_box rfl rfl rfl fun g1 => TL_new rfl fun g2 => ?_))
  conv => arg 8; simp only [zA, zB, zC, zD, zE, zF, zG, zH, zI, rowS, ret, id_eq]
  repeat (first
    | refine qv rfl (qp rfl) rfl rfl ?_ | refine TL_nil ?_ | refine T_seq ?_ | refine T_region ?_ | refine qcT rfl ?_ | refine qcF rfl ?_ | refine T_skip ?_
    | refine T_exit ?_ | refine T_ret ?_ | refine T_block ?_ | refine E_then ?_ | refine E_thenX ?_ | refine E_thenR ?_ | refine E_blockN ?_
    | refine E_blockR ?_ | refine E_blockX ?_ | refine E_blockO rfl ?_ | refine qv rfl (rr_loadB (i := 0) TyC.ty rfl rfl rfl) rfl rfl ?_
    | refine qv rfl (qfld FldC.fld rfl rfl) rfl rfl ?_ | refine qv rfl (rr_neq rfl rfl (qT (by omega))) rfl rfl ?_
    | refine qv rfl (rr_neq rfl rfl (qF (by omega))) rfl rfl ?_)
  refine TL_call (he1 EntersC.en rfl rfl) (fun w hm => hcc _ _ hm) rfl rfl rfl ?_
  intro _ _
  conv => arg 8; simp only [zA, zB, zC, zD, zE, zF, zG, zH, zI, rowS, ret, id_eq]
  repeat (first
    | refine qv rfl (qp rfl) rfl rfl ?_ | refine TL_nil ?_ | refine T_seq ?_ | refine T_region ?_ | refine qcT rfl ?_ | refine qcF rfl ?_ | refine T_skip ?_
    | refine T_exit ?_ | refine T_ret ?_ | refine T_block ?_ | refine E_then ?_ | refine E_thenX ?_ | refine E_thenR ?_ | refine E_blockN ?_
    | refine E_blockR ?_ | refine E_blockX ?_ | refine E_blockO rfl ?_ | refine qv rfl (rr_load1 TyC.ty rfl (at_blk (i := 0) rfl rfl)) rfl rfl ?_
    | refine qv rfl (qfld FldC.fld rfl rfl) rfl rfl ?_ | refine qv rfl (rr_neq rfl rfl (qT (by omega))) rfl rfl ?_
    | refine qv rfl (rr_neq rfl rfl (qF (by omega))) rfl rfl ?_)
  refine T_midq (ι := Nat × Nat × Nat × Nat × Nat × Nat) (fun _ => True) (fun (_, _, _, _, _, g6) => [(1, .pointer (some ⟨g1, 0, none⟩)), (2, .pointer (some ⟨g2, 0, none⟩)), (6, .pointer (some ⟨g6, 0, none⟩))])
    (fun (gE, gF, gW, gR, gM, g6) => [blkO g1 (graV t (n : Int) (.slice bp prods.length cp)).cells 24, blkO g2 #[.slice none 0 0, .slice none 0 0, .slice none 0 0, .slice none 0 0, .slice none 0 0] 67, blkO gE (madeCells #[.bool false] (n * 1)) 4, blkO gF (madeCells #[.int .u64 0] (n * 1)) 81, blkO gW (madeCells #[.int .u64 0] (n * 1)) 81, blkO gR (madeCells #[.bool false] (n * 1)) 4, blkO gM (madeCells #[.bool false] (n * 1)) 4, blkO g6 (facV (vRow n gE n) (vRow n gF n) (vRow n gW n) (vRow n gR n) (vRow n gM n)).cells 67]) ?_ ?_
  rotate_left
  · rintro ⟨gE, gF, gW, gR, gM, g6⟩ _
    dsimp only
    refine T_rowMade (i := 2) rfl (by omega) ?_
    refine T_rowMade (i := 3) rfl (by omega) ?_
    refine T_rowMade (i := 4) rfl (by omega) ?_
    refine T_rowMade (i := 5) rfl (by omega) ?_
    refine T_rowMade (i := 6) rfl (by omega) ?_
    conv => arg 7; simp only [List.set_cons_succ, List.set_cons_zero]
    rw [show List.replicate n (Value.bool false) = (List.replicate n false).map .bool by simp, show List.replicate n (Value.int .u64 0) = (List.replicate n 0).map bitV by simp [bitV]]
    have hn0 : 0 < n := by omega
    repeat (first
      | refine qv rfl (qp rfl) rfl rfl ?_ | refine TL_nil ?_ | refine T_seq ?_ | refine T_region ?_ | refine qcT rfl ?_ | refine qcF rfl ?_ | refine T_skip ?_
      | refine T_exit ?_ | refine T_ret ?_ | refine T_block ?_ | refine E_then ?_ | refine E_thenX ?_ | refine E_thenR ?_ | refine E_blockN ?_
      | refine E_blockR ?_ | refine E_blockX ?_ | refine E_blockO rfl ?_ | refine qv rfl (rr_load1 TyC.ty rfl (at_blk (i := 7) rfl rfl)) rfl rfl ?_
      | refine qv rfl (rr_idx1 (j := 0) Und.eq TyC.ty rfl rfl hn0) rfl rfl ?_ | refine qv rfl (qfld FldC.fld rfl rfl) rfl rfl ?_
      | refine qv rfl (rr_neq rfl rfl (qT (by omega))) rfl rfl ?_ | refine qv rfl (rr_neq rfl rfl (qF (by omega))) rfl rfl ?_)
    refine TL_storeRow (i := 5) TyC.ty rfl rfl rfl rfl rfl rfl (by simpa using hn0) ?_
    repeat (first
      | refine qv rfl (qp rfl) rfl rfl ?_ | refine TL_nil ?_ | refine T_seq ?_ | refine T_region ?_ | refine qcT rfl ?_ | refine qcF rfl ?_ | refine T_skip ?_
      | refine T_exit ?_ | refine T_ret ?_ | refine T_block ?_ | refine E_then ?_ | refine E_thenX ?_ | refine E_thenR ?_ | refine E_blockN ?_
      | refine E_blockR ?_ | refine E_blockX ?_ | refine E_blockO rfl ?_ | refine qv rfl (rr_load1 TyC.ty rfl (at_blk (i := 7) rfl rfl)) rfl rfl ?_
      | refine qv rfl (rr_idx1 (j := 0) Und.eq TyC.ty rfl rfl hn0) rfl rfl ?_ | refine qv rfl (qfld FldC.fld rfl rfl) rfl rfl ?_
      | refine qv rfl (rr_neq rfl rfl (qT (by omega))) rfl rfl ?_ | refine qv rfl (rr_neq rfl rfl (qF (by omega))) rfl rfl ?_)
    refine TL_storeRow (i := 4) TyC.ty rfl rfl rfl rfl rfl rfl (by simpa using hn0) ?_
    conv => arg 8; simp only [List.set_cons_succ, List.set_cons_zero, Nat.zero_add]
    repeat (first
      | refine qv rfl (qp rfl) rfl rfl ?_ | refine TL_nil ?_ | refine T_seq ?_ | refine T_region ?_ | refine qcT rfl ?_ | refine qcF rfl ?_ | refine T_skip ?_
      | refine T_exit ?_ | refine T_ret ?_ | refine T_block ?_ | refine E_then ?_ | refine E_thenX ?_ | refine E_thenR ?_ | refine E_blockN ?_
      | refine E_blockR ?_ | refine E_blockX ?_ | refine E_blockO rfl ?_ | refine qv rfl (qfld FldC.fld rfl rfl) rfl rfl ?_
      | refine qv rfl (rr_neq rfl rfl (qT (by omega))) rfl rfl ?_ | refine qv rfl (rr_neq rfl rfl (qF (by omega))) rfl rfl ?_)
    generalize hfin : ofS n prods = fin
    have hfine := fine_of (g := ⟨t, n, prods⟩) hck rfl
    have hfalls := fallsS hfine
    refine T_loop (ι := FS) (fun s => okR n s ∧ factsL.fix (stepS prods) (lackS n) s = fin) (fun _ => [(1, .pointer (some ⟨g1, 0, none⟩)), (2, .pointer (some ⟨g2, 0, none⟩)), (6, .pointer (some ⟨g6, 0, none⟩))])
      (fun s => [blkO g1 (graV t (n : Int) (.slice bp prods.length cp)).cells 24, blkO g2 #[.slice none 0 0, .slice none 0 0, .slice none 0 0, .slice none 0 0, .slice none 0 0] 67, rowBn n gE n s.E, rowNn n gF n (List.replicate n 0), rowNn n gW n ((List.replicate n 0).set 0 9223372036854775808), rowBn n gR n s.R, rowBn n gM n s.M, blkO g6 (facV (vRow n gE n) (vRow n gF n) (vRow n gW n) (vRow n gR n) (vRow n gM n)).cells 67])
      (fun s => lackS n s) ⟨List.replicate n false, (List.replicate n false).set 0 true, List.replicate n false, false⟩ ⟨⟨by simp, by simp, by simp⟩, hfin⟩ (by repeat' (first | exact True.intro | refine And.intro rfl ?_)) (by simp [rowBn, rowNn, bitV, List.map_set]) ?_
    rintro ⟨E, R, M, mo⟩ ⟨i1, i2⟩
    dsimp only at i2 ⊢
    have hrd := fun w' B' (ho : Old w B') hm => round_calls w _ ⟨t, n, prods⟩ h0 hck n rfl ⟨gE, n, gR, n, gM, n⟩ (vRow n gF n) (vRow n gW n) E R M i1.1 i1.2.1 i1.2.2 w' B' ho hm
    dsimp only at hrd
    repeat (first
      | refine qv rfl (qp rfl) rfl rfl ?_ | refine TL_nil ?_ | refine T_seq ?_ | refine T_region ?_ | refine qcT rfl ?_ | refine qcF rfl ?_ | refine T_skip ?_
      | refine T_exit ?_ | refine T_ret ?_ | refine T_block ?_ | refine E_then ?_ | refine E_thenX ?_ | refine E_thenR ?_ | refine E_blockN ?_
      | refine E_blockR ?_ | refine E_blockX ?_ | refine E_blockO rfl ?_ | refine qv rfl (rr_loadB (i := 0) TyC.ty rfl rfl rfl) rfl rfl ?_
      | refine qv rfl (rr_loadB (i := 7) TyC.ty rfl rfl rfl) rfl rfl ?_ | refine qv rfl (qfld FldC.fld rfl rfl) rfl rfl ?_
      | refine qv rfl (rr_neq rfl rfl (qT (by omega))) rfl rfl ?_ | refine qv rfl (rr_neq rfl rfl (qF (by omega))) rfl rfl ?_)
    refine TL_callB [2, 5, 6] [0, 1, 3, 4, 7] (by decide) rfl rfl (he2 EntersC.en rfl rfl rfl) (fun w' hm hb => hrd w' _ ((Old.self w).on hm (by intro o ho; simp at ho ⊢; rcases ho with h | h | h <;> simp [h])) hb) rfl rfl rfl ?_
    intro _ _
    conv => arg 8; simp only [zA, zB, zC, zD, zE, zF, zG, zH, zI, rowS, ret, id_eq]
    clear hrd
    have hk := roundL_grow prods ⟨E, R, M, false⟩ hfine i1
    have hgo : (roundL prods ⟨E, R, M, false⟩).more = true → factsL.fix (stepS prods) (lackS n) (roundL prods ⟨E, R, M, false⟩) = fin ∧ lackS n (roundL prods ⟨E, R, M, false⟩) < lackS n ⟨E, R, M, mo⟩ := fun c => ⟨by rw [← i2, fix_go hfalls i1 c]; rfl, hfalls.dec _ i1 c⟩
    have hst : (roundL prods ⟨E, R, M, false⟩).more = false → roundL prods ⟨E, R, M, false⟩ = fin := fun c => by rw [← i2, fix_stop (s := (⟨E, R, M, mo⟩ : FS)) c]; rfl
    generalize roundL prods ⟨E, R, M, false⟩ = r at *
    obtain ⟨E', R', M', m'⟩ := r
    dsimp only at hgo hst ⊢
    cases m'
    · have hst := hst rfl
      have hsets := fun w' B' (ho : Old w B') hm => sets_calls w _ ⟨t, n, prods⟩ h0 hck n rfl ⟨gE, n, gF, n, gW, n, gM, n⟩ (vRow n gR n) E' (List.replicate n 0) ((List.replicate n 0).set 0 9223372036854775808) M' hk.1.1 ⟨by simp, fun x hx => by rw [List.eq_of_mem_replicate hx]; decide⟩ ⟨by simp, fun x hx => by
        rcases List.mem_or_eq_of_mem_set hx with h | h
        · rw [List.eq_of_mem_replicate h]; decide
        · rw [h]; decide⟩ hk.1.2.2 w' B' ho hm
      dsimp only at hsets
      repeat (first
        | refine qv rfl (qp rfl) rfl rfl ?_ | refine TL_nil ?_ | refine T_seq ?_ | refine T_region ?_ | refine qcT rfl ?_ | refine qcF rfl ?_ | refine T_skip ?_
        | refine T_exit ?_ | refine T_ret ?_ | refine T_block ?_ | refine E_then ?_ | refine E_thenX ?_ | refine E_thenR ?_ | refine E_blockN ?_
        | refine E_blockR ?_ | refine E_blockX ?_ | refine E_blockO rfl ?_ | refine qv rfl (rr_loadB (i := 0) TyC.ty rfl rfl rfl) rfl rfl ?_
        | refine qv rfl (rr_loadB (i := 4) TyC.ty rfl rfl rfl) rfl rfl ?_ | refine qv rfl (qfld FldC.fld rfl rfl) rfl rfl ?_
        | refine qv rfl (rr_neq rfl rfl (qT (by omega))) rfl rfl ?_ | refine qv rfl (rr_neq rfl rfl (qF (by omega))) rfl rfl ?_)
      refine TL_callB [5, 2, 3, 7] [0, 1, 6, 4] (by decide) rfl rfl (he2 EntersC.en rfl rfl rfl) (fun w' hm hb => hsets w' _ ((Old.self w).on hm (by intro o ho; simp at ho ⊢; rcases ho with h | h | h | h <;> simp [h])) hb) rfl rfl rfl ?_
      intro _ _
      conv => arg 8; simp only [zA, zB, zC, zD, zE, zF, zG, zH, zI, rowS, ret, id_eq]
      repeat (first
        | refine qv rfl (qp rfl) rfl rfl ?_ | refine TL_nil ?_ | refine T_seq ?_ | refine T_region ?_ | refine qcT rfl ?_ | refine qcF rfl ?_ | refine T_skip ?_
        | refine T_exit ?_ | refine T_ret ?_ | refine T_block ?_ | refine E_then ?_ | refine E_thenX ?_ | refine E_thenR ?_ | refine E_blockN ?_
        | refine E_blockR ?_ | refine E_blockX ?_ | refine E_blockO rfl ?_ | refine qv rfl (rr_loadB (i := 3) TyC.ty rfl rfl rfl) rfl rfl ?_
        | refine qv rfl (qfld FldC.fld rfl rfl) rfl rfl ?_ | refine qv rfl (rr_neq rfl rfl (qT (by omega))) rfl rfl ?_
        | refine qv rfl (rr_neq rfl rfl (qF (by omega))) rfl rfl ?_)
      refine TL_storeB (i := 1) rfl rfl rfl rfl rfl rfl ?_
      conv => arg 8; simp only [zA, zB, zC, zD, zE, zF, zG, zH, zI, rowS, ret, id_eq]
      repeat (first
        | refine qv rfl (qp rfl) rfl rfl ?_ | refine TL_nil ?_ | refine T_seq ?_ | refine T_region ?_ | refine qcT rfl ?_ | refine qcF rfl ?_ | refine T_skip ?_
        | refine T_exit ?_ | refine T_ret ?_ | refine T_block ?_ | refine E_then ?_ | refine E_thenX ?_ | refine E_thenR ?_ | refine E_blockN ?_
        | refine E_blockR ?_ | refine E_blockX ?_ | refine E_blockO rfl ?_ | refine qv rfl (qfld FldC.fld rfl rfl) rfl rfl ?_
        | refine qv rfl (rr_neq rfl rfl (qT (by omega))) rfl rfl ?_ | refine qv rfl (rr_neq rfl rfl (qF (by omega))) rfl rfl ?_)
      subst hst
      have eF : ofF n prods = setsF E' M' prods (List.replicate n 0) := by unfold ofF; rw [hfin]
      have eW : ofW n prods = setsW E' (setsF E' M' prods (List.replicate n 0)) prods ((List.replicate n 0).set 0 9223372036854775808) := by unfold ofW; rw [eF, hfin]
      rw [eF, eW]
      refine E_retc2 (i := 1) rfl rfl rfl rfl (z := .int .i64 0) ?_ fun w' hm => ?_
      · rfl
      exact hm.meetsB (S := ⟨fun (_ : Rows5) => True, fun x => .tuple #[x.val n, .int .i64 0], fun x => [rowBn n x.gE x.cE E', rowNn n x.gF x.cF (setsF E' M' prods (List.replicate n 0)), rowNn n x.gW x.cW (setsW E' (setsF E' M' prods (List.replicate n 0)) prods ((List.replicate n 0).set 0 9223372036854775808)), rowBn n x.gR x.cR R', rowBn n x.gM x.cM M']⟩) ⟨⟨gE, n, gF, n, gW, n, gM, n⟩, gR, n⟩ trivial [4, 5, 6, 2, 7] (by decide) rfl
    · repeat (first
        | refine qv rfl (qp rfl) rfl rfl ?_ | refine TL_nil ?_ | refine T_seq ?_ | refine T_region ?_ | refine qcT rfl ?_ | refine qcF rfl ?_ | refine T_skip ?_
        | refine T_exit ?_ | refine T_ret ?_ | refine T_block ?_ | refine E_then ?_ | refine E_thenX ?_ | refine E_thenR ?_ | refine E_blockN ?_
        | refine E_blockR ?_ | refine E_blockX ?_ | refine E_blockO rfl ?_ | refine qv rfl (qfld FldC.fld rfl rfl) rfl rfl ?_
        | refine qv rfl (rr_neq rfl rfl (qT (by omega))) rfl rfl ?_ | refine qv rfl (rr_neq rfl rfl (qF (by omega))) rfl rfl ?_)
      refine E_pick [0, 1, 5, 2, 3, 6, 7, 4] (by decide) rfl ?_
      exact E_round ⟨E', R', M', true⟩ ⟨hk.1, (hgo rfl).1⟩ (hgo rfl).2 (by repeat' (first | exact True.intro | refine And.intro rfl ?_)) rfl
  refine T_ordX [] sub_nil (by kernel_rfl) (by kernel_rfl) (by intro c a d v w h; cases d <;> exact h) ?_
  refine TX_val 0 (by kernel_rfl) rfl (rr_move rfl) rfl rfl rfl ?_
  refine TX_val 2 (by kernel_rfl) rfl (rr_move rfl) rfl rfl rfl ?_
  refine TX_val 4 (by kernel_rfl) rfl (rr_move rfl) rfl rfl rfl ?_
  refine TX_val 6 (by kernel_rfl) rfl (rr_move rfl) rfl rfl rfl ?_
  refine TX_val 8 (by kernel_rfl) rfl (rr_move rfl) rfl rfl rfl ?_
  refine TX_many2 [mkB 1 16 n, mkN 3 18 n, mkN 5 20 n, mkB 7 22 n, mkB 9 24 n, mkF 11 6] (fun m => !Nat.beq m.i 11) 2 (by kernel_rfl) (by kernel_rfl) ?_ (fun q => ?_) fun q => ?_
  · intro m hm
    simp only [List.mem_cons, List.not_mem_nil, or_false] at hm
    rcases hm with rfl | rfl | rfl | rfl | rfl | rfl
    · exact makes_slice rfl rfl rfl (Nat.le_refl _) (by omega) (by omega) rfl
    · exact makes_slice rfl rfl rfl (Nat.le_refl _) (by omega) (by omega) rfl
    · exact makes_slice rfl rfl rfl (Nat.le_refl _) (by omega) (by omega) rfl
    · exact makes_slice rfl rfl rfl (Nat.le_refl _) (by omega) (by omega) rfl
    · exact makes_slice rfl rfl rfl (Nat.le_refl _) (by omega) (by omega) rfl
    · exact makes_new rfl rfl
  · simp only [mkB, mkN, mkF, List.map_cons, List.map_nil]
    generalize q 1 = gE
    generalize q 3 = gF
    generalize q 5 = gW
    generalize q 7 = gR
    generalize q 9 = gM
    generalize q 11 = g6
    clear q
    refine TX_tree (.calm 10 (.one 12 .done)) (by kernel_rfl) rfl ?_
    repeat (first
      | ((first | refine TW_plain rfl rfl ?_ | refine TW_gmet rfl rfl rfl rfl ?_); first | refine TN_val (qp rfl) rfl rfl ?_ | refine TN_val (rr_build rfl (build_fac _ _ _ _ _ _ _ _ _ _ _ _ _ _ _)) rfl rfl ?_ | refine TN_val (qfld FldC.fld rfl rfl) rfl rfl ?_ | refine TN_val (rr_neq rfl rfl (qT (by omega))) rfl rfl ?_ | refine TN_val (rr_neq rfl rfl (qF (by omega))) rfl rfl ?_)
      | refine TW_done ?_)
    refine TW_one rfl ?_
    refine TL_storeB (i := 7) rfl rfl rfl rfl rfl rfl ?_
    refine TW_on sub_nil ?_
    repeat (first
      | ((first | refine TW_plain rfl rfl ?_ | refine TW_gmet rfl rfl rfl rfl ?_); first | refine TN_val (qp rfl) rfl rfl ?_ | refine TN_val (qfld FldC.fld rfl rfl) rfl rfl ?_ | refine TN_val (rr_neq rfl rfl (qT (by omega))) rfl rfl ?_ | refine TN_val (rr_neq rfl rfl (qF (by omega))) rfl rfl ?_)
      | refine TW_done ?_)
    exact E_mid (gE, gF, gW, gR, gM, g6) trivial (by repeat' (first | exact True.intro | refine And.intro rfl ?_)) rfl
  · rw [show List.filter (fun m : Mk => !Nat.beq m.i 11) [mkB 1 16 n, mkN 3 18 n, mkN 5 20 n, mkB 7 22 n, mkB 9 24 n, mkF 11 6] = [mkB 1 16 n, mkN 3 18 n, mkN 5 20 n, mkB 7 22 n, mkB 9 24 n] from rfl]
    simp only [mkB, mkN, mkF, List.map_cons, List.map_nil]
    generalize q 1 = gE
    generalize q 3 = gF
    generalize q 5 = gW
    generalize q 7 = gR
    generalize q 9 = gM
    clear q
    refine TX_tree (.calm 10 (.one 11 (.one 12 .done))) (by kernel_rfl) (by kernel_rfl) ?_
    repeat (first
      | ((first | refine TW_plain rfl rfl ?_ | refine TW_gmet rfl rfl rfl rfl ?_); first | refine TN_val (qp rfl) rfl rfl ?_ | refine TN_val (rr_build rfl (build_fac _ _ _ _ _ _ _ _ _ _ _ _ _ _ _)) rfl rfl ?_ | refine TN_val (qfld FldC.fld rfl rfl) rfl rfl ?_ | refine TN_val (rr_neq rfl rfl (qT (by omega))) rfl rfl ?_ | refine TN_val (rr_neq rfl rfl (qF (by omega))) rfl rfl ?_)
      | refine TW_done ?_)
    refine TW_one rfl ?_
    refine TL_new rfl fun g6 => ?_
    refine TW_on sub_nil ?_
    refine TW_one rfl ?_
    refine TL_storeB (i := 7) rfl rfl rfl rfl rfl rfl ?_
    refine TW_on sub_nil ?_
    repeat (first
      | ((first | refine TW_plain rfl rfl ?_ | refine TW_gmet rfl rfl rfl rfl ?_); first | refine TN_val (qp rfl) rfl rfl ?_ | refine TN_val (qfld FldC.fld rfl rfl) rfl rfl ?_ | refine TN_val (rr_neq rfl rfl (qT (by omega))) rfl rfl ?_ | refine TN_val (rr_neq rfl rfl (qF (by omega))) rfl rfl ?_)
      | refine TW_done ?_)
    exact E_mid (gE, gF, gW, gR, gM, g6) trivial (by repeat' (first | exact True.intro | refine And.intro rfl ?_)) rfl
end Go.Proofs.Ytkkiopmdcolobaa.eng

/- FactsT -/
namespace Go.Proofs.Ytkkiopmdcolobaa.eng
open gramL factsL treeL countL
theorem fallsT {n : Nat} {l : List gramL.Prod} (hf : Fine n l) : Falls (stepS l) (fun s => okR n s ∧ s.R.getD 0 false = true) (lackS n) :=
  ⟨fun s hs => ⟨(fallsS hf).keep s hs.1, roundL_keep l ⟨s.E, s.R, s.M, false⟩ hs.2⟩, fun s hs => (fallsS hf).dec s hs.1⟩
theorem closed_of {g : Gram} {n : Nat} (hck : checkG g = 0) (hn : g.nons = n) : ClosedF g.prods (ofS n g.prods).E (ofF n g.prods) (ofW n g.prods) (ofS n g.prods).R (ofS n g.prods).M := by
  obtain ⟨_, _, a3, _⟩ := checkG_ok hck
  have hf := fine_of hck hn
  have hS : ClosedS g.prods (ofS n g.prods).E (ofS n g.prods).R (ofS n g.prods).M ∧ okR n (ofS n g.prods) ∧ (ofS n g.prods).R.getD 0 false = true := by
    obtain ⟨s', h1, h2, h3⟩ := fix_end (fallsT hf) _ ⟨List.replicate n false, (List.replicate n false).set 0 true, List.replicate n false, false⟩ ⟨⟨by simp, by simp, by simp⟩, by
      rw [List.getD_eq_getElem?_getD, List.getElem?_set_self (by simp; omega)]; rfl⟩ (Nat.le_refl _)
    have e : ofS n g.prods = roundL g.prods ⟨s'.E, s'.R, s'.M, false⟩ := h3
    obtain ⟨_, k2, k3, k4, k5⟩ := roundL_still g.prods ⟨s'.E, s'.R, s'.M, false⟩ h2
    have hk := (fallsT hf).keep s' h1
    rw [e]
    refine ⟨?_, hk⟩
    rw [k2, k3, k4]
    exact k5
  obtain ⟨hS1, hS2, hS3⟩ := hS
  have hF : okW n (ofF n g.prods) ∧ ∀ p ∈ g.prods, allF (ofS n g.prods).M p.2 true = true → (ofF n g.prods).getD p.1.toNat 0 ||| beginF (ofS n g.prods).E (ofF n g.prods) p.2 0 = (ofF n g.prods).getD p.1.toNat 0 := by
    obtain ⟨s', h1, h2, h3⟩ := fix_end (fallsF (E := (ofS n g.prods).E) (M := (ofS n g.prods).M) hf) _ (List.replicate n 0) ⟨by simp, fun x hx => by rw [List.eq_of_mem_replicate hx]; decide⟩ (Nat.le_refl _)
    obtain ⟨_, h4, h5⟩ := passF_still _ _ _ h2
    have h6 : ofF n g.prods = s' := by unfold ofF setsF; rw [h3]; exact h4
    rw [h6]; exact ⟨h1, h5⟩
  have hW : ((ofW n g.prods).getD 0 0).testBit 63 = true ∧ (∀ p ∈ g.prods, ∀ pre x post, p.2 = pre ++ x :: post → x.1 = 2 → (ofW n g.prods).getD x.2.toNat 0 ||| beginF (ofS n g.prods).E (ofF n g.prods) post ((ofW n g.prods).getD p.1.toNat 0) = (ofW n g.prods).getD x.2.toNat 0) ∧ okW n (ofW n g.prods) := by
    have hfl := fallsW (E := (ofS n g.prods).E) hF.1 hf
    have hfl2 : Falls (fun W => passW (ofS n g.prods).E (ofF n g.prods) g.prods W false) (fun W => okW n W ∧ (W.getD 0 0).testBit 63 = true) lack := ⟨fun s hs => ⟨hfl.keep s hs.1, passW_keep g.prods s false hs.2⟩, fun s hs => hfl.dec s hs.1⟩
    obtain ⟨s', h1, h2, h3⟩ := fix_end hfl2 _ ((List.replicate n 0).set 0 9223372036854775808) ⟨⟨by simp, fun x hx => by
      rcases List.mem_or_eq_of_mem_set hx with h | h
      · rw [List.eq_of_mem_replicate h]; decide
      · rw [h]; decide⟩, by rw [List.getD_eq_getElem?_getD, List.getElem?_set_self (by simp; omega)]; decide⟩ (Nat.le_refl _)
    obtain ⟨_, h4, h5⟩ := passW_still _ _ _ h2
    have h6 : ofW n g.prods = s' := by unfold ofW setsW; rw [h3]; exact h4
    rw [h6]
    exact ⟨h1.2, h5, h1.1⟩
  exact ⟨hS1, hF.2, hW.2.1, hS3, hW.1⟩
end Go.Proofs.Ytkkiopmdcolobaa.eng

/- Look -/
namespace Go.Proofs.Ytkkiopmdcolobaa.eng
open Go.RowKit kit mix gramL treeL factsL countL
theorem bits_andN {x y : Nat} (hx : x < 18446744073709551616) (hy : y < 18446744073709551616) : bits .and .u64 (x : Int) (y : Int) = ((x &&& y : Nat) : Int) := bits_and_u64_nat x y hx hy
theorem pick_mem {L : List Own} {R : List Nat} {o : Own} (h : o ∈ R.filterMap fun i => L[i]?) : o ∈ L := by
  obtain ⟨i, _, hi⟩ := List.mem_filterMap.1 h
  exact List.mem_of_getElem? hi
end Go.Proofs.Ytkkiopmdcolobaa.eng

/- GramM -/
namespace Go.Proofs.Ytkkiopmdcolobaa.eng
open Go.RowKit kit mix gramL
def prodsO (F : Nat → Prop) (vp : Value) (l : List gramL.Prod) : Own := shpO (sliceS prodS) F [vp] l
end Go.Proofs.Ytkkiopmdcolobaa.eng

/- FactsE -/
namespace Go.Proofs.Ytkkiopmdcolobaa.eng
open Go.RowKit kit mix gramL factsL
section
variable {P : Program} {n : Nat} {W : Base} {fr : Fr} {L : List Own} {dst : Option Tmp} {ty : TypeId} {pos : String} {after : Array Edge} {guard : Option (Nat × Bool)} {t u : TypeId} {x y : Operand} {k : IntKind} {m m' r : Int}
end
theorem meets_of {ι : Type} {S : Spec ι} {w w' : World} {e : Ending} (h : MeetsB S w e w') : Meets S w e w' := let ⟨x, h1, h2, h3⟩ := h; ⟨x, h1, h2, h3.below, h3.newer⟩
theorem prodsO_gra {F : Nat → Prop} {vp : Value} {l : List gramL.Prod} {w : World} {t n : Int} (ht : kit.okI64 t) (hn : kit.okI64 n) (h : (prodsO F vp l).holds w) : GraR (fun k => k < w.heap.size) w (graV t n vp) ⟨t, n, l⟩ := by
  obtain ⟨⟨v', hv, h1⟩, h2⟩ := h
  simp only [List.cons.injEq, and_true] at hv
  subst hv
  exact ⟨vp, rfl, h1.mono h2, ht, hn⟩
theorem build_sym (k q : Int) (w : World) : (Instr.build 47 #[(0, .int .i64 k), (1, .int .i64 q)]).run Try.prog w = .ok (.agg #[.int .i64 k, .int .i64 q]) w := by
  go_simp
theorem non_calls (q : Int) (w : World) : Calls Try.prog 13 #[.int .i64 q] w (Meets (ret (.agg (symC (2, q)).toArray)) w) := by
  refine enter (args := [.int .i64 q]) (n := 5) Try.func13 rfl rfl rfl ?_
  refine T_seq (T_region (TL_new rfl fun g => ?_))
  repeat (first
    | refine qv rfl (qp rfl) rfl rfl ?_ | refine TL_nil ?_ | refine T_seq ?_ | refine T_region ?_ | refine T_ret ?_ | refine E_then ?_ | refine E_thenR ?_
    | refine qv rfl (rr_build rfl (build_sym _ _)) rfl rfl ?_)
  refine TL_storeB (i := 0) rfl rfl rfl rfl rfl rfl ?_
  repeat (first
    | refine qv rfl (qp rfl) rfl rfl ?_ | refine TL_nil ?_ | refine T_seq ?_ | refine T_region ?_ | refine T_ret ?_ | refine E_then ?_ | refine E_thenR ?_)
  exact E_retc1 (i := 0) rfl rfl rfl rfl fun w hm => hm.ret
theorem term_calls (q : Int) (w : World) : Calls Try.prog 12 #[.int .i64 q] w (Meets (ret (.agg (symC (1, q)).toArray)) w) := by
  refine enter (args := [.int .i64 q]) (n := 5) Try.func12 rfl rfl rfl ?_
  refine T_seq (T_region (TL_new rfl fun g => ?_))
  repeat (first
    | refine qv rfl (qp rfl) rfl rfl ?_ | refine TL_nil ?_ | refine T_seq ?_ | refine T_region ?_ | refine T_ret ?_ | refine E_then ?_ | refine E_thenR ?_
    | refine qv rfl (rr_build rfl (build_sym _ _)) rfl rfl ?_)
  refine TL_storeB (i := 0) rfl rfl rfl rfl rfl rfl ?_
  repeat (first
    | refine qv rfl (qp rfl) rfl rfl ?_ | refine TL_nil ?_ | refine T_seq ?_ | refine T_region ?_ | refine T_ret ?_ | refine E_then ?_ | refine E_thenR ?_)
  exact E_retc1 (i := 0) rfl rfl rfl rfl fun w hm => hm.ret
def brkP : List gramL.Prod := [(0, []), (0, [(1, 0), (2, 0), (1, 1), (2, 0)])]
def brkG : Gram := ⟨2, 1, brkP⟩
def gramS (g : Gram) : Spec (Value × (Nat → Prop)) := ⟨fun _ => True, fun x => graV g.terms g.nons x.1, fun x => [prodsO x.2 x.1 g.prods]⟩
theorem build_prod0 (w : World) : (Instr.build 46 (#[] : Array (Nat × Value))).run Try.prog w = .ok (.agg #[.int .i64 0, .slice none 0 0]) w := by
  go_simp
theorem build_prod1 (b : Option Addr) (m c : Nat) (w : World) : (Instr.build 46 #[(1, .slice b m c)]).run Try.prog w = .ok (.agg #[.int .i64 0, .slice b m c]) w := by
  go_simp
theorem build_gra3 (t n : Int) (b : Option Addr) (m c : Nat) (w : World) : (Instr.build 24 #[(0, .int .i64 t), (1, .int .i64 n), (2, .slice b m c)]).run Try.prog w = .ok (.agg #[.int .i64 t, .int .i64 n, .slice b m c]) w := by
  go_simp
theorem rd_blk {w : World} {g : Nat} {cs : Array Value} {T : TypeId} (h : w.heap[g]? = some (.cells cs T (0, 0))) {off : Nat} {xs : List Value} (hx : ∀ (j : Nat) u, xs[j]? = some u → cs[off + j]? = some u) : Rd w g off xs := fun j u hj => by
  rw [cell_of_row w g (off + j) _ _ _ h]; exact hx j u hj
theorem ok0 : kit.okI64 0 := ⟨by decide, by decide⟩
theorem ok1 : kit.okI64 1 := ⟨by decide, by decide⟩
theorem ok2 : kit.okI64 2 := ⟨by decide, by decide⟩
theorem brk_slf {w : World} {g h : Nat} {T T' : TypeId} (hg : w.heap[g]? = some (.cells #[.int .i64 1, .int .i64 0, .int .i64 2, .int .i64 0, .int .i64 1, .int .i64 1, .int .i64 2, .int .i64 0] T (0, 0))) (hh : w.heap[h]? = some (.cells #[.int .i64 0, .slice none 0 0, .int .i64 0, .slice (some ⟨g, 0, none⟩) 4 4] T' (0, 0))) :
    SlF prodS (fun k => k = g ∨ k = h) w (.slice (some ⟨h, 0, none⟩) 2 2) brkP := by
  refine ⟨_, _, rfl, Nat.le_refl _, by decide, fun _ => ⟨h, 0, rfl, .inr rfl, fun i hi => ?_⟩⟩
  match i, hi with
  | 0, _ => exact ⟨[.int .i64 0, .slice none 0 0], ⟨[.int .i64 0], [.slice none 0 0], rfl, ⟨rfl, ok0⟩, _, rfl, SlF.nil⟩, rd_blk hh fun j u hj => by match j, hj with | 0, hj => exact hj | 1, hj => exact hj⟩
  | 1, _ =>
    refine ⟨[.int .i64 0, .slice (some ⟨g, 0, none⟩) 4 4], ⟨[.int .i64 0], [.slice (some ⟨g, 0, none⟩) 4 4], rfl, ⟨rfl, ok0⟩, _, rfl, ?_⟩, rd_blk hh fun j u hj => by match j, hj with | 0, hj => exact hj | 1, hj => exact hj⟩
    refine ⟨_, _, rfl, Nat.le_refl _, by decide, fun _ => ⟨g, 0, rfl, .inl rfl, fun i hi => ?_⟩⟩
    match i, hi with
    | 0, _ => exact ⟨_, ⟨rfl, ok1, ok0⟩, rd_blk hg fun j u hj => by match j, hj with | 0, hj => exact hj | 1, hj => exact hj⟩
    | 1, _ => exact ⟨_, ⟨rfl, ok2, ok0⟩, rd_blk hg fun j u hj => by match j, hj with | 0, hj => exact hj | 1, hj => exact hj⟩
    | 2, _ => exact ⟨_, ⟨rfl, ok1, ok1⟩, rd_blk hg fun j u hj => by match j, hj with | 0, hj => exact hj | 1, hj => exact hj⟩
    | 3, _ => exact ⟨_, ⟨rfl, ok2, ok0⟩, rd_blk hg fun j u hj => by match j, hj with | 0, hj => exact hj | 1, hj => exact hj⟩
attribute [local irreducible] Instr.build in
set_option maxHeartbeats 1000000 in
theorem brackets_calls (w : World) : Calls Try.prog 6 #[] w (Meets (gramS brkG) w) := by
  refine enter (args := []) (n := 10) Try.func6 rfl rfl rfl ?_
  refine T_seq (T_region (TL_new rfl fun g => ?_))
  repeat (first
    | refine TL_nil ?_ | refine T_seq ?_ | refine T_region ?_ | refine T_ret ?_ | refine E_then ?_ | refine E_thenR ?_
    | refine qv rfl (rr_build rfl build_prod0) rfl rfl ?_)
  refine TL_call (he1 EntersC.en rfl rfl) (fun w hm => term_calls 0 w) rfl rfl rfl ?_
  intro _ _
  repeat (first
    | refine TL_nil ?_ | refine T_seq ?_ | refine T_region ?_ | refine T_ret ?_ | refine E_then ?_ | refine E_thenR ?_)
  refine TL_call (he1 EntersC.en rfl rfl) (fun w hm => non_calls 0 w) rfl rfl rfl ?_
  intro _ _
  repeat (first
    | refine TL_nil ?_ | refine T_seq ?_ | refine T_region ?_ | refine T_ret ?_ | refine E_then ?_ | refine E_thenR ?_)
  refine TL_call (he1 EntersC.en rfl rfl) (fun w hm => term_calls 1 w) rfl rfl rfl ?_
  intro _ _
  repeat (first
    | refine TL_nil ?_ | refine T_seq ?_ | refine T_region ?_ | refine T_ret ?_ | refine E_then ?_ | refine E_thenR ?_)
  refine TL_call (he1 EntersC.en rfl rfl) (fun w hm => non_calls 0 w) rfl rfl rfl ?_
  intro _ _
  conv => arg 8; simp only [zA, zB, zC, zD, zE, zF, zG, zH, zI, rowS, ret, id_eq]
  refine TL_litN [.agg (symC (1, 0)).toArray, .agg (symC (2, 0)).toArray, .agg (symC (1, 1)).toArray, .agg (symC (2, 0)).toArray] rfl rfl rfl (by intro v hv; simp at hv; rcases hv with rfl | rfl | rfl | rfl <;> rfl) rfl rfl rfl fun g6 => ?_
  repeat (first
    | refine TL_nil ?_ | refine T_seq ?_ | refine T_region ?_ | refine T_ret ?_ | refine E_then ?_ | refine E_thenR ?_
    | refine qv rfl (rr_build rfl (build_prod1 _ _ _)) rfl rfl ?_)
  refine TL_litN [.agg #[.int .i64 0, .slice none 0 0], .agg #[.int .i64 0, .slice (some ⟨g6, 0, none⟩) 4 4]] rfl rfl rfl (by intro v hv; simp at hv; rcases hv with rfl | rfl <;> rfl) rfl rfl rfl fun g8 => ?_
  conv => arg 8; simp only [zA, zB, zC, zD, zE, zF, zG, zH, zI, rowS, ret, id_eq]
  repeat (first
    | refine TL_nil ?_ | refine T_seq ?_ | refine T_region ?_ | refine T_ret ?_ | refine E_then ?_ | refine E_thenR ?_
    | refine qv rfl (rr_build rfl (build_gra3 _ _ _ _ _)) rfl rfl ?_)
  refine TL_storeB (i := 0) rfl rfl rfl rfl rfl rfl ?_
  conv => arg 8; simp only [zA, zB, zC, zD, zE, zF, zG, zH, zI, rowS, ret, id_eq]
  repeat (first
    | refine TL_nil ?_ | refine T_seq ?_ | refine T_region ?_ | refine T_ret ?_ | refine E_then ?_ | refine E_thenR ?_)
  refine E_merge (prodsO (fun k => k = g6 ∨ k = g8) (.slice (some ⟨g8, 0, none⟩) 2 2) brkP) 1 2 [0] (by decide) rfl rfl rfl (fun k hk => hk.elim (fun h => by cases h) fun h => h.elim (fun h => .inl (.inl (by rw [h]; rfl))) fun h => .inr (.inl (by rw [h]; rfl))) (fun w h6 h8 => ?_) ?_
  · refine ⟨⟨_, rfl, brk_slf h6 h8⟩, fun k hk => ?_⟩
    rcases hk with rfl | rfl
    · exact (Array.getElem?_eq_some_iff.1 (show w.heap[k]? = some _ from h6)).1
    · exact (Array.getElem?_eq_some_iff.1 (show w.heap[k]? = some _ from h8)).1
  exact E_retc1 (i := 0) rfl rfl rfl rfl fun w hm => hm.meets (S := gramS brkG) (.slice (some ⟨g8, 0, none⟩) 2 2, fun k => k = g6 ∨ k = g8) trivial [1] (by decide) rfl
theorem build_fac0 (w : World) : (Instr.build 67 (#[] : Array (Nat × Value))).run Try.prog w = .ok (.agg #[.slice none 0 0, .slice none 0 0, .slice none 0 0, .slice none 0 0, .slice none 0 0]) w := by
  go_simp
/-- of a grammar that is none -/
theorem ofE_calls (v : Value) (g : Gram) (w : World) (h : GraR (fun k => k < w.heap.size) w v g) (h0 : checkG g ≠ 0) :
    Calls Try.prog 19 #[v] w (Meets (ret (.tuple #[facV (.slice none 0 0) (.slice none 0 0) (.slice none 0 0) (.slice none 0 0) (.slice none 0 0), .int .i64 (checkG g)])) w) := by
  have hck := fun w' (hg : Gr w w') => checkG_calls v g w' (h.gr hg)
  obtain ⟨vp, rfl, h1, _⟩ := h
  obtain ⟨bp, cp, rfl, hcp, hmp, hrp⟩ := h1
  generalize checkG g = e at *
  obtain ⟨t, n, prods⟩ := g
  dsimp only at *
  refine enter (args := [graV t n (.slice bp prods.length cp)]) (n := 39) Try.func19 rfl rfl rfl ?_
  refine T_seq (T_region (TL_box rfl rfl rfl fun g1 => TL_new rfl fun g2 => ?_))
  repeat (first
    | refine qv rfl (qp rfl) rfl rfl ?_ | refine TL_nil ?_ | refine T_seq ?_ | refine T_region ?_ | refine qcT rfl ?_ | refine qcF rfl ?_ | refine T_skip ?_
    | refine T_exit ?_ | refine T_ret ?_ | refine T_block ?_ | refine E_then ?_ | refine E_thenX ?_ | refine E_thenR ?_ | refine E_blockN ?_
    | refine E_blockR ?_ | refine E_blockX ?_ | refine E_blockO rfl ?_ | refine qv rfl (rr_loadB (i := 0) TyC.ty rfl rfl rfl) rfl rfl ?_
    | refine qv rfl (qfld FldC.fld rfl rfl) rfl rfl ?_ | refine qv rfl (rr_neq rfl rfl (qT (by omega))) rfl rfl ?_
    | refine qv rfl (rr_neq rfl rfl (qF (by omega))) rfl rfl ?_)
  refine TL_call (he1 EntersC.en rfl rfl) (fun w hm => hck _ hm.below) rfl rfl rfl ?_
  intro _ _
  conv => arg 8; simp only [zA, zB, zC, zD, zE, zF, zG, zH, zI, rowS, ret, id_eq]
  repeat (first
    | refine qv rfl (qp rfl) rfl rfl ?_ | refine TL_nil ?_ | refine T_seq ?_ | refine T_region ?_ | refine qcT rfl ?_ | refine qcF rfl ?_ | refine T_skip ?_
    | refine T_exit ?_ | refine T_ret ?_ | refine T_block ?_ | refine E_then ?_ | refine E_thenX ?_ | refine E_thenR ?_ | refine E_blockN ?_
    | refine E_blockR ?_ | refine E_blockX ?_ | refine E_blockO rfl ?_ | refine qv rfl (rr_build rfl build_fac0) rfl rfl ?_
    | refine qv rfl (qfld FldC.fld rfl rfl) rfl rfl ?_ | refine qv rfl (rr_neq rfl rfl (qT (by omega))) rfl rfl ?_
    | refine qv rfl (rr_neq rfl rfl (qF (by omega))) rfl rfl ?_)
  refine TL_storeB (i := 1) rfl rfl rfl rfl rfl rfl ?_
  repeat (first
    | refine qv rfl (qp rfl) rfl rfl ?_ | refine TL_nil ?_ | refine T_seq ?_ | refine T_region ?_ | refine qcT rfl ?_ | refine qcF rfl ?_ | refine T_skip ?_
    | refine T_exit ?_ | refine T_ret ?_ | refine T_block ?_ | refine E_then ?_ | refine E_thenX ?_ | refine E_thenR ?_ | refine E_blockN ?_
    | refine E_blockR ?_ | refine E_blockX ?_ | refine E_blockO rfl ?_ | refine qv rfl (qfld FldC.fld rfl rfl) rfl rfl ?_
    | refine qv rfl (rr_neq rfl rfl (qT (by omega))) rfl rfl ?_ | refine qv rfl (rr_neq rfl rfl (qF (by omega))) rfl rfl ?_)
  exact E_retc2 (i := 1) rfl rfl rfl rfl rfl fun w hm => hm.ret
end Go.Proofs.Ytkkiopmdcolobaa.eng

/- FactsF -/
namespace Go.Proofs.Ytkkiopmdcolobaa.eng
open Go.RowKit kit mix gramL factsL
/-- is a symbol wrong? -/
def badE (t n : Int) : List Sym → Int
  | [] => 0
  | x :: r => if right t n x = true then badE t n r else 1
theorem badE_ok {t n : Int} : ∀ {l : List Sym}, badE t n l = 0 → ∀ x ∈ l, right t n x = true
  | [], _, _, h => by cases h
  | y :: r, h, x, hx => by
    unfold badE at h
    split at h
    · rename_i c
      rcases List.mem_cons.1 hx with rfl | hx
      · exact c
      · exact badE_ok h x hx
    · cases h
theorem badE_of {t n : Int} : ∀ {l : List Sym}, (∀ x ∈ l, right t n x = true) → badE t n l = 0
  | [], _ => rfl
  | y :: r, h => by unfold badE; rw [if_pos (h y (by simp))]; exact badE_of fun x hx => h x (by simp [hx])
def begE (g : Gram) (body : List Sym) : Int := if checkG g ≠ 0 then checkG g else if 60 < body.length then 1 else badE g.terms g.nons body
def begV (g : Gram) (body : List Sym) (behind : Nat) : Nat := if begE g body = 0 then beginF (ofS g.nons.toNat g.prods).E (ofF g.nons.toNat g.prods) body behind else 0
theorem wrong_cases {t n : Int} {x : Sym} (h : right t n x = false) : (x.1 ≠ 1 ∧ x.1 ≠ 2) ∨ (x.1 = 1 ∧ x.2 < 0) ∨ (x.1 = 1 ∧ 0 ≤ x.2 ∧ t ≤ x.2) ∨ (x.1 = 2 ∧ x.2 < 0) ∨ (x.1 = 2 ∧ 0 ≤ x.2 ∧ n ≤ x.2) := by
  unfold right at h
  split at h
  · simp at h; omega
  · split at h
    · simp at h; omega
    · omega
theorem right_cases {t n : Int} {x : Sym} (h : right t n x = true) : (x.1 = 1 ∧ 0 ≤ x.2 ∧ x.2 < t) ∨ (x.1 = 2 ∧ 0 ≤ x.2 ∧ x.2 < n) := by
  unfold right at h
  split at h
  · simp at h; omega
  · split at h
    · simp at h; omega
    · simp at h
theorem ofW_ok {g : Gram} {n : Nat} (hck : checkG g = 0) (hn : g.nons = n) : okR n (ofS n g.prods) ∧ okW n (ofF n g.prods) := by
  have hf := fine_of hck hn
  constructor
  · obtain ⟨s', h1, h2, h3⟩ := fix_end (fallsS hf) _ ⟨List.replicate n false, (List.replicate n false).set 0 true, List.replicate n false, false⟩ ⟨by simp, by simp, by simp⟩ (Nat.le_refl _)
    unfold ofS
    rw [h3]
    exact (fallsS hf).keep _ h1
  · obtain ⟨s', h1, h2, h3⟩ := fix_end (fallsF (E := (ofS n g.prods).E) (M := (ofS n g.prods).M) hf) _ (List.replicate n 0) ⟨by simp, fun x hx => by rw [List.eq_of_mem_replicate hx]; decide⟩ (Nat.le_refl _)
    unfold ofF setsF
    rw [h3]
    exact (fallsF hf).keep _ h1
set_option maxHeartbeats 4000000 in
theorem factsBegin_calls (v vb : Value) (g : Gram) (body : List Sym) (behind : Nat) (w : World) (h : GraR (fun k => k < w.heap.size) w v g) (hs : Sl w vb body.length (body.flatMap symC)) (hb : behind < 18446744073709551616) :
    Calls Try.prog 26 #[v, vb, bitV behind] w (Meets (ret (.tuple #[bitV (begV g body behind), .int .i64 (begE g body)])) w) := by
  by_cases c0 : checkG g = 0
  · obtain ⟨_, _, k1, k2, k3, k4⟩ := checkG_ok c0
    obtain ⟨n, hn⟩ : ∃ n : Nat, g.nons = n := ⟨g.nons.toNat, by omega⟩
    have hof := fun w' (hg : Gr w w') => of_calls v g w' (h.gr hg) c0 n hn
    obtain ⟨hS, hF⟩ := ofW_ok c0 hn
    obtain ⟨vp, rfl, h1, _⟩ := h
    obtain ⟨bp, cp, rfl, hcp, hmp, hrp⟩ := h1
    clear hrp
    have hs0 := hs
    obtain ⟨bb, cb, rfl, h4, h5, h6⟩ := hs
    unfold maxLen at h5
    obtain ⟨t, nn, prods⟩ := g
    dsimp only at *
    subst hn
    have hbg := fun (vE vF vL vR vM : Value) w' (hg : Gr w w') (hE : Sl w' vE n ((ofS n prods).E.map .bool)) (hF2 : Sl w' vF n ((ofF n prods).map bitV)) hok => begin_calls vE vF vL vR vM _ (ofS n prods).E (ofF n prods) body behind w' (by rw [hS.1]; exact hE) (by rw [hF.1]; exact hF2) (hs0.gr hg) (by rw [hS.1, hF.1]) hok hF.2 hb
    rw [hF.1] at hbg
    have hV : begV ⟨t, n, prods⟩ body behind = if begE ⟨t, n, prods⟩ body = 0 then beginF (ofS n prods).E (ofF n prods) body behind else 0 := rfl
    have hE : begE ⟨t, n, prods⟩ body = if 60 < body.length then 1 else badE t n body := by
      unfold begE
      rw [if_neg (by rw [c0]; simp)]
    generalize begV ⟨t, n, prods⟩ body behind = rV at *
    generalize begE ⟨t, n, prods⟩ body = rE at *
    refine enter (args := [graV t (n : Int) (.slice bp prods.length cp), .slice bb body.length cb, bitV behind]) (n := 71) Try.func26 rfl rfl rfl ?_
    refine T_seq (T_region (TL_box rfl rfl rfl fun g3 => ?_))
    repeat (first
      | refine qv rfl (qp rfl) rfl rfl ?_ | refine TL_nil ?_ | refine T_seq ?_ | refine T_region ?_ | refine qcT rfl ?_ | refine qcF rfl ?_ | refine T_skip ?_
      | refine T_exit ?_ | refine T_ret ?_ | refine T_block ?_ | refine E_then ?_ | refine E_thenX ?_ | refine E_thenR ?_ | refine E_blockN ?_
      | refine E_blockR ?_ | refine E_blockX ?_ | refine E_blockO rfl ?_ | refine qs rfl rfl rfl rfl rfl rfl ?_
      | ((try refine qg rfl rfl rfl ?_); first | refine qv rfl (qp rfl) rfl rfl ?_ | refine qv rfl (rr_loadB (i := 0) TyC.ty rfl rfl rfl) rfl rfl ?_ | refine qv rfl (qlen Und.eq rfl) rfl rfl ?_ | refine qv rfl (qfld FldC.fld rfl rfl) rfl rfl ?_ | refine qv rfl (rr_lss rfl rfl (qT (by omega))) rfl rfl ?_ | refine qv rfl (rr_lss rfl rfl (qF (by omega))) rfl rfl ?_ | refine qv rfl (rr_gtr rfl rfl (qT (by omega))) rfl rfl ?_ | refine qv rfl (rr_gtr rfl rfl (qF (by omega))) rfl rfl ?_ | refine qv rfl (rr_neq rfl rfl (qT (by omega))) rfl rfl ?_ | refine qv rfl (rr_neq rfl rfl (qF (by omega))) rfl rfl ?_ | refine qv rfl (rr_add64 rfl rfl (by omega) (by omega) rfl) rfl rfl ?_ | refine qv rfl (rr_geq rfl rfl (qT (by omega))) rfl rfl ?_ | refine qv rfl (rr_geq rfl rfl (qF (by omega))) rfl rfl ?_ | refine qv rfl (rr_eql rfl rfl (qT (by omega))) rfl rfl ?_ | refine qv rfl (rr_eql rfl rfl (qF (by omega))) rfl rfl ?_))
    refine TL_call (he1 EntersC.en rfl rfl) (fun w' hm => (hof w' hm.below).mono fun e w2 h => meets_of h) rfl rfl rfl ?_
    intro x _
    conv => arg 8; simp only [zA, zB, zC, zD, zE, zF, zG, zH, zI, rowS, ret, id_eq, Rows5.val]
    repeat (first
      | refine qv rfl (qp rfl) rfl rfl ?_ | refine TL_nil ?_ | refine T_seq ?_ | refine T_region ?_ | refine qcT rfl ?_ | refine qcF rfl ?_ | refine T_skip ?_
      | refine T_exit ?_ | refine T_ret ?_ | refine T_block ?_ | refine E_then ?_ | refine E_thenX ?_ | refine E_thenR ?_ | refine E_blockN ?_
      | refine E_blockR ?_ | refine E_blockX ?_ | refine E_blockO rfl ?_ | refine qs rfl rfl rfl rfl rfl rfl ?_
      | ((try refine qg rfl rfl rfl ?_); first | refine qv rfl (qp rfl) rfl rfl ?_ | refine qv rfl (qlen Und.eq rfl) rfl rfl ?_ | refine qv rfl (qfld FldC.fld rfl rfl) rfl rfl ?_ | refine qv rfl (rr_lss rfl rfl (qT (by omega))) rfl rfl ?_ | refine qv rfl (rr_lss rfl rfl (qF (by omega))) rfl rfl ?_ | refine qv rfl (rr_gtr rfl rfl (qT (by omega))) rfl rfl ?_ | refine qv rfl (rr_gtr rfl rfl (qF (by omega))) rfl rfl ?_ | refine qv rfl (rr_neq rfl rfl (qT (by omega))) rfl rfl ?_ | refine qv rfl (rr_neq rfl rfl (qF (by omega))) rfl rfl ?_ | refine qv rfl (rr_add64 rfl rfl (by omega) (by omega) rfl) rfl rfl ?_ | refine qv rfl (rr_geq rfl rfl (qT (by omega))) rfl rfl ?_ | refine qv rfl (rr_geq rfl rfl (qF (by omega))) rfl rfl ?_ | refine qv rfl (rr_eql rfl rfl (qT (by omega))) rfl rfl ?_ | refine qv rfl (rr_eql rfl rfl (qF (by omega))) rfl rfl ?_))
    refine TL_new rfl fun g8 => ?_
    refine TL_storeB (i := 6) rfl rfl rfl rfl rfl rfl ?_
    conv => arg 8; simp only [zA, zB, zC, zD, zE, zF, zG, zH, zI, rowS, ret, id_eq]
    by_cases c1 : 60 < body.length
    · rw [if_pos c1] at hE
      subst hE
      rw [if_neg (by decide)] at hV
      subst hV
      repeat (first
        | refine qv rfl (qp rfl) rfl rfl ?_ | refine TL_nil ?_ | refine T_seq ?_ | refine T_region ?_ | refine qcT rfl ?_ | refine qcF rfl ?_ | refine T_skip ?_
        | refine T_exit ?_ | refine T_ret ?_ | refine T_block ?_ | refine E_then ?_ | refine E_thenX ?_ | refine E_thenR ?_ | refine E_blockN ?_
        | refine E_blockR ?_ | refine E_blockX ?_ | refine E_blockO rfl ?_ | refine qs rfl rfl rfl rfl rfl rfl ?_
        | ((try refine qg rfl rfl rfl ?_); first | refine qv rfl (qp rfl) rfl rfl ?_ | refine qv rfl (qlen Und.eq rfl) rfl rfl ?_ | refine qv rfl (qfld FldC.fld rfl rfl) rfl rfl ?_ | refine qv rfl (rr_lss rfl rfl (qT (by omega))) rfl rfl ?_ | refine qv rfl (rr_lss rfl rfl (qF (by omega))) rfl rfl ?_ | refine qv rfl (rr_gtr rfl rfl (qT (by omega))) rfl rfl ?_ | refine qv rfl (rr_gtr rfl rfl (qF (by omega))) rfl rfl ?_ | refine qv rfl (rr_neq rfl rfl (qT (by omega))) rfl rfl ?_ | refine qv rfl (rr_neq rfl rfl (qF (by omega))) rfl rfl ?_ | refine qv rfl (rr_add64 rfl rfl (by omega) (by omega) rfl) rfl rfl ?_ | refine qv rfl (rr_geq rfl rfl (qT (by omega))) rfl rfl ?_ | refine qv rfl (rr_geq rfl rfl (qF (by omega))) rfl rfl ?_ | refine qv rfl (rr_eql rfl rfl (qT (by omega))) rfl rfl ?_ | refine qv rfl (rr_eql rfl rfl (qF (by omega))) rfl rfl ?_))
      exact E_ret2 rfl rfl rfl fun w hm => hm.ret
    rw [if_neg c1] at hE
    repeat (first
      | refine qv rfl (qp rfl) rfl rfl ?_ | refine TL_nil ?_ | refine T_seq ?_ | refine T_region ?_ | refine qcT rfl ?_ | refine qcF rfl ?_ | refine T_skip ?_
      | refine T_exit ?_ | refine T_ret ?_ | refine T_block ?_ | refine E_then ?_ | refine E_thenX ?_ | refine E_thenR ?_ | refine E_blockN ?_
      | refine E_blockR ?_ | refine E_blockX ?_ | refine E_blockO rfl ?_ | refine qs rfl rfl rfl rfl rfl rfl ?_
      | ((try refine qg rfl rfl rfl ?_); first | refine qv rfl (qp rfl) rfl rfl ?_ | refine qv rfl (qlen Und.eq rfl) rfl rfl ?_ | refine qv rfl (qfld FldC.fld rfl rfl) rfl rfl ?_ | refine qv rfl (rr_lss rfl rfl (qT (by omega))) rfl rfl ?_ | refine qv rfl (rr_lss rfl rfl (qF (by omega))) rfl rfl ?_ | refine qv rfl (rr_gtr rfl rfl (qT (by omega))) rfl rfl ?_ | refine qv rfl (rr_gtr rfl rfl (qF (by omega))) rfl rfl ?_ | refine qv rfl (rr_neq rfl rfl (qT (by omega))) rfl rfl ?_ | refine qv rfl (rr_neq rfl rfl (qF (by omega))) rfl rfl ?_ | refine qv rfl (rr_add64 rfl rfl (by omega) (by omega) rfl) rfl rfl ?_ | refine qv rfl (rr_geq rfl rfl (qT (by omega))) rfl rfl ?_ | refine qv rfl (rr_geq rfl rfl (qF (by omega))) rfl rfl ?_ | refine qv rfl (rr_eql rfl rfl (qT (by omega))) rfl rfl ?_ | refine qv rfl (rr_eql rfl rfl (qF (by omega))) rfl rfl ?_))
    refine T_loop (ι := Nat) (fun k => k ≤ body.length ∧ rE = badE t n (body.drop k)) (fun k => [(1, .slice bb body.length cb), (2, bitV behind), (3, .pointer (some ⟨g3, 0, none⟩)), (8, .pointer (some ⟨g8, 0, none⟩)), (23, .slice bb body.length cb), (24, .int .i64 body.length), (25, .int .i64 (k : Int))])
      (fun _ => [blkO g3 (graV t (n : Int) (.slice bp prods.length cp)).cells 24, rowBn n x.gE x.cE (ofS n prods).E, rowNn n x.gF x.cF (ofF n prods), rowNn n x.gW x.cW (ofW n prods), rowBn n x.gR x.cR (ofS n prods).R, rowBn n x.gM x.cM (ofS n prods).M, blkO g8 (facV (vRow n x.gE x.cE) (vRow n x.gF x.cF) (vRow n x.gW x.cW) (vRow n x.gR x.cR) (vRow n x.gM x.cM)).cells 67]) (fun k => body.length - k) 0 ⟨Nat.zero_le _, hE⟩ (by repeat' (first | exact True.intro | refine And.intro rfl ?_)) rfl ?_
    rintro k ⟨i1, i2⟩
    by_cases c6 : k < body.length
    · obtain ⟨b, off, rfl, hr⟩ := h6 (by omega)
      have hat := fun L => at_el (L := L) SymS_len hr c6
      rw [List.drop_eq_getElem_cons c6, badE] at i2
      clear h6 hr hs0 hbg
      generalize body[k] = y at *
      cases r : right t n y
      · rw [if_neg (by rw [r]; decide)] at i2
        clear hE
        subst i2
        rw [if_neg (by decide)] at hV
        subst hV
        have r' := wrong_cases r
        obtain ⟨q, m⟩ := y
        dsimp only at r'
        rcases r' with r' | r' | r' | r' | r'
        all_goals
          repeat (first
            | refine qv rfl (qp rfl) rfl rfl ?_ | refine TL_nil ?_ | refine T_seq ?_ | refine T_region ?_ | refine qcT rfl ?_ | refine qcF rfl ?_ | refine T_skip ?_
            | refine T_exit ?_ | refine T_ret ?_ | refine T_block ?_ | refine E_then ?_ | refine E_thenX ?_ | refine E_thenR ?_ | refine E_blockN ?_
            | refine E_blockR ?_ | refine E_blockX ?_ | refine E_blockO rfl ?_ | refine qs rfl rfl rfl rfl rfl rfl ?_
            | ((try refine qg rfl rfl rfl ?_); first | refine qv rfl (qp rfl) rfl rfl ?_ | refine qv rfl (rr_idxc Und.eq TyC.ty rfl rfl c6) rfl rfl ?_ | refine qv rfl (rr_loadN TyC.ty rfl rfl (hat _)) rfl rfl ?_ | refine qv rfl (qlen Und.eq rfl) rfl rfl ?_ | refine qv rfl (qfld FldC.fld rfl rfl) rfl rfl ?_ | refine qv rfl (rr_lss rfl rfl (qT (by omega))) rfl rfl ?_ | refine qv rfl (rr_lss rfl rfl (qF (by omega))) rfl rfl ?_ | refine qv rfl (rr_gtr rfl rfl (qT (by omega))) rfl rfl ?_ | refine qv rfl (rr_gtr rfl rfl (qF (by omega))) rfl rfl ?_ | refine qv rfl (rr_neq rfl rfl (qT (by omega))) rfl rfl ?_ | refine qv rfl (rr_neq rfl rfl (qF (by omega))) rfl rfl ?_ | refine qv rfl (rr_add64 rfl rfl (by omega) (by omega) rfl) rfl rfl ?_ | refine qv rfl (rr_geq rfl rfl (qT (by omega))) rfl rfl ?_ | refine qv rfl (rr_geq rfl rfl (qF (by omega))) rfl rfl ?_ | refine qv rfl (rr_eql rfl rfl (qT (by omega))) rfl rfl ?_ | refine qv rfl (rr_eql rfl rfl (qF (by omega))) rfl rfl ?_))
          refine TL_new rfl fun g11 => ?_
          refine TL_storeB (i := 7) rfl rfl rfl rfl rfl rfl ?_
          conv => arg 8; simp only [zA, zB, zC, zD, zE, zF, zG, zH, zI, rowS, ret, id_eq]
          repeat (first
            | refine qv rfl (qp rfl) rfl rfl ?_ | refine TL_nil ?_ | refine T_seq ?_ | refine T_region ?_ | refine qcT rfl ?_ | refine qcF rfl ?_ | refine T_skip ?_
            | refine T_exit ?_ | refine T_ret ?_ | refine T_block ?_ | refine E_then ?_ | refine E_thenX ?_ | refine E_thenR ?_ | refine E_blockN ?_
            | refine E_blockR ?_ | refine E_blockX ?_ | refine E_blockO rfl ?_ | refine qs rfl rfl rfl rfl rfl rfl ?_
            | ((try refine qg rfl rfl rfl ?_); first | refine qv rfl (qp rfl) rfl rfl ?_ | refine qv rfl (rr_load1 TyC.ty rfl (at_blk (i := 7) rfl rfl)) rfl rfl ?_ | refine qv rfl (rr_load1 TyC.ty rfl (at_blk (i := 0) rfl rfl)) rfl rfl ?_ | refine qv rfl (qlen Und.eq rfl) rfl rfl ?_ | refine qv rfl (qfld FldC.fld rfl rfl) rfl rfl ?_ | refine qv rfl (rr_lss rfl rfl (qT (by omega))) rfl rfl ?_ | refine qv rfl (rr_lss rfl rfl (qF (by omega))) rfl rfl ?_ | refine qv rfl (rr_gtr rfl rfl (qT (by omega))) rfl rfl ?_ | refine qv rfl (rr_gtr rfl rfl (qF (by omega))) rfl rfl ?_ | refine qv rfl (rr_neq rfl rfl (qT (by omega))) rfl rfl ?_ | refine qv rfl (rr_neq rfl rfl (qF (by omega))) rfl rfl ?_ | refine qv rfl (rr_add64 rfl rfl (by omega) (by omega) rfl) rfl rfl ?_ | refine qv rfl (rr_geq rfl rfl (qT (by omega))) rfl rfl ?_ | refine qv rfl (rr_geq rfl rfl (qF (by omega))) rfl rfl ?_ | refine qv rfl (rr_eql rfl rfl (qT (by omega))) rfl rfl ?_ | refine qv rfl (rr_eql rfl rfl (qF (by omega))) rfl rfl ?_))
          exact E_ret2 rfl rfl rfl fun w hm => hm.ret
      · rw [if_pos r] at i2
        have r' := right_cases r
        obtain ⟨q, m⟩ := y
        dsimp only at r'
        rcases r' with r' | r'
        all_goals
          repeat (first
            | refine qv rfl (qp rfl) rfl rfl ?_ | refine TL_nil ?_ | refine T_seq ?_ | refine T_region ?_ | refine qcT rfl ?_ | refine qcF rfl ?_ | refine T_skip ?_
            | refine T_exit ?_ | refine T_ret ?_ | refine T_block ?_ | refine E_then ?_ | refine E_thenX ?_ | refine E_thenR ?_ | refine E_blockN ?_
            | refine E_blockR ?_ | refine E_blockX ?_ | refine E_blockO rfl ?_ | refine qs rfl rfl rfl rfl rfl rfl ?_
            | ((try refine qg rfl rfl rfl ?_); first | refine qv rfl (qp rfl) rfl rfl ?_ | refine qv rfl (rr_idxc Und.eq TyC.ty rfl rfl c6) rfl rfl ?_ | refine qv rfl (rr_loadN TyC.ty rfl rfl (hat _)) rfl rfl ?_ | refine qv rfl (qlen Und.eq rfl) rfl rfl ?_ | refine qv rfl (qfld FldC.fld rfl rfl) rfl rfl ?_ | refine qv rfl (rr_lss rfl rfl (qT (by omega))) rfl rfl ?_ | refine qv rfl (rr_lss rfl rfl (qF (by omega))) rfl rfl ?_ | refine qv rfl (rr_gtr rfl rfl (qT (by omega))) rfl rfl ?_ | refine qv rfl (rr_gtr rfl rfl (qF (by omega))) rfl rfl ?_ | refine qv rfl (rr_neq rfl rfl (qT (by omega))) rfl rfl ?_ | refine qv rfl (rr_neq rfl rfl (qF (by omega))) rfl rfl ?_ | refine qv rfl (rr_add64 rfl rfl (by omega) (by omega) rfl) rfl rfl ?_ | refine qv rfl (rr_geq rfl rfl (qT (by omega))) rfl rfl ?_ | refine qv rfl (rr_geq rfl rfl (qF (by omega))) rfl rfl ?_ | refine qv rfl (rr_eql rfl rfl (qT (by omega))) rfl rfl ?_ | refine qv rfl (rr_eql rfl rfl (qF (by omega))) rfl rfl ?_))
          refine TL_new rfl fun g11 => ?_
          refine TL_storeB (i := 7) rfl rfl rfl rfl rfl rfl ?_
          conv => arg 8; simp only [zA, zB, zC, zD, zE, zF, zG, zH, zI, rowS, ret, id_eq]
          repeat (first
            | refine qv rfl (qp rfl) rfl rfl ?_ | refine TL_nil ?_ | refine T_seq ?_ | refine T_region ?_ | refine qcT rfl ?_ | refine qcF rfl ?_ | refine T_skip ?_
            | refine T_exit ?_ | refine T_ret ?_ | refine T_block ?_ | refine E_then ?_ | refine E_thenX ?_ | refine E_thenR ?_ | refine E_blockN ?_
            | refine E_blockR ?_ | refine E_blockX ?_ | refine E_blockO rfl ?_ | refine qs rfl rfl rfl rfl rfl rfl ?_
            | ((try refine qg rfl rfl rfl ?_); first | refine qv rfl (qp rfl) rfl rfl ?_ | refine qv rfl (rr_load1 TyC.ty rfl (at_blk (i := 7) rfl rfl)) rfl rfl ?_ | refine qv rfl (rr_load1 TyC.ty rfl (at_blk (i := 0) rfl rfl)) rfl rfl ?_ | refine qv rfl (qlen Und.eq rfl) rfl rfl ?_ | refine qv rfl (qfld FldC.fld rfl rfl) rfl rfl ?_ | refine qv rfl (rr_lss rfl rfl (qT (by omega))) rfl rfl ?_ | refine qv rfl (rr_lss rfl rfl (qF (by omega))) rfl rfl ?_ | refine qv rfl (rr_gtr rfl rfl (qT (by omega))) rfl rfl ?_ | refine qv rfl (rr_gtr rfl rfl (qF (by omega))) rfl rfl ?_ | refine qv rfl (rr_neq rfl rfl (qT (by omega))) rfl rfl ?_ | refine qv rfl (rr_neq rfl rfl (qF (by omega))) rfl rfl ?_ | refine qv rfl (rr_add64 rfl rfl (by omega) (by omega) rfl) rfl rfl ?_ | refine qv rfl (rr_geq rfl rfl (qT (by omega))) rfl rfl ?_ | refine qv rfl (rr_geq rfl rfl (qF (by omega))) rfl rfl ?_ | refine qv rfl (rr_eql rfl rfl (qT (by omega))) rfl rfl ?_ | refine qv rfl (rr_eql rfl rfl (qF (by omega))) rfl rfl ?_))
          refine E_pick [0, 1, 2, 3, 4, 5, 6] (by decide) rfl ?_
          exact E_round (k + 1) ⟨by omega, i2⟩ (by show body.length - (k + 1) < body.length - k; omega) (by repeat' (first | exact True.intro | refine And.intro rfl ?_)) rfl
    · rw [List.drop_of_length_le (by omega)] at i2
      have i2 : rE = 0 := by rw [i2]; rfl
      have hall : ∀ x ∈ body, right t n x = true := badE_ok (hE.symm.trans i2)
      clear hE
      rw [if_pos i2] at hV
      subst i2 hV
      repeat (first
        | refine qv rfl (qp rfl) rfl rfl ?_ | refine TL_nil ?_ | refine T_seq ?_ | refine T_region ?_ | refine qcT rfl ?_ | refine qcF rfl ?_ | refine T_skip ?_
        | refine T_exit ?_ | refine T_ret ?_ | refine T_block ?_ | refine E_then ?_ | refine E_thenX ?_ | refine E_thenR ?_ | refine E_blockN ?_
        | refine E_blockR ?_ | refine E_blockX ?_ | refine E_blockO rfl ?_ | refine qs rfl rfl rfl rfl rfl rfl ?_
        | ((try refine qg rfl rfl rfl ?_); first | refine qv rfl (qp rfl) rfl rfl ?_ | refine qv rfl (rr_loadB (i := 6) TyC.ty rfl rfl rfl) rfl rfl ?_ | refine qv rfl (qlen Und.eq rfl) rfl rfl ?_ | refine qv rfl (qfld FldC.fld rfl rfl) rfl rfl ?_ | refine qv rfl (rr_lss rfl rfl (qT (by omega))) rfl rfl ?_ | refine qv rfl (rr_lss rfl rfl (qF (by omega))) rfl rfl ?_ | refine qv rfl (rr_gtr rfl rfl (qT (by omega))) rfl rfl ?_ | refine qv rfl (rr_gtr rfl rfl (qF (by omega))) rfl rfl ?_ | refine qv rfl (rr_neq rfl rfl (qT (by omega))) rfl rfl ?_ | refine qv rfl (rr_neq rfl rfl (qF (by omega))) rfl rfl ?_ | refine qv rfl (rr_add64 rfl rfl (by omega) (by omega) rfl) rfl rfl ?_ | refine qv rfl (rr_geq rfl rfl (qT (by omega))) rfl rfl ?_ | refine qv rfl (rr_geq rfl rfl (qF (by omega))) rfl rfl ?_ | refine qv rfl (rr_eql rfl rfl (qT (by omega))) rfl rfl ?_ | refine qv rfl (rr_eql rfl rfl (qF (by omega))) rfl rfl ?_))
      refine TL_call (he3 EntersC.en rfl rfl rfl rfl) (fun w hm => hbg _ _ _ _ _ w hm.below (sl_row (i := 1) rfl w hm) (sl_row (i := 2) rfl w hm) (fun x hx => by have := right_cases (hall x hx); omega)) rfl rfl rfl ?_
      intro _ _
      repeat (first
        | refine qv rfl (qp rfl) rfl rfl ?_ | refine TL_nil ?_ | refine T_seq ?_ | refine T_region ?_ | refine qcT rfl ?_ | refine qcF rfl ?_ | refine T_skip ?_
        | refine T_exit ?_ | refine T_ret ?_ | refine T_block ?_ | refine E_then ?_ | refine E_thenX ?_ | refine E_thenR ?_ | refine E_blockN ?_
        | refine E_blockR ?_ | refine E_blockX ?_ | refine E_blockO rfl ?_ | refine qs rfl rfl rfl rfl rfl rfl ?_
        | ((try refine qg rfl rfl rfl ?_); first | refine qv rfl (qp rfl) rfl rfl ?_ | refine qv rfl (qlen Und.eq rfl) rfl rfl ?_ | refine qv rfl (qfld FldC.fld rfl rfl) rfl rfl ?_ | refine qv rfl (rr_lss rfl rfl (qT (by omega))) rfl rfl ?_ | refine qv rfl (rr_lss rfl rfl (qF (by omega))) rfl rfl ?_ | refine qv rfl (rr_gtr rfl rfl (qT (by omega))) rfl rfl ?_ | refine qv rfl (rr_gtr rfl rfl (qF (by omega))) rfl rfl ?_ | refine qv rfl (rr_neq rfl rfl (qT (by omega))) rfl rfl ?_ | refine qv rfl (rr_neq rfl rfl (qF (by omega))) rfl rfl ?_ | refine qv rfl (rr_add64 rfl rfl (by omega) (by omega) rfl) rfl rfl ?_ | refine qv rfl (rr_geq rfl rfl (qT (by omega))) rfl rfl ?_ | refine qv rfl (rr_geq rfl rfl (qF (by omega))) rfl rfl ?_ | refine qv rfl (rr_eql rfl rfl (qT (by omega))) rfl rfl ?_ | refine qv rfl (rr_eql rfl rfl (qF (by omega))) rfl rfl ?_))
      exact E_ret2 rfl rfl rfl fun w hm => hm.ret
  · have hof := fun w' (hg : Gr w w') => ofE_calls v g w' (h.gr hg) c0
    have hE : begE g body = checkG g := by unfold begE; rw [if_pos c0]
    have hV : begV g body behind = 0 := by unfold begV; rw [hE, if_neg c0]
    rw [hE, hV]
    obtain ⟨vp, rfl, h1, _⟩ := h
    obtain ⟨bb, cb, rfl, _⟩ := hs
    generalize checkG g = e at *
    obtain ⟨t, n, prods⟩ := g
    dsimp only at *
    refine enter (args := [graV t n vp, .slice bb body.length cb, bitV behind]) (n := 71) Try.func26 rfl rfl rfl ?_
    refine T_seq (T_region (TL_box rfl rfl rfl fun g3 => ?_))
    repeat (first
      | refine qv rfl (qp rfl) rfl rfl ?_ | refine TL_nil ?_ | refine T_seq ?_ | refine T_region ?_ | refine qcT rfl ?_ | refine qcF rfl ?_ | refine T_skip ?_
      | refine T_exit ?_ | refine T_ret ?_ | refine T_block ?_ | refine E_then ?_ | refine E_thenX ?_ | refine E_thenR ?_ | refine E_blockN ?_
      | refine E_blockR ?_ | refine E_blockX ?_ | refine E_blockO rfl ?_ | refine qs rfl rfl rfl rfl rfl rfl ?_
      | ((try refine qg rfl rfl rfl ?_); first | refine qv rfl (qp rfl) rfl rfl ?_ | refine qv rfl (rr_loadB (i := 0) TyC.ty rfl rfl rfl) rfl rfl ?_ | refine qv rfl (qlen Und.eq rfl) rfl rfl ?_ | refine qv rfl (qfld FldC.fld rfl rfl) rfl rfl ?_ | refine qv rfl (rr_lss rfl rfl (qT (by omega))) rfl rfl ?_ | refine qv rfl (rr_lss rfl rfl (qF (by omega))) rfl rfl ?_ | refine qv rfl (rr_gtr rfl rfl (qT (by omega))) rfl rfl ?_ | refine qv rfl (rr_gtr rfl rfl (qF (by omega))) rfl rfl ?_ | refine qv rfl (rr_neq rfl rfl (qT (by omega))) rfl rfl ?_ | refine qv rfl (rr_neq rfl rfl (qF (by omega))) rfl rfl ?_ | refine qv rfl (rr_add64 rfl rfl (by omega) (by omega) rfl) rfl rfl ?_ | refine qv rfl (rr_geq rfl rfl (qT (by omega))) rfl rfl ?_ | refine qv rfl (rr_geq rfl rfl (qF (by omega))) rfl rfl ?_ | refine qv rfl (rr_eql rfl rfl (qT (by omega))) rfl rfl ?_ | refine qv rfl (rr_eql rfl rfl (qF (by omega))) rfl rfl ?_))
    refine TL_call (he1 EntersC.en rfl rfl) (fun w hm => hof _ hm.below) rfl rfl rfl ?_
    intro _ _
    repeat (first
      | refine qv rfl (qp rfl) rfl rfl ?_ | refine TL_nil ?_ | refine T_seq ?_ | refine T_region ?_ | refine qcT rfl ?_ | refine qcF rfl ?_ | refine T_skip ?_
      | refine T_exit ?_ | refine T_ret ?_ | refine T_block ?_ | refine E_then ?_ | refine E_thenX ?_ | refine E_thenR ?_ | refine E_blockN ?_
      | refine E_blockR ?_ | refine E_blockX ?_ | refine E_blockO rfl ?_ | refine qs rfl rfl rfl rfl rfl rfl ?_
      | ((try refine qg rfl rfl rfl ?_); first | refine qv rfl (qp rfl) rfl rfl ?_ | refine qv rfl (qlen Und.eq rfl) rfl rfl ?_ | refine qv rfl (qfld FldC.fld rfl rfl) rfl rfl ?_ | refine qv rfl (rr_lss rfl rfl (qT (by omega))) rfl rfl ?_ | refine qv rfl (rr_lss rfl rfl (qF (by omega))) rfl rfl ?_ | refine qv rfl (rr_gtr rfl rfl (qT (by omega))) rfl rfl ?_ | refine qv rfl (rr_gtr rfl rfl (qF (by omega))) rfl rfl ?_ | refine qv rfl (rr_neq rfl rfl (qT (by omega))) rfl rfl ?_ | refine qv rfl (rr_neq rfl rfl (qF (by omega))) rfl rfl ?_ | refine qv rfl (rr_add64 rfl rfl (by omega) (by omega) rfl) rfl rfl ?_ | refine qv rfl (rr_geq rfl rfl (qT (by omega))) rfl rfl ?_ | refine qv rfl (rr_geq rfl rfl (qF (by omega))) rfl rfl ?_ | refine qv rfl (rr_eql rfl rfl (qT (by omega))) rfl rfl ?_ | refine qv rfl (rr_eql rfl rfl (qF (by omega))) rfl rfl ?_))
    refine TL_new rfl fun g8 => ?_
    refine TL_storeB (i := 1) rfl rfl rfl rfl rfl rfl ?_
    repeat (first
      | refine qv rfl (qp rfl) rfl rfl ?_ | refine TL_nil ?_ | refine T_seq ?_ | refine T_region ?_ | refine qcT rfl ?_ | refine qcF rfl ?_ | refine T_skip ?_
      | refine T_exit ?_ | refine T_ret ?_ | refine T_block ?_ | refine E_then ?_ | refine E_thenX ?_ | refine E_thenR ?_ | refine E_blockN ?_
      | refine E_blockR ?_ | refine E_blockX ?_ | refine E_blockO rfl ?_ | refine qs rfl rfl rfl rfl rfl rfl ?_
      | ((try refine qg rfl rfl rfl ?_); first | refine qv rfl (qp rfl) rfl rfl ?_ | refine qv rfl (qlen Und.eq rfl) rfl rfl ?_ | refine qv rfl (qfld FldC.fld rfl rfl) rfl rfl ?_ | refine qv rfl (rr_lss rfl rfl (qT (by omega))) rfl rfl ?_ | refine qv rfl (rr_lss rfl rfl (qF (by omega))) rfl rfl ?_ | refine qv rfl (rr_gtr rfl rfl (qT (by omega))) rfl rfl ?_ | refine qv rfl (rr_gtr rfl rfl (qF (by omega))) rfl rfl ?_ | refine qv rfl (rr_neq rfl rfl (qT (by omega))) rfl rfl ?_ | refine qv rfl (rr_neq rfl rfl (qF (by omega))) rfl rfl ?_ | refine qv rfl (rr_add64 rfl rfl (by omega) (by omega) rfl) rfl rfl ?_ | refine qv rfl (rr_geq rfl rfl (qT (by omega))) rfl rfl ?_ | refine qv rfl (rr_geq rfl rfl (qF (by omega))) rfl rfl ?_ | refine qv rfl (rr_eql rfl rfl (qT (by omega))) rfl rfl ?_ | refine qv rfl (rr_eql rfl rfl (qF (by omega))) rfl rfl ?_))
    exact E_ret2 rfl rfl rfl fun w hm => hm.ret
end Go.Proofs.Ytkkiopmdcolobaa.eng

/- Fam -/
namespace Go.Proofs.Ytkkiopmdcolobaa.eng
open Go.RowKit kit mix
def famP (D : Nat → Prop) (f : Nat → Own) : Own where
  blk := none
  more := fun k => ∃ i, D i ∧ (f i).foot k
  holds := fun w => (∀ i, D i → (f i).holds w) ∧ ∀ i j, D i → D j → i ≠ j → ∀ k, (f i).foot k → ¬ (f j).foot k
  lt := fun w h k hk => by
    rcases hk with hk | ⟨i, hi, hk⟩
    · cases hk
    · exact (f i).lt w (h.1 i hi) k hk
  stay := fun w w' h hs hb => ⟨fun i hi => (f i).stay w w' (h.1 i hi) hs fun k hk => hb k (.inr ⟨i, hi, hk⟩), h.2⟩
theorem fam_congr {D D' : Nat → Prop} {f f' : Nat → Own} (h1 : ∀ k, D' k → D k) (h2 : ∀ k, D' k → f' k = f k) (w : World) (h : (famP D f).holds w) : (famP D' f').holds w :=
  ⟨fun i hi => by rw [h2 i hi]; exact h.1 i (h1 i hi), fun i j hi hj hij => by rw [h2 i hi, h2 j hj]; exact h.2 i j (h1 i hi) (h1 j hj) hij⟩
theorem fam_foot {D D' : Nat → Prop} {f f' : Nat → Own} (h1 : ∀ k, D' k → D k) (h2 : ∀ k, D' k → f' k = f k) (k : Nat) (h : (famP D' f').foot k) : (famP D f).foot k := by
  rcases h with h | ⟨i, hi, hk⟩
  · cases h
  · exact .inr ⟨i, h1 i hi, by rw [← h2 i hi]; exact hk⟩
/-- one more -/
def upd (f : Nat → Own) (i : Nat) (o : Own) : Nat → Own := fun k => if k = i then o else f k
theorem upd_ne {f : Nat → Own} {i j : Nat} {o : Own} (h : j ≠ i) : upd f i o j = f j := by unfold upd; rw [if_neg h]
theorem upd_eq {f : Nat → Own} {i : Nat} {o : Own} : upd f i o i = o := by unfold upd; rw [if_pos rfl]
theorem fam_put {D : Nat → Prop} {f : Nat → Own} {i : Nat} {o : Own} {w : World} (hi : ¬ D i) (h : (famP D f).holds w) (ho : o.holds w) (ha : ∀ k, (famP D f).foot k → ¬ o.foot k) : (famP (fun k => D k ∨ k = i) (upd f i o)).holds w := by
  have hf : ∀ j, D j → upd f i o j = f j := fun j hj => upd_ne fun e => hi (by subst e; exact hj)
  have hg : upd f i o i = o := upd_eq
  refine ⟨fun j hj => ?_, fun j k hj hk hjk q hq hq' => ?_⟩
  · rcases hj with hj | rfl
    · rw [hf j hj]; exact h.1 j hj
    · rw [hg]; exact ho
  · rcases hj with hj | rfl <;> rcases hk with hk | rfl
    · rw [hf j hj] at hq; rw [hf k hk] at hq'; exact h.2 j k hj hk hjk q hq hq'
    · rw [hf j hj] at hq; rw [hg] at hq'; exact ha q (.inr ⟨j, hj, hq⟩) hq'
    · rw [hg] at hq; rw [hf k hk] at hq'; exact ha q (.inr ⟨k, hk, hq'⟩) hq
    · exact hjk rfl
theorem fam_putF {D : Nat → Prop} {f : Nat → Own} {i : Nat} {o : Own} (hi : ¬ D i) (k : Nat) (h : (famP (fun k => D k ∨ k = i) (upd f i o)).foot k) : (famP D f).foot k ∨ o.foot k := by
  rcases h with h | ⟨j, hj, hk⟩
  · cases h
  · rcases hj with hj | rfl
    · exact .inl (.inr ⟨j, hj, by rw [upd_ne fun e => hi (by subst e; exact hj)] at hk; exact hk⟩)
    · exact .inr (by rw [upd_eq] at hk; exact hk)
section
variable {P : Program} {n : Nat} {W : Base} {fr : Fr} {L : List Own} {Q : Exit → Act → World → Prop} {ops : Array Oper} {rest : List Oper} {d : Nat}
theorem Mem.split {w : World} {q : Nat} {o : Own} (o1 o2 : Own) (h : Mem W L w) (hq : L[q]? = some o) (h1 : ∀ w, o.holds w → o1.holds w) (h2 : ∀ w, o.holds w → o2.holds w) (f1 : ∀ k, o1.foot k → o.foot k) (f2 : ∀ k, o2.foot k → o.foot k) (ha : ∀ w, o.holds w → ∀ k, o1.foot k → ¬ o2.foot k) : Mem W (L.set q o1 ++ [o2]) w := by
  have hr := h.reown o1 hq h1 f1
  have hoq := h.owns.all q o hq
  have hlen : q < L.length := (List.getElem?_eq_some_iff.1 hq).1
  refine ⟨h.low, OwnsP.both hr.owns (OwnsP.one (h2 w hoq.1) fun k hk => hoq.2 k (f2 k hk)) fun i j a b hi hj k hk hk' => ?_⟩
  match j, hj with
  | 0, hj =>
    simp only [List.getElem?_cons_zero, Option.some.injEq] at hj; subst hj
    by_cases e : q = i
    · subst e
      rw [List.getElem?_set_self hlen] at hi
      simp only [Option.some.injEq] at hi; subst hi
      exact ha w hoq.1 k hk hk'
    · rw [List.getElem?_set_ne e] at hi
      exact h.owns.apart i q a o (Ne.symm e) hi hq k hk (f2 k hk')
  | j + 1, hj => simp at hj
theorem Mem.merge2A {w : World} (o : Own) (i j : Nat) (js : List Nat) {o1 o2 : Own} {R : List Own} (h : Mem W L w) (hn : ([i, j] ++ js).Nodup) (h1 : L[i]? = some o1) (h2 : L[j]? = some o2) (hR : R = js.filterMap fun i => L[i]?) (hf : ∀ k, o.foot k → o1.foot k ∨ o2.foot k) (hh : ∀ w, o1.holds w → o2.holds w → (∀ k, o1.foot k → ¬ o2.foot k) → o.holds w) : Mem W (R ++ [o]) w := by
  have hij : i ≠ j := fun e => by subst e; simp at hn
  have ha := h.owns.apart i j o1 o2 hij h1 h2
  refine Mem.merge o (h.pick ([i, j] ++ js) hn ?_) hf (fun a b => hh w a b ha)
  rw [List.filterMap_append, ← hR]
  congr 1
  rw [List.filterMap_cons_some (by exact h1), List.filterMap_cons_some (by exact h2)]; rfl
theorem Mem.take {w : World} {q : Nat} {D : Nat → Prop} {f : Nat → Own} (i : Nat) (h : Mem W L w) (hq : L[q]? = some (famP D f)) (hi : D i) : Mem W (L.set q (famP (fun k => D k ∧ k ≠ i) f) ++ [f i]) w :=
  h.split _ _ hq (fun w h => fam_congr (fun k h => h.1) (fun _ _ => rfl) w h) (fun w h => h.1 i hi) (fun k h => fam_foot (fun k h => h.1) (fun _ _ => rfl) k h) (fun k h => .inr ⟨i, hi, h⟩) fun w h k hk hk' => by
    rcases hk with hk | ⟨j, ⟨hj, hne⟩, hk⟩
    · cases hk
    · exact h.2 j i hj hi hne k hk hk'
theorem TL_take {q : Nat} {D : Nat → Prop} {f : Nat → Own} (i : Nat) (hq : L[q]? = some (famP D f)) (hi : D i) (h : TL P n W ops Q rest fr (L.set q (famP (fun k => D k ∧ k ≠ i) f) ++ [f i])) : TL P n W ops Q rest fr L := ⟨fun a w hr hm => h.go a w hr (hm.take i hq hi)⟩
theorem Mem.put {w : World} {D D' : Nat → Prop} {f f' : Nat → Own} {o : Own} {R : List Own} (x q j : Nat) (js : List Nat) (h : Mem W L w) (hn : ([q, j] ++ js).Nodup) (hq : L[q]? = some (famP D f)) (hj : L[j]? = some o) (hR : R = js.filterMap fun i => L[i]?) (hx : ¬ D x) (hD : ∀ k, D' k → D k ∨ k = x) (hf : ∀ k, D' k → f' k = upd f x o k) : Mem W (R ++ [famP D' f']) w :=
  h.merge2A _ q j js hn hq hj hR (fun k hk => fam_putF hx k (fam_foot hD hf k hk)) fun w h1 h2 h3 => fam_congr hD hf w (fam_put hx h1 h2 h3)
theorem TL_put {D D' : Nat → Prop} {f f' : Nat → Own} {o : Own} {R : List Own} (x q j : Nat) (js : List Nat) (hn : ([q, j] ++ js).Nodup) (hq : L[q]? = some (famP D f)) (hj : L[j]? = some o) (hR : R = js.filterMap fun i => L[i]?) (hx : ¬ D x) (hD : ∀ k, D' k → D k ∨ k = x) (hf : ∀ k, D' k → f' k = upd f x o k) (h : TL P n W ops Q rest fr (R ++ [famP D' f'])) : TL P n W ops Q rest fr L := ⟨fun a w hr hm => h.go a w hr (hm.put x q j js hn hq hj hR hx hD hf)⟩
theorem E_put {e : Exit} {D D' : Nat → Prop} {f f' : Nat → Own} {o : Own} {R : List Own} (x q j : Nat) (js : List Nat) (hn : ([q, j] ++ js).Nodup) (hq : L[q]? = some (famP D f)) (hj : L[j]? = some o) (hR : R = js.filterMap fun i => L[i]?) (hx : ¬ D x) (hD : ∀ k, D' k → D k ∨ k = x) (hf : ∀ k, D' k → f' k = upd f x o k) (h : E n W e Q fr (R ++ [famP D' f'])) : E n W e Q fr L := ⟨fun a w hr hm => h.go a w hr (hm.put x q j js hn hq hj hR hx hD hf)⟩
theorem at_hold {q : Nat} {o : Own} {p : Addr} {v : Value} (hq : L[q]? = some o) (h : ∀ w, o.holds w → w.cell? p = some v) : At W L p v := fun w hm => h w (hm.get hq)
theorem row_cell {g off size cap m k : Nat} {e : TypeId} {xs : List Value} {v : Value} {w : World} (h : (rowO e size (.slice (some ⟨g, 0, none⟩) m cap) k xs).holds w) (hv : xs[off]? = some v) : w.cell? ⟨g, off, none⟩ = some v := by
  have h : w.ownsRow 0 e size (.slice (some ⟨g, 0, none⟩) m cap) k xs := h
  have := h.cells (g := g) rfl off v hv
  rwa [addr_add, Nat.zero_add] at this
/-! ### rows that a function tells -/
def tabA {α : Type} (len : Nat) (f : Nat → α) : List α := (List.range len).map f
section
variable {α : Type}
theorem tabA_len (len : Nat) (f : Nat → α) : (tabA len f).length = len := by simp [tabA]
theorem tabA_get {len : Nat} (f : Nat → α) {k : Nat} (h : k < len) : (tabA len f)[k]? = some (f k) := by simp [tabA, h]
theorem tabA_set {len : Nat} (f g : Nat → α) (k : Nat) (v : α) (h : ∀ i, i < len → g i = if i = k then v else f i) : (tabA len f).set k v = tabA len g := by
  apply List.ext_getElem?
  intro i
  rw [List.getElem?_set]
  by_cases hi : i < len
  · rw [tabA_get g hi, h i hi]
    by_cases e : k = i
    · subst e; simp [tabA_len, hi]
    · rw [if_neg e, if_neg (fun e' => e e'.symm), tabA_get f hi]
  · have h1 : (tabA len g)[i]? = none := List.getElem?_eq_none (by rw [tabA_len]; omega)
    have h2 : (tabA len f)[i]? = none := List.getElem?_eq_none (by rw [tabA_len]; omega)
    rw [h1, h2]
    by_cases e : k = i
    · subst e; simp [tabA_len, hi]
    · rw [if_neg e]
theorem tabA_congr {len : Nat} {f g : Nat → α} (h : ∀ i, i < len → f i = g i) : tabA len f = tabA len g := by
  unfold tabA
  apply List.map_congr_left
  intro i hi
  exact h i (by simpa using hi)
theorem tabA_const (val : α → Value) (a : α) (len : Nat) : (tabA len fun _ => a).map val = List.replicate len (val a) := by
  unfold tabA
  rw [List.map_map]
  apply List.ext_getElem?
  intro i
  by_cases h : i < len <;> simp [h]
/-- a row of one-cell elements -/
def rowA (e : TypeId) (val : α → Value) (g len : Nat) (f : Nat → α) : Own := rowO e 1 (.slice (some ⟨g, 0, none⟩) len len) len ((tabA len f).map val)
theorem rowA_congr {e : TypeId} {val : α → Value} {g len : Nat} {f f' : Nat → α} (h : ∀ i, i < len → f i = f' i) : rowA e val g len f = rowA e val g len f' := by unfold rowA; rw [tabA_congr h]
theorem at_rowA {e : TypeId} {val : α → Value} {i g len k : Nat} {f : Nat → α} (hi : L[i]? = some (rowA e val g len f)) (hk : k < len) : At W L ⟨g, 0 + k, none⟩ (val (f k)) := at_row hi (by rw [Nat.zero_add, List.getElem?_map, tabA_get f hk]; rfl)
theorem rowA_cell {e : TypeId} {val : α → Value} {g len k : Nat} {f : Nat → α} {w : World} (h : (rowA e val g len f).holds w) (hk : k < len) : w.cell? ⟨g, 0 + k, none⟩ = some (val (f k)) := row_cell h (by rw [Nat.zero_add, List.getElem?_map, tabA_get f hk]; rfl)
theorem rowA_set {e : TypeId} {val : α → Value} {g len k : Nat} {v : α} {f f' : Nat → α} (h : ∀ i, i < len → f' i = if i = k then v else f i) : rowO e 1 (.slice (some ⟨g, 0, none⟩) len len) len (((tabA len f).map val).set k (val v)) = rowA e val g len f' := by
  unfold rowA
  rw [← List.map_set, tabA_set f f' k v h]
theorem TL_storeA {e : TypeId} {val : α → Value} {ty : TypeId} {pos : String} {after : Array Edge} {t : TypeId} {p x : Operand} {i g off len : Nat} {v : α} {f : Nat → α} (f' : Nat → α) (hT : Ty P t false 1) (hi : L[i]? = some (rowA e val g len f)) (hp : ev fr p = some (.pointer (some ⟨g, 0 + off, none⟩))) (hx : ev fr x = some (val v)) (h1 : (val v).cells = #[val v]) (h2 : (val v).oneCell' = true) (hk : off < len) (hf : ∀ i, i < len → f' i = if i = off then v else f i)
    (h : TL P n W ops Q rest fr (L.set i (rowA e val g len f'))) : TL P n W ops Q (⟨none, .store t p x, ty, pos, after, none⟩ :: rest) fr L :=
  TL_storeRow hT hi hp hx h1 rfl h2 (by rw [List.length_map, tabA_len, Nat.zero_add]; exact hk) (by rw [Nat.zero_add, rowA_set hf]; exact h)
theorem TL_makeA {t e : TypeId} {x y : Operand} {bytes m : Nat} {k k' : IntKind} {ty : TypeId} {pos : String} {after : Array Edge} (val : α → Value) (z : α) [ElC P t e 1 bytes] [ZeroC P e #[val z]] (hx : ev fr x = some (.int k (m : Int))) (hy : ev fr y = some (.int k' (m : Int))) (hb : bytes * m ≤ 281474976710656) (h63 : m ≤ 9223372036854775807) (hn : Nat.blt d n = true)
    (h : ∀ g, TL P n W ops Q rest ((d, .slice (some ⟨g, 0, none⟩) m m) :: fr) (L ++ [rowA e val g m fun _ => z])) : TL P n W ops Q (⟨some d, .makeSlice t x y, ty, pos, after, none⟩ :: rest) fr L :=
  TL_makeRow hx hy hb h63 hn fun g => by
    have := h g
    unfold rowA at this
    rw [tabA_const] at this
    exact this
end
abbrev boolV (b : Bool) : Value := .bool b
/-- rows of rows, all of one length -/
def rowsV (m : Nat) (g : Nat) : Value := .slice (some ⟨g, 0, none⟩) m m
structure BitsR (w : World) (g N m : Nat) (O : Nat → Nat → Bool) : Prop where
  ex : ∃ gs : Nat → Nat, ∀ i, i < N → w.cell? ⟨g, 0 + i, none⟩ = some (rowsV m (gs i)) ∧ ∀ a, a < m → w.cell? ⟨gs i, 0 + a, none⟩ = some (boolV (O i a))
theorem bits_of {T T' : TypeId} {w : World} {g N m : Nat} {gs : Nat → Nat} {O : Nat → Nat → Bool} (h1 : (rowA T (rowsV m) g N gs).holds w) (h2 : (famP (fun i => i < N) fun i => rowA T' boolV (gs i) m (O i)).holds w) : BitsR w g N m O :=
  ⟨gs, fun _ hi => ⟨rowA_cell h1 hi, fun _ ha => rowA_cell (h2.1 _ hi) ha⟩⟩
end
end Go.Proofs.Ytkkiopmdcolobaa.eng

/- CountA -/
namespace Go.Proofs.Ytkkiopmdcolobaa.eng
open Go.RowKit kit mix gramL countL
theorem spanLaid : laidOutB Try.prog = true := by kernel_rfl
theorem spanRow : (63 : TypeId) < Try.prog.types.size := of_decide_eq_true (by kernel_rfl)
theorem spanWide : (match Try.prog.underlying 63 with | some (.array _ _) | some (.struct _) => true | _ => false) = true := by kernel_rfl
def spanV (x : Span) : Value := .agg #[.int .i64 x.1, .int .i64 x.2.1, .int .i64 x.2.2]
theorem span_key (x : Span) (h : kit.okI64 x.1 ∧ kit.okI64 x.2.1 ∧ kit.okI64 x.2.2) : ∃ l, keyOf Try.prog 63 (spanV x) = some l := by
  obtain ⟨a, b, c⟩ := x
  obtain ⟨h1, h2, h3⟩ := h
  have e1 : Try.prog.keyType 63 = true := by kernel_rfl
  have e2 : Try.prog.cellsOf 63 = 3 := by kernel_rfl
  have e3 : Try.prog.cellsOf 3 = 1 := by kernel_rfl
  have e4 : ∃ d, Try.prog.types.size + 1 = d + 2 := ⟨Try.prog.types.size - 1, by have : 0 < Try.prog.types.size := Nat.lt_of_le_of_lt (Nat.zero_le 63) spanRow; omega⟩
  obtain ⟨d, e4⟩ := e4
  have key : ∀ n : Int, kit.okI64 n → Try.prog.keyLits (d + 1) 3 [.int .i64 n] = some [.int .i64 n] := fun n hn => by
    have hw : (Lit.int .i64 n).wf = true := by
      have h0 : -9223372036854775808 ≤ n := hn.1
      have h1 : n ≤ 9223372036854775807 := hn.2
      simp [Lit.wf, IntKind.min, IntKind.max, IntKind.signed, IntKind.bits, h0, h1]
    simp [Program.keyLits, Try.underlying3, hw]
  refine ⟨.string (keyBytes ([.int .i64 a, .int .i64 b, .int .i64 c])), ?_⟩
  have hl : Try.prog.keyLits (d + 2) 63 [.int .i64 a, .int .i64 b, .int .i64 c] = some [.int .i64 a, .int .i64 b, .int .i64 c] := by
    unfold Program.keyLits
    simp [Try.underlying63, e2, e3, key _ h1, key _ h2, key _ h3]
  have hf : (spanV (a, b, c)).formed Try.prog 63 = true := by simp [spanV, Value.formed, Try.underlying63, e2]
  unfold keyOf
  rw [Try.underlying63]
  show (if (Try.prog.keyType 63 && (spanV (a, b, c)).formed Try.prog 63) = true then (Try.prog.keyLits (Try.prog.types.size + 1) 63 [.int .i64 a, .int .i64 b, .int .i64 c]).map (fun ls => Lit.string (keyBytes ls)) else none) = _
  rw [e1, hf, e4, hl]
  rfl
set_option maxRecDepth 100000 in
def spanK : KeyT Try.prog 63 Span where
  kv := spanV
  ok x := kit.okI64 x.1 ∧ kit.okI64 x.2.1 ∧ kit.okI64 x.2.2
  law := deep_law_laid spanLaid (m := 2) (by omega) spanRow (by kernel_rfl) spanWide
  key := span_key
  inj x y h := by
    obtain ⟨a, b, c⟩ := x
    obtain ⟨a', b', c'⟩ := y
    simp only [spanV, Value.agg.injEq, Array.mk.injEq, List.cons.injEq, Value.int.injEq, true_and, and_true] at h
    simp [h]
theorem zero_int (w : World) : (zeroValue 3).run Try.prog w = .ok (.int .i64 0) w := by kernel_rfl
theorem span_ok {m : Int} {a b : Nat} (h : kit.okI64 m) (ha : a ≤ 9223372036854775807) (hb : b ≤ 9223372036854775807) : spanK.ok (m, (a : Int), (b : Int)) := by
  show kit.okI64 m ∧ kit.okI64 (a : Int) ∧ kit.okI64 (b : Int)
  exact ⟨h, ⟨by omega, by omega⟩, ⟨by omega, by omega⟩⟩
def chM (gm : Nat) (c : Chart) (B : Nat) : Own := mapT spanK gm (.int .i64 0) (fun x => .int .i64 (c x : Int)) B
def chV (t n : Int) (vp vw : Value) (gm : Nat) : Array Value := #[.int .i64 t, .int .i64 n, vp, vw, .map (some gm)]
/-- a chart that can be read -/
structure ChR (w : World) (gc gm : Nat) (t n : Int) (vp vw : Value) (word : List Int) (c : Chart) (B : Nat) : Prop where
  cell : w.heap[gc]? = some (.cells (chV t n vp vw gm) 59 (0, 0))
  map : (chM gm c B).holds w
  word : Sl w vw word.length (word.map (.int .i64))
theorem ChR.gr {w w' : World} {gc gm : Nat} {t n : Int} {vp vw : Value} {word : List Int} {c : Chart} {B : Nat} (h : ChR w gc gm t n vp vw word c B) (hg : Gr w w') : ChR w' gc gm t n vp vw word c B :=
  ⟨(hg.block gc (Array.getElem?_eq_some_iff.1 h.cell).1).trans h.cell, (chM gm c B).stay w w' h.map hg.size fun k hk => hg.block k ((chM gm c B).lt w h.map k hk), h.word.gr hg⟩
theorem atMost_calls (m : Int) (w : World) : Calls Try.prog 71 #[.int .i64 m] w (Meets (ret (.int .i64 (min m 2))) w) := by
  refine enter (args := [.int .i64 m]) (n := 5) Try.func71 rfl rfl rfl ?_
  repeat (first
    | refine qv rfl (qp rfl) rfl rfl ?_ | refine TL_nil ?_ | refine T_seq ?_ | refine T_region ?_ | refine T_ret ?_ | refine E_then ?_ | refine E_thenR ?_
    | refine qv rfl (rr_min rfl rfl rfl) rfl rfl ?_ | refine qv rfl (rr_min rfl rfl (by omega)) rfl rfl ?_)
  exact E_ret1 rfl rfl fun w hm => hm.ret
theorem checkW_step {t : Int} {l : List Int} {k : Nat} (h : k < l.length) : checkW t (l.drop k) = if l[k] < 0 then 1 else if t ≤ l[k] then 1 else checkW t (l.drop (k + 1)) := by
  rw [List.drop_eq_getElem_cons h, checkW]
theorem at_int {W : World} {L : List Own} {b off : Nat} {l : List Int} (h : Rd W b off (l.map (.int .i64))) {k : Nat} (hk : k < l.length) : At W L ⟨b, off + k, none⟩ (.int .i64 l[k]) := at_rd h (by simp [hk])
set_option maxHeartbeats 2000000 in
theorem checkC_calls (v vw : Value) (g : Gram) (word : List Int) (w : World) (h : GraR (fun k => k < w.heap.size) w v g) (hs : Sl w vw word.length (word.map (.int .i64))) :
    Calls Try.prog 17 #[v, vw] w (Meets (ret (.int .i64 (checkC g word))) w) := by
  have hck := fun w' (hg : Gr w w') => checkG_calls v g w' (h.gr hg)
  obtain ⟨vp, rfl, _, _⟩ := h
  obtain ⟨bw, cw, rfl, h1, h2, h3⟩ := hs
  unfold maxLen at h2
  have hE : checkC g word = if checkG g ≠ 0 then checkG g else if 20 < word.length then 2 else checkW g.terms word := rfl
  generalize checkC g word = e at *
  generalize checkG g = c at *
  obtain ⟨t, n, prods⟩ := g
  dsimp only at *
  refine enter (args := [graV t n vp, .slice bw word.length cw]) (n := 31) Try.func17 rfl rfl rfl ?_
  refine T_seq (T_region (TL_box rfl rfl rfl fun g2 => ?_))
  repeat (first
    | refine qv rfl (qp rfl) rfl rfl ?_ | refine TL_nil ?_ | refine T_seq ?_ | refine T_region ?_ | refine qcT rfl ?_ | refine qcF rfl ?_ | refine T_skip ?_
    | refine T_exit ?_ | refine T_ret ?_ | refine T_block ?_ | refine E_then ?_ | refine E_thenX ?_ | refine E_thenR ?_ | refine E_blockN ?_
    | refine E_blockR ?_ | refine E_blockX ?_ | refine E_blockO rfl ?_ | refine qs rfl rfl rfl rfl rfl rfl ?_
    | ((try refine qg rfl rfl rfl ?_); first | refine qv rfl (qp rfl) rfl rfl ?_ | refine qv rfl (rr_loadB (i := 0) TyC.ty rfl rfl rfl) rfl rfl ?_ | refine qv rfl (qlen Und.eq rfl) rfl rfl ?_ | refine qv rfl (rr_lss rfl rfl (qT (by omega))) rfl rfl ?_ | refine qv rfl (rr_lss rfl rfl (qF (by omega))) rfl rfl ?_ | refine qv rfl (rr_gtr rfl rfl (qT (by omega))) rfl rfl ?_ | refine qv rfl (rr_gtr rfl rfl (qF (by omega))) rfl rfl ?_ | refine qv rfl (rr_neq rfl rfl (qT (by omega))) rfl rfl ?_ | refine qv rfl (rr_neq rfl rfl (qF (by omega))) rfl rfl ?_ | refine qv rfl (rr_add64 rfl rfl (by omega) (by omega) rfl) rfl rfl ?_ | refine qv rfl (qfld FldC.fld rfl rfl) rfl rfl ?_ | refine qv rfl (rr_geq rfl rfl (qT (by omega))) rfl rfl ?_ | refine qv rfl (rr_geq rfl rfl (qF (by omega))) rfl rfl ?_))
  refine TL_call (he1 EntersC.en rfl rfl) (fun w hm => hck _ hm.below) rfl rfl rfl ?_
  intro _ _
  by_cases c0 : c = 0
  · rw [if_neg (by simpa using c0)] at hE
    by_cases c1 : 20 < word.length
    · rw [if_pos c1] at hE
      subst hE
      repeat (first
        | refine qv rfl (qp rfl) rfl rfl ?_ | refine TL_nil ?_ | refine T_seq ?_ | refine T_region ?_ | refine qcT rfl ?_ | refine qcF rfl ?_ | refine T_skip ?_
        | refine T_exit ?_ | refine T_ret ?_ | refine T_block ?_ | refine E_then ?_ | refine E_thenX ?_ | refine E_thenR ?_ | refine E_blockN ?_
        | refine E_blockR ?_ | refine E_blockX ?_ | refine E_blockO rfl ?_ | refine qs rfl rfl rfl rfl rfl rfl ?_
        | ((try refine qg rfl rfl rfl ?_); first | refine qv rfl (qp rfl) rfl rfl ?_ | refine qv rfl (qlen Und.eq rfl) rfl rfl ?_ | refine qv rfl (rr_lss rfl rfl (qT (by omega))) rfl rfl ?_ | refine qv rfl (rr_lss rfl rfl (qF (by omega))) rfl rfl ?_ | refine qv rfl (rr_gtr rfl rfl (qT (by omega))) rfl rfl ?_ | refine qv rfl (rr_gtr rfl rfl (qF (by omega))) rfl rfl ?_ | refine qv rfl (rr_neq rfl rfl (qT (by omega))) rfl rfl ?_ | refine qv rfl (rr_neq rfl rfl (qF (by omega))) rfl rfl ?_ | refine qv rfl (rr_add64 rfl rfl (by omega) (by omega) rfl) rfl rfl ?_ | refine qv rfl (qfld FldC.fld rfl rfl) rfl rfl ?_ | refine qv rfl (rr_geq rfl rfl (qT (by omega))) rfl rfl ?_ | refine qv rfl (rr_geq rfl rfl (qF (by omega))) rfl rfl ?_))
      exact E_ret1 rfl rfl fun w hm => hm.ret
    rw [if_neg c1] at hE
    conv => arg 8; simp only [zA, zB, zC, zD, zE, zF, zG, zH, zI, rowS, ret, id_eq]
    repeat (first
      | refine qv rfl (qp rfl) rfl rfl ?_ | refine TL_nil ?_ | refine T_seq ?_ | refine T_region ?_ | refine qcT rfl ?_ | refine qcF rfl ?_ | refine T_skip ?_
      | refine T_exit ?_ | refine T_ret ?_ | refine T_block ?_ | refine E_then ?_ | refine E_thenX ?_ | refine E_thenR ?_ | refine E_blockN ?_
      | refine E_blockR ?_ | refine E_blockX ?_ | refine E_blockO rfl ?_ | refine qs rfl rfl rfl rfl rfl rfl ?_
      | ((try refine qg rfl rfl rfl ?_); first | refine qv rfl (qp rfl) rfl rfl ?_ | refine qv rfl (qlen Und.eq rfl) rfl rfl ?_ | refine qv rfl (rr_lss rfl rfl (qT (by omega))) rfl rfl ?_ | refine qv rfl (rr_lss rfl rfl (qF (by omega))) rfl rfl ?_ | refine qv rfl (rr_gtr rfl rfl (qT (by omega))) rfl rfl ?_ | refine qv rfl (rr_gtr rfl rfl (qF (by omega))) rfl rfl ?_ | refine qv rfl (rr_neq rfl rfl (qT (by omega))) rfl rfl ?_ | refine qv rfl (rr_neq rfl rfl (qF (by omega))) rfl rfl ?_ | refine qv rfl (rr_add64 rfl rfl (by omega) (by omega) rfl) rfl rfl ?_ | refine qv rfl (qfld FldC.fld rfl rfl) rfl rfl ?_ | refine qv rfl (rr_geq rfl rfl (qT (by omega))) rfl rfl ?_ | refine qv rfl (rr_geq rfl rfl (qF (by omega))) rfl rfl ?_))
    refine T_loop (ι := Nat) (fun k => k ≤ word.length ∧ e = checkW t (word.drop k)) (fun k => [(2, .pointer (some ⟨g2, 0, none⟩)), (16, .slice bw word.length cw), (17, .int .i64 word.length), (18, .int .i64 (k : Int))])
      (fun _ => [blkO g2 (graV t n vp).cells 24]) (fun k => word.length - k) 0 ⟨Nat.zero_le _, hE⟩ (by repeat' (first | exact True.intro | refine And.intro rfl ?_)) rfl ?_
    clear hE hck
    rintro k ⟨i1, i2⟩
    by_cases c6 : k < word.length
    · obtain ⟨b, off, rfl, hr⟩ := h3 (by omega)
      have hat := fun L => at_int (L := L) hr c6
      rw [checkW_step c6] at i2
      generalize word[k] = x at *
      by_cases c7 : x < 0
      · rw [if_pos c7] at i2
        subst i2
        repeat (first
          | refine qv rfl (qp rfl) rfl rfl ?_ | refine TL_nil ?_ | refine T_seq ?_ | refine T_region ?_ | refine qcT rfl ?_ | refine qcF rfl ?_ | refine T_skip ?_
          | refine T_exit ?_ | refine T_ret ?_ | refine T_block ?_ | refine E_then ?_ | refine E_thenX ?_ | refine E_thenR ?_ | refine E_blockN ?_
          | refine E_blockR ?_ | refine E_blockX ?_ | refine E_blockO rfl ?_ | refine qs rfl rfl rfl rfl rfl rfl ?_
          | ((try refine qg rfl rfl rfl ?_); first | refine qv rfl (qp rfl) rfl rfl ?_ | refine qv rfl (rr_idx1 Und.eq TyC.ty rfl rfl c6) rfl rfl ?_ | refine qv rfl (rr_load1 TyC.ty rfl (hat _)) rfl rfl ?_ | refine qv rfl (rr_load1 TyC.ty rfl (at_blk (i := 0) rfl rfl)) rfl rfl ?_ | refine qv rfl (qlen Und.eq rfl) rfl rfl ?_ | refine qv rfl (rr_lss rfl rfl (qT (by omega))) rfl rfl ?_ | refine qv rfl (rr_lss rfl rfl (qF (by omega))) rfl rfl ?_ | refine qv rfl (rr_gtr rfl rfl (qT (by omega))) rfl rfl ?_ | refine qv rfl (rr_gtr rfl rfl (qF (by omega))) rfl rfl ?_ | refine qv rfl (rr_neq rfl rfl (qT (by omega))) rfl rfl ?_ | refine qv rfl (rr_neq rfl rfl (qF (by omega))) rfl rfl ?_ | refine qv rfl (rr_add64 rfl rfl (by omega) (by omega) rfl) rfl rfl ?_ | refine qv rfl (qfld FldC.fld rfl rfl) rfl rfl ?_ | refine qv rfl (rr_geq rfl rfl (qT (by omega))) rfl rfl ?_ | refine qv rfl (rr_geq rfl rfl (qF (by omega))) rfl rfl ?_))
        exact E_ret1 rfl rfl fun w hm => hm.ret
      rw [if_neg c7] at i2
      by_cases c8 : t ≤ x
      · rw [if_pos c8] at i2
        subst i2
        repeat (first
          | refine qv rfl (qp rfl) rfl rfl ?_ | refine TL_nil ?_ | refine T_seq ?_ | refine T_region ?_ | refine qcT rfl ?_ | refine qcF rfl ?_ | refine T_skip ?_
          | refine T_exit ?_ | refine T_ret ?_ | refine T_block ?_ | refine E_then ?_ | refine E_thenX ?_ | refine E_thenR ?_ | refine E_blockN ?_
          | refine E_blockR ?_ | refine E_blockX ?_ | refine E_blockO rfl ?_ | refine qs rfl rfl rfl rfl rfl rfl ?_
          | ((try refine qg rfl rfl rfl ?_); first | refine qv rfl (qp rfl) rfl rfl ?_ | refine qv rfl (rr_idx1 Und.eq TyC.ty rfl rfl c6) rfl rfl ?_ | refine qv rfl (rr_load1 TyC.ty rfl (hat _)) rfl rfl ?_ | refine qv rfl (rr_load1 TyC.ty rfl (at_blk (i := 0) rfl rfl)) rfl rfl ?_ | refine qv rfl (qlen Und.eq rfl) rfl rfl ?_ | refine qv rfl (rr_lss rfl rfl (qT (by omega))) rfl rfl ?_ | refine qv rfl (rr_lss rfl rfl (qF (by omega))) rfl rfl ?_ | refine qv rfl (rr_gtr rfl rfl (qT (by omega))) rfl rfl ?_ | refine qv rfl (rr_gtr rfl rfl (qF (by omega))) rfl rfl ?_ | refine qv rfl (rr_neq rfl rfl (qT (by omega))) rfl rfl ?_ | refine qv rfl (rr_neq rfl rfl (qF (by omega))) rfl rfl ?_ | refine qv rfl (rr_add64 rfl rfl (by omega) (by omega) rfl) rfl rfl ?_ | refine qv rfl (qfld FldC.fld rfl rfl) rfl rfl ?_ | refine qv rfl (rr_geq rfl rfl (qT (by omega))) rfl rfl ?_ | refine qv rfl (rr_geq rfl rfl (qF (by omega))) rfl rfl ?_))
        exact E_ret1 rfl rfl fun w hm => hm.ret
      rw [if_neg c8] at i2
      repeat (first
        | refine qv rfl (qp rfl) rfl rfl ?_ | refine TL_nil ?_ | refine T_seq ?_ | refine T_region ?_ | refine qcT rfl ?_ | refine qcF rfl ?_ | refine T_skip ?_
        | refine T_exit ?_ | refine T_ret ?_ | refine T_block ?_ | refine E_then ?_ | refine E_thenX ?_ | refine E_thenR ?_ | refine E_blockN ?_
        | refine E_blockR ?_ | refine E_blockX ?_ | refine E_blockO rfl ?_ | refine qs rfl rfl rfl rfl rfl rfl ?_
        | ((try refine qg rfl rfl rfl ?_); first | refine qv rfl (qp rfl) rfl rfl ?_ | refine qv rfl (rr_idx1 Und.eq TyC.ty rfl rfl c6) rfl rfl ?_ | refine qv rfl (rr_load1 TyC.ty rfl (hat _)) rfl rfl ?_ | refine qv rfl (rr_load1 TyC.ty rfl (at_blk (i := 0) rfl rfl)) rfl rfl ?_ | refine qv rfl (qlen Und.eq rfl) rfl rfl ?_ | refine qv rfl (rr_lss rfl rfl (qT (by omega))) rfl rfl ?_ | refine qv rfl (rr_lss rfl rfl (qF (by omega))) rfl rfl ?_ | refine qv rfl (rr_gtr rfl rfl (qT (by omega))) rfl rfl ?_ | refine qv rfl (rr_gtr rfl rfl (qF (by omega))) rfl rfl ?_ | refine qv rfl (rr_neq rfl rfl (qT (by omega))) rfl rfl ?_ | refine qv rfl (rr_neq rfl rfl (qF (by omega))) rfl rfl ?_ | refine qv rfl (rr_add64 rfl rfl (by omega) (by omega) rfl) rfl rfl ?_ | refine qv rfl (qfld FldC.fld rfl rfl) rfl rfl ?_ | refine qv rfl (rr_geq rfl rfl (qT (by omega))) rfl rfl ?_ | refine qv rfl (rr_geq rfl rfl (qF (by omega))) rfl rfl ?_))
      exact E_round (k + 1) ⟨by omega, i2⟩ (by show word.length - (k + 1) < word.length - k; omega) (by repeat' (first | exact True.intro | refine And.intro rfl ?_)) rfl
    · rw [List.drop_of_length_le (by omega)] at i2
      have i2 : e = 0 := i2
      subst i2
      repeat (first
        | refine qv rfl (qp rfl) rfl rfl ?_ | refine TL_nil ?_ | refine T_seq ?_ | refine T_region ?_ | refine qcT rfl ?_ | refine qcF rfl ?_ | refine T_skip ?_
        | refine T_exit ?_ | refine T_ret ?_ | refine T_block ?_ | refine E_then ?_ | refine E_thenX ?_ | refine E_thenR ?_ | refine E_blockN ?_
        | refine E_blockR ?_ | refine E_blockX ?_ | refine E_blockO rfl ?_ | refine qs rfl rfl rfl rfl rfl rfl ?_
        | ((try refine qg rfl rfl rfl ?_); first | refine qv rfl (qp rfl) rfl rfl ?_ | refine qv rfl (qlen Und.eq rfl) rfl rfl ?_ | refine qv rfl (rr_lss rfl rfl (qT (by omega))) rfl rfl ?_ | refine qv rfl (rr_lss rfl rfl (qF (by omega))) rfl rfl ?_ | refine qv rfl (rr_gtr rfl rfl (qT (by omega))) rfl rfl ?_ | refine qv rfl (rr_gtr rfl rfl (qF (by omega))) rfl rfl ?_ | refine qv rfl (rr_neq rfl rfl (qT (by omega))) rfl rfl ?_ | refine qv rfl (rr_neq rfl rfl (qF (by omega))) rfl rfl ?_ | refine qv rfl (rr_add64 rfl rfl (by omega) (by omega) rfl) rfl rfl ?_ | refine qv rfl (qfld FldC.fld rfl rfl) rfl rfl ?_ | refine qv rfl (rr_geq rfl rfl (qT (by omega))) rfl rfl ?_ | refine qv rfl (rr_geq rfl rfl (qF (by omega))) rfl rfl ?_))
      exact E_ret1 rfl rfl fun w hm => hm.ret
  · rw [if_pos (by simpa using c0)] at hE
    subst hE
    repeat (first
      | refine qv rfl (qp rfl) rfl rfl ?_ | refine TL_nil ?_ | refine T_seq ?_ | refine T_region ?_ | refine qcT rfl ?_ | refine qcF rfl ?_ | refine T_skip ?_
      | refine T_exit ?_ | refine T_ret ?_ | refine T_block ?_ | refine E_then ?_ | refine E_thenX ?_ | refine E_thenR ?_ | refine E_blockN ?_
      | refine E_blockR ?_ | refine E_blockX ?_ | refine E_blockO rfl ?_ | refine qs rfl rfl rfl rfl rfl rfl ?_
      | ((try refine qg rfl rfl rfl ?_); first | refine qv rfl (qp rfl) rfl rfl ?_ | refine qv rfl (qlen Und.eq rfl) rfl rfl ?_ | refine qv rfl (rr_lss rfl rfl (qT (by omega))) rfl rfl ?_ | refine qv rfl (rr_lss rfl rfl (qF (by omega))) rfl rfl ?_ | refine qv rfl (rr_gtr rfl rfl (qT (by omega))) rfl rfl ?_ | refine qv rfl (rr_gtr rfl rfl (qF (by omega))) rfl rfl ?_ | refine qv rfl (rr_neq rfl rfl (qT (by omega))) rfl rfl ?_ | refine qv rfl (rr_neq rfl rfl (qF (by omega))) rfl rfl ?_ | refine qv rfl (rr_add64 rfl rfl (by omega) (by omega) rfl) rfl rfl ?_ | refine qv rfl (qfld FldC.fld rfl rfl) rfl rfl ?_ | refine qv rfl (rr_geq rfl rfl (qT (by omega))) rfl rfl ?_ | refine qv rfl (rr_geq rfl rfl (qF (by omega))) rfl rfl ?_))
    exact E_ret1 rfl rfl fun w hm => hm.ret
theorem build_span (a b c : Int) (w : World) : (Instr.build 63 #[(0, .int .i64 a), (1, .int .i64 b), (2, .int .i64 c)]).run Try.prog w = .ok (spanV (a, b, c)) w := by
  unfold spanV
  go_simp
attribute [local irreducible] Instr.build in
set_option maxHeartbeats 2000000 in
theorem one_calls (gc gm : Nat) (t n : Int) (vp vw : Value) (word : List Int) (c : Chart) (B : Nat) (x : Sym) (a b : Nat) (w : World) (h : ChR w gc gm t n vp vw word c B) (hx : kit.okI64 x.2) (hab : a ≤ b) (hb : b ≤ word.length) (hw : word.length ≤ 20) :
    Calls Try.prog 66 #[.pointer (some ⟨gc, 0, none⟩), .agg (symC x).toArray, .int .i64 (a : Int), .int .i64 (b : Int)] w (Meets (ret (.int .i64 (oneF c word x a b : Nat))) w) := by
  obtain ⟨hc, hmap, hs⟩ := h
  have h3 : ∀ (L : List Own), At w L ⟨gc, 3, none⟩ vw := fun L => at_old (by rw [cell_of_row w gc 3 _ _ _ hc]; rfl)
  have h4 : ∀ (L : List Own), At w L ⟨gc, 4, none⟩ (.map (some gm)) := fun L => at_old (by rw [cell_of_row w gc 4 _ _ _ hc]; rfl)
  have hmp : ∀ (L : List Own) w', Mem w L w' → (chM gm c B).holds w' := fun L w' hm => (chM gm c B).stay w w' hmap hm.below.size fun k hk => hm.below.block k ((chM gm c B).lt w hmap k hk)
  obtain ⟨bw, cw, rfl, h5, h6, h7⟩ := hs
  unfold maxLen at h6
  obtain ⟨q, m⟩ := x
  dsimp only at hx
  refine enter (args := [.pointer (some ⟨gc, 0, none⟩), .agg (symC (q, m)).toArray, .int .i64 (a : Int), .int .i64 (b : Int)]) (n := 38) Try.func66 rfl rfl rfl ?_
  refine T_seq (T_region (TL_box rfl rfl rfl fun g5 => ?_))
  unfold oneF
  dsimp only
  by_cases c1 : q = 2
  · rw [if_pos c1]
    repeat (first
      | refine qv rfl (qp rfl) rfl rfl ?_ | refine TL_nil ?_ | refine T_seq ?_ | refine T_region ?_ | refine qcT rfl ?_ | refine qcF rfl ?_ | refine T_skip ?_
      | refine T_ret ?_ | refine E_then ?_ | refine E_thenR ?_ | refine qs rfl rfl rfl rfl rfl rfl ?_
      | ((try refine qg rfl rfl rfl ?_); first | refine qv rfl (qp rfl) rfl rfl ?_ | refine qv rfl (rr_load1 TyC.ty rfl (at_blk (i := 0) rfl rfl)) rfl rfl ?_ | refine qv rfl (qfld FldC.fld rfl rfl) rfl rfl ?_ | refine qv rfl (rr_nilc rfl) rfl rfl ?_ | refine qv rfl (rr_eql rfl rfl (qT (by omega))) rfl rfl ?_ | refine qv rfl (rr_eql rfl rfl (qF (by omega))) rfl rfl ?_ | refine qv rfl (rr_add64 rfl rfl (by omega) (by omega) rfl) rfl rfl ?_))
    refine T_ord ([blkO g5 (symC (q, m)).toArray 47]) (.calm 0 (.calm 1 (.calm 2 (.calm 3 (.calm 4 (.calm 5 (.calm 6 (.calm 7 (.calm 8 (.calm 9 (.calm 10 (.done)))))))))))) (fun _ h => h) (by kernel_rfl) (by kernel_rfl) (by intro c a d v w h; cases d <;> exact h) ?_
    repeat (first
      | ((first | refine TW_plain rfl rfl ?_ | refine TW_gmet rfl rfl rfl rfl ?_); first | refine TN_val (qp rfl) rfl rfl ?_ | refine TN_val (rr_load1 TyC.ty rfl (at_blk (i := 0) rfl rfl)) rfl rfl ?_ | refine TN_val (rr_load1 TyC.ty rfl (h4 _)) rfl rfl ?_ | refine TN_val (rr_build rfl (build_span _ _ _)) rfl rfl ?_ | refine TN_val (rr_lookM (x := (m, (a : Int), (b : Int))) spanK Und.eq zero_int (hmp _) rfl rfl (span_ok hx (by omega) (by omega)) rfl) rfl rfl ?_ | refine TN_val (qfld FldC.fld rfl rfl) rfl rfl ?_ | refine TN_val (rr_nilc rfl) rfl rfl ?_ | refine TN_val (rr_eql rfl rfl (qT (by omega))) rfl rfl ?_ | refine TN_val (rr_eql rfl rfl (qF (by omega))) rfl rfl ?_ | refine TN_val (rr_add64 rfl rfl (by omega) (by omega) rfl) rfl rfl ?_)
      | refine TW_skip rfl rfl rfl rfl rfl rfl rfl ?_ | refine TW_done ?_)
    repeat (first
      | refine qv rfl (qp rfl) rfl rfl ?_ | refine TL_nil ?_ | refine T_seq ?_ | refine T_region ?_ | refine qcT rfl ?_ | refine qcF rfl ?_ | refine T_skip ?_
      | refine T_ret ?_ | refine E_then ?_ | refine E_thenR ?_ | refine qs rfl rfl rfl rfl rfl rfl ?_
      | ((try refine qg rfl rfl rfl ?_); first | refine qv rfl (qp rfl) rfl rfl ?_ | refine qv rfl (qfld FldC.fld rfl rfl) rfl rfl ?_ | refine qv rfl (rr_nilc rfl) rfl rfl ?_ | refine qv rfl (rr_eql rfl rfl (qT (by omega))) rfl rfl ?_ | refine qv rfl (rr_eql rfl rfl (qF (by omega))) rfl rfl ?_ | refine qv rfl (rr_add64 rfl rfl (by omega) (by omega) rfl) rfl rfl ?_))
    exact E_ret1 rfl rfl fun w hm => hm.ret
  · rw [if_neg c1]
    by_cases c2 : b = a + 1
    · have hlt : a < word.length := by omega
      obtain ⟨b', off, rfl, hr⟩ := h7 (by omega)
      have hat := fun L => at_int (L := L) hr hlt
      rw [List.getElem?_eq_getElem hlt]
      generalize word[a] = y at *
      by_cases c3 : y = m
      · rw [if_pos ⟨c2, by rw [c3]⟩]
        repeat (first
          | refine qv rfl (qp rfl) rfl rfl ?_ | refine TL_nil ?_ | refine T_seq ?_ | refine T_region ?_ | refine qcT rfl ?_ | refine qcF rfl ?_ | refine T_skip ?_
          | refine T_ret ?_ | refine E_then ?_ | refine E_thenR ?_ | refine qs rfl rfl rfl rfl rfl rfl ?_
          | ((try refine qg rfl rfl rfl ?_); first | refine qv rfl (qp rfl) rfl rfl ?_ | refine qv rfl (rr_load1 TyC.ty rfl (at_blk (i := 0) rfl rfl)) rfl rfl ?_ | refine qv rfl (qfld FldC.fld rfl rfl) rfl rfl ?_ | refine qv rfl (rr_nilc rfl) rfl rfl ?_ | refine qv rfl (rr_eql rfl rfl (qT (by omega))) rfl rfl ?_ | refine qv rfl (rr_eql rfl rfl (qF (by omega))) rfl rfl ?_ | refine qv rfl (rr_add64 rfl rfl (by omega) (by omega) rfl) rfl rfl ?_))
        refine T_ord ([blkO g5 (symC (q, m)).toArray 47]) (.calm 0 (.calm 1 (.calm 2 (.calm 3 (.calm 4 (.calm 5 (.calm 6 (.calm 7 (.calm 8 (.calm 9 (.calm 10 (.calm 11 (.calm 12 (.calm 13 (.calm 14 (.calm 15 (.done))))))))))))))))) (fun _ h => h) (by kernel_rfl) (by kernel_rfl) (by intro c a d v w h; cases d <;> exact h) ?_
        repeat (first
          | ((first | refine TW_plain rfl rfl ?_ | refine TW_gmet rfl rfl rfl rfl ?_); first | refine TN_val (qp rfl) rfl rfl ?_ | refine TN_val (rr_load1 TyC.ty rfl (at_blk (i := 0) rfl rfl)) rfl rfl ?_ | refine TN_val (rr_load1 TyC.ty rfl (h3 _)) rfl rfl ?_ | refine TN_val (rr_load1 TyC.ty rfl (hat _)) rfl rfl ?_ | refine TN_val (qfld FldC.fld rfl rfl) rfl rfl ?_ | refine TN_val (rr_nilc rfl) rfl rfl ?_ | refine TN_val (rr_eql rfl rfl (qT (by omega))) rfl rfl ?_ | refine TN_val (rr_eql rfl rfl (qF (by omega))) rfl rfl ?_ | refine TN_val (rr_add64 rfl rfl (by omega) (by omega) rfl) rfl rfl ?_ | refine TN_val (rr_idx1 Und.eq TyC.ty rfl rfl hlt) rfl rfl ?_)
          | refine TW_skip rfl rfl rfl rfl rfl rfl rfl ?_ | refine TW_done ?_)
        repeat (first
          | refine qv rfl (qp rfl) rfl rfl ?_ | refine TL_nil ?_ | refine T_seq ?_ | refine T_region ?_ | refine qcT rfl ?_ | refine qcF rfl ?_ | refine T_skip ?_
          | refine T_ret ?_ | refine E_then ?_ | refine E_thenR ?_ | refine qs rfl rfl rfl rfl rfl rfl ?_
          | ((try refine qg rfl rfl rfl ?_); first | refine qv rfl (qp rfl) rfl rfl ?_ | refine qv rfl (qfld FldC.fld rfl rfl) rfl rfl ?_ | refine qv rfl (rr_nilc rfl) rfl rfl ?_ | refine qv rfl (rr_eql rfl rfl (qT (by omega))) rfl rfl ?_ | refine qv rfl (rr_eql rfl rfl (qF (by omega))) rfl rfl ?_ | refine qv rfl (rr_add64 rfl rfl (by omega) (by omega) rfl) rfl rfl ?_))
        exact E_ret1 rfl rfl fun w hm => hm.ret
      · rw [if_neg (fun h => c3 (by simpa using h.2))]
        repeat (first
          | refine qv rfl (qp rfl) rfl rfl ?_ | refine TL_nil ?_ | refine T_seq ?_ | refine T_region ?_ | refine qcT rfl ?_ | refine qcF rfl ?_ | refine T_skip ?_
          | refine T_ret ?_ | refine E_then ?_ | refine E_thenR ?_ | refine qs rfl rfl rfl rfl rfl rfl ?_
          | ((try refine qg rfl rfl rfl ?_); first | refine qv rfl (qp rfl) rfl rfl ?_ | refine qv rfl (rr_load1 TyC.ty rfl (at_blk (i := 0) rfl rfl)) rfl rfl ?_ | refine qv rfl (qfld FldC.fld rfl rfl) rfl rfl ?_ | refine qv rfl (rr_nilc rfl) rfl rfl ?_ | refine qv rfl (rr_eql rfl rfl (qT (by omega))) rfl rfl ?_ | refine qv rfl (rr_eql rfl rfl (qF (by omega))) rfl rfl ?_ | refine qv rfl (rr_add64 rfl rfl (by omega) (by omega) rfl) rfl rfl ?_))
        refine T_ord ([blkO g5 (symC (q, m)).toArray 47]) (.calm 0 (.calm 1 (.calm 2 (.calm 3 (.calm 4 (.calm 5 (.calm 6 (.calm 7 (.calm 8 (.calm 9 (.calm 10 (.calm 11 (.calm 12 (.calm 13 (.calm 14 (.calm 15 (.done))))))))))))))))) (fun _ h => h) (by kernel_rfl) (by kernel_rfl) (by intro c a d v w h; cases d <;> exact h) ?_
        repeat (first
          | ((first | refine TW_plain rfl rfl ?_ | refine TW_gmet rfl rfl rfl rfl ?_); first | refine TN_val (qp rfl) rfl rfl ?_ | refine TN_val (rr_load1 TyC.ty rfl (at_blk (i := 0) rfl rfl)) rfl rfl ?_ | refine TN_val (rr_load1 TyC.ty rfl (h3 _)) rfl rfl ?_ | refine TN_val (rr_load1 TyC.ty rfl (hat _)) rfl rfl ?_ | refine TN_val (qfld FldC.fld rfl rfl) rfl rfl ?_ | refine TN_val (rr_nilc rfl) rfl rfl ?_ | refine TN_val (rr_eql rfl rfl (qT (by omega))) rfl rfl ?_ | refine TN_val (rr_eql rfl rfl (qF (by omega))) rfl rfl ?_ | refine TN_val (rr_add64 rfl rfl (by omega) (by omega) rfl) rfl rfl ?_ | refine TN_val (rr_idx1 Und.eq TyC.ty rfl rfl hlt) rfl rfl ?_)
          | refine TW_skip rfl rfl rfl rfl rfl rfl rfl ?_ | refine TW_done ?_)
        repeat (first
          | refine qv rfl (qp rfl) rfl rfl ?_ | refine TL_nil ?_ | refine T_seq ?_ | refine T_region ?_ | refine qcT rfl ?_ | refine qcF rfl ?_ | refine T_skip ?_
          | refine T_ret ?_ | refine E_then ?_ | refine E_thenR ?_ | refine qs rfl rfl rfl rfl rfl rfl ?_
          | ((try refine qg rfl rfl rfl ?_); first | refine qv rfl (qp rfl) rfl rfl ?_ | refine qv rfl (qfld FldC.fld rfl rfl) rfl rfl ?_ | refine qv rfl (rr_nilc rfl) rfl rfl ?_ | refine qv rfl (rr_eql rfl rfl (qT (by omega))) rfl rfl ?_ | refine qv rfl (rr_eql rfl rfl (qF (by omega))) rfl rfl ?_ | refine qv rfl (rr_add64 rfl rfl (by omega) (by omega) rfl) rfl rfl ?_))
        exact E_ret1 rfl rfl fun w hm => hm.ret
    · rw [if_neg (fun h => c2 h.1)]
      repeat (first
        | refine qv rfl (qp rfl) rfl rfl ?_ | refine TL_nil ?_ | refine T_seq ?_ | refine T_region ?_ | refine qcT rfl ?_ | refine qcF rfl ?_ | refine T_skip ?_
        | refine T_ret ?_ | refine E_then ?_ | refine E_thenR ?_ | refine qs rfl rfl rfl rfl rfl rfl ?_
        | ((try refine qg rfl rfl rfl ?_); first | refine qv rfl (qp rfl) rfl rfl ?_ | refine qv rfl (rr_load1 TyC.ty rfl (at_blk (i := 0) rfl rfl)) rfl rfl ?_ | refine qv rfl (qfld FldC.fld rfl rfl) rfl rfl ?_ | refine qv rfl (rr_nilc rfl) rfl rfl ?_ | refine qv rfl (rr_eql rfl rfl (qT (by omega))) rfl rfl ?_ | refine qv rfl (rr_eql rfl rfl (qF (by omega))) rfl rfl ?_ | refine qv rfl (rr_add64 rfl rfl (by omega) (by omega) rfl) rfl rfl ?_))
      refine T_ord ([blkO g5 (symC (q, m)).toArray 47]) (.calm 0 (.calm 1 (.calm 2 (.calm 3 (.calm 4 (.calm 5 (.calm 6 (.calm 7 (.calm 8 (.calm 9 (.calm 10 (.calm 11 (.calm 12 (.calm 13 (.calm 14 (.calm 15 (.done))))))))))))))))) (fun _ h => h) (by kernel_rfl) (by kernel_rfl) (by intro c a d v w h; cases d <;> exact h) ?_
      repeat (first
        | ((first | refine TW_plain rfl rfl ?_ | refine TW_gmet rfl rfl rfl rfl ?_); first | refine TN_val (qp rfl) rfl rfl ?_ | refine TN_val (rr_load1 TyC.ty rfl (at_blk (i := 0) rfl rfl)) rfl rfl ?_ | refine TN_val (qfld FldC.fld rfl rfl) rfl rfl ?_ | refine TN_val (rr_nilc rfl) rfl rfl ?_ | refine TN_val (rr_eql rfl rfl (qT (by omega))) rfl rfl ?_ | refine TN_val (rr_eql rfl rfl (qF (by omega))) rfl rfl ?_ | refine TN_val (rr_add64 rfl rfl (by omega) (by omega) rfl) rfl rfl ?_)
        | refine TW_skip rfl rfl rfl rfl rfl rfl rfl ?_ | refine TW_done ?_)
      repeat (first
        | refine qv rfl (qp rfl) rfl rfl ?_ | refine TL_nil ?_ | refine T_seq ?_ | refine T_region ?_ | refine qcT rfl ?_ | refine qcF rfl ?_ | refine T_skip ?_
        | refine T_ret ?_ | refine E_then ?_ | refine E_thenR ?_ | refine qs rfl rfl rfl rfl rfl rfl ?_
        | ((try refine qg rfl rfl rfl ?_); first | refine qv rfl (qp rfl) rfl rfl ?_ | refine qv rfl (qfld FldC.fld rfl rfl) rfl rfl ?_ | refine qv rfl (rr_nilc rfl) rfl rfl ?_ | refine qv rfl (rr_eql rfl rfl (qT (by omega))) rfl rfl ?_ | refine qv rfl (rr_eql rfl rfl (qF (by omega))) rfl rfl ?_ | refine qv rfl (rr_add64 rfl rfl (by omega) (by omega) rfl) rfl rfl ?_))
      exact E_ret1 rfl rfl fun w hm => hm.ret
end Go.Proofs.Ytkkiopmdcolobaa.eng

/- CountB -/
namespace Go.Proofs.Ytkkiopmdcolobaa.eng
open Go.RowKit kit mix gramL countL
def natV (n : Nat) : Value := .int .i64 (n : Int)
def rowT (g len : Nat) (f : Nat → Nat) : Own := rowO 3 1 (.slice (some ⟨g, 0, none⟩) len len) len ((tab len f).map natV)
theorem at_tab {W : Base} {L : List Own} {i g len k : Nat} {f : Nat → Nat} (hi : L[i]? = some (rowT g len f)) (hk : k < len) : At W L ⟨g, 0 + k, none⟩ (natV (f k)) := at_row hi (by rw [Nat.zero_add, List.getElem?_map, tab_get f hk]; rfl)
theorem rowT_set {g len k v : Nat} {f f' : Nat → Nat} (h : ∀ i, i < len → f' i = if i = k then v else f i) : rowO 3 1 (.slice (some ⟨g, 0, none⟩) len len) len (((tab len f).map natV).set k (natV v)) = rowT g len f' := by
  unfold rowT
  rw [← List.map_set, tab_set f f' k v h]
theorem tab_const (len : Nat) : (tab len fun _ => 0).map natV = List.replicate len (.int .i64 0) := by
  unfold tab
  rw [List.map_map]
  apply List.ext_getElem?
  intro i
  by_cases h : i < len <;> simp [h, natV]
theorem TL_storeT {P : Program} {n : Nat} {W : Base} {fr : Fr} {L : List Own} {Q : Exit → Act → World → Prop} {ops : Array Oper} {rest : List Oper} {ty : TypeId} {pos : String} {after : Array Edge} {t : TypeId} {p x : Operand} {i g off len v : Nat} {f : Nat → Nat} (f' : Nat → Nat) (hT : Ty P t false 1) (hi : L[i]? = some (rowT g len f)) (hp : ev fr p = some (.pointer (some ⟨g, 0 + off, none⟩))) (hx : ev fr x = some (natV v)) (hk : off < len) (hf : ∀ i, i < len → f' i = if i = off then v else f i)
    (h : TL P n W ops Q rest fr (L.set i (rowT g len f'))) : TL P n W ops Q (⟨none, .store t p x, ty, pos, after, none⟩ :: rest) fr L :=
  TL_storeRow hT hi hp hx rfl rfl rfl (by rw [List.length_map, tab_len, Nat.zero_add]; exact hk) (by rw [Nat.zero_add, rowT_set hf]; exact h)
theorem atMostN_calls (m : Nat) (w : World) : Calls Try.prog 71 #[.int .i64 (m : Int)] w (Meets (ret (natV (min m 2))) w) := by
  have h := atMost_calls (m : Int) w
  rw [show min (m : Int) 2 = ((min m 2 : Nat) : Int) by omega] at h
  exact h
set_option maxHeartbeats 4000000 in
theorem row_calls (gc gm : Nat) (t n : Int) (vp vw vb : Value) (word : List Int) (c : Chart) (B : Nat) (body : List Sym) (a b : Nat) (w : World) (h : ChR w gc gm t n vp vw word c B) (hs : Sl w vb body.length (body.flatMap symC)) (hok : ∀ x ∈ body, kit.okI64 x.2) (hc : ∀ x, c x ≤ 2) (hab : a ≤ b) (hb : b ≤ word.length) (hw : word.length ≤ 20) :
    Calls Try.prog 67 #[.pointer (some ⟨gc, 0, none⟩), vb, .int .i64 (a : Int), .int .i64 (b : Int)] w (Meets (ret (.int .i64 (rowF (oneF c word) body a b : Nat))) w) := by
  have hone := fun x a' b' w' (hg : Gr w w') => one_calls gc gm t n vp vw word c B x a' b' w' (h.gr hg)
  obtain ⟨bb, cb, rfl, h4, h5, h6⟩ := hs
  unfold maxLen at h5
  obtain ⟨d, rfl⟩ : ∃ d, b = a + d := ⟨b - a, by omega⟩
  have ho := oneF_le hc word
  unfold rowF
  rw [show a + d - a = d by omega]
  generalize oneF c word = o at *
  refine enter (args := [.pointer (some ⟨gc, 0, none⟩), .slice bb body.length cb, .int .i64 (a : Int), .int .i64 ((a + d : Nat) : Int)]) (n := 79) Try.func67 rfl rfl rfl ?_
  repeat (first
    | refine qv rfl (qp rfl) rfl rfl ?_ | refine TL_nil ?_ | refine T_seq ?_ | refine T_region ?_ | refine qcT rfl ?_ | refine qcF rfl ?_ | refine T_skip ?_
    | refine T_exit ?_ | refine T_ret ?_ | refine T_block ?_ | refine E_then ?_ | refine E_thenX ?_ | refine E_thenR ?_ | refine E_blockN ?_
    | refine E_blockR ?_ | refine E_blockX ?_ | refine E_blockO rfl ?_ | refine qs rfl rfl rfl rfl rfl rfl ?_
    | ((try refine qg rfl rfl rfl ?_); first | refine qv rfl (qp rfl) rfl rfl ?_ | refine qv rfl (rr_sub64 (r := (d : Int)) rfl rfl (by omega) (by omega) (by omega)) rfl rfl ?_ | refine qv rfl (rr_add64 (r := ((d + 1 : Nat) : Int)) rfl rfl (by omega) (by omega) (by omega)) rfl rfl ?_ | refine qv rfl (qlen Und.eq rfl) rfl rfl ?_ | refine qv rfl (rr_lss rfl rfl (qT (by omega))) rfl rfl ?_ | refine qv rfl (rr_lss rfl rfl (qF (by omega))) rfl rfl ?_ | refine qv rfl (rr_add64 rfl rfl (by omega) (by omega) rfl) rfl rfl ?_ | refine qv rfl (rr_sub64 rfl rfl (by omega) (by omega) rfl) rfl rfl ?_ | refine qv rfl (rr_mul64 rfl rfl (by omega) (by omega) rfl) rfl rfl ?_ | refine qv rfl (rr_gtr rfl rfl (qT (by omega))) rfl rfl ?_ | refine qv rfl (rr_gtr rfl rfl (qF (by omega))) rfl rfl ?_))
  refine TL_makeRow rfl rfl (by omega) (by omega) rfl fun g0 => ?_
  rw [← tab_const]
  repeat (first
    | refine qv rfl (qp rfl) rfl rfl ?_ | refine TL_nil ?_ | refine T_seq ?_ | refine T_region ?_ | refine qcT rfl ?_ | refine qcF rfl ?_ | refine T_skip ?_
    | refine T_exit ?_ | refine T_ret ?_ | refine T_block ?_ | refine E_then ?_ | refine E_thenX ?_ | refine E_thenR ?_ | refine E_blockN ?_
    | refine E_blockR ?_ | refine E_blockX ?_ | refine E_blockO rfl ?_ | refine qs rfl rfl rfl rfl rfl rfl ?_
    | ((try refine qg rfl rfl rfl ?_); first | refine qv rfl (qp rfl) rfl rfl ?_ | refine qv rfl (rr_idx1 (j := 0) Und.eq TyC.ty rfl rfl (by omega)) rfl rfl ?_ | refine qv rfl (qlen Und.eq rfl) rfl rfl ?_ | refine qv rfl (rr_lss rfl rfl (qT (by omega))) rfl rfl ?_ | refine qv rfl (rr_lss rfl rfl (qF (by omega))) rfl rfl ?_ | refine qv rfl (rr_add64 rfl rfl (by omega) (by omega) rfl) rfl rfl ?_ | refine qv rfl (rr_sub64 rfl rfl (by omega) (by omega) rfl) rfl rfl ?_ | refine qv rfl (rr_mul64 rfl rfl (by omega) (by omega) rfl) rfl rfl ?_ | refine qv rfl (rr_gtr rfl rfl (qT (by omega))) rfl rfl ?_ | refine qv rfl (rr_gtr rfl rfl (qF (by omega))) rfl rfl ?_))
  refine TL_storeT (i := 0) (len := d + 1) (f := fun _ => 0) (v := 1) ways0 TyC.ty rfl rfl rfl (by omega) (fun i _ => rfl) ?_
  conv => arg 8; simp only [zA, zB, zC, zD, zE, zF, zG, zH, zI, rowS, ret, id_eq]
  repeat (first
    | refine qv rfl (qp rfl) rfl rfl ?_ | refine TL_nil ?_ | refine T_seq ?_ | refine T_region ?_ | refine qcT rfl ?_ | refine qcF rfl ?_ | refine T_skip ?_
    | refine T_exit ?_ | refine T_ret ?_ | refine T_block ?_ | refine E_then ?_ | refine E_thenX ?_ | refine E_thenR ?_ | refine E_blockN ?_
    | refine E_blockR ?_ | refine E_blockX ?_ | refine E_blockO rfl ?_ | refine qs rfl rfl rfl rfl rfl rfl ?_
    | ((try refine qg rfl rfl rfl ?_); first | refine qv rfl (qp rfl) rfl rfl ?_ | refine qv rfl (qlen Und.eq rfl) rfl rfl ?_ | refine qv rfl (rr_lss rfl rfl (qT (by omega))) rfl rfl ?_ | refine qv rfl (rr_lss rfl rfl (qF (by omega))) rfl rfl ?_ | refine qv rfl (rr_add64 rfl rfl (by omega) (by omega) rfl) rfl rfl ?_ | refine qv rfl (rr_sub64 rfl rfl (by omega) (by omega) rfl) rfl rfl ?_ | refine qv rfl (rr_mul64 rfl rfl (by omega) (by omega) rfl) rfl rfl ?_ | refine qv rfl (rr_gtr rfl rfl (qT (by omega))) rfl rfl ?_ | refine qv rfl (rr_gtr rfl rfl (qF (by omega))) rfl rfl ?_))
  refine T_loop (ι := Nat × Nat × (Nat → Nat)) (fun (k, g, f) => k ≤ body.length ∧ (∀ b, f b ≤ 2) ∧ waysF o a (body.drop k) f d = waysF o a body ways0 d) (fun (k, g, f) => [(0, .pointer (some ⟨gc, 0, none⟩)), (2, .int .i64 (a : Int)), (3, .int .i64 ((a + d : Nat) : Int)), (9, .slice (some ⟨g, 0, none⟩) (d + 1) (d + 1)), (23, .slice bb body.length cb), (24, .int .i64 body.length), (25, .int .i64 (k : Int))])
    (fun (k, g, f) => [rowT g (d + 1) f]) (fun (k, _, _) => body.length - k) (0, g0, ways0) ⟨Nat.zero_le _, ways0_le, rfl⟩ (by repeat' (first | exact True.intro | refine And.intro rfl ?_)) rfl ?_
  rintro ⟨k, g, f⟩ ⟨i1, i2, i3⟩
  dsimp only at i1 i2 i3 ⊢
  rw [← i3]
  clear i3
  by_cases c6 : k < body.length
  · obtain ⟨b', off, rfl, hr⟩ := h6 (by omega)
    have hat := fun L => at_el (L := L) SymS_len hr c6
    have hokx := hok body[k] (List.getElem_mem c6)
    rw [List.drop_eq_getElem_cons c6, waysF]
    clear hr h6
    have hox := ho body[k]
    have hone := fun a' b' w' hg => hone body[k] a' b' w' hg hokx
    generalize body[k] = x at *
    obtain ⟨q, m⟩ := x
    repeat (first
      | refine qv rfl (qp rfl) rfl rfl ?_ | refine TL_nil ?_ | refine T_seq ?_ | refine T_region ?_ | refine qcT rfl ?_ | refine qcF rfl ?_ | refine T_skip ?_
      | refine T_exit ?_ | refine T_ret ?_ | refine T_block ?_ | refine E_then ?_ | refine E_thenX ?_ | refine E_thenR ?_ | refine E_blockN ?_
      | refine E_blockR ?_ | refine E_blockX ?_ | refine E_blockO rfl ?_ | refine qs rfl rfl rfl rfl rfl rfl ?_
      | ((try refine qg rfl rfl rfl ?_); first | refine qv rfl (qp rfl) rfl rfl ?_ | refine qv rfl (rr_idxc Und.eq TyC.ty rfl rfl c6) rfl rfl ?_ | refine qv rfl (rr_loadN TyC.ty rfl rfl (hat _)) rfl rfl ?_ | refine qv rfl (qlen Und.eq rfl) rfl rfl ?_ | refine qv rfl (rr_lss rfl rfl (qT (by omega))) rfl rfl ?_ | refine qv rfl (rr_lss rfl rfl (qF (by omega))) rfl rfl ?_ | refine qv rfl (rr_add64 rfl rfl (by omega) (by omega) rfl) rfl rfl ?_ | refine qv rfl (rr_sub64 rfl rfl (by omega) (by omega) rfl) rfl rfl ?_ | refine qv rfl (rr_mul64 rfl rfl (by omega) (by omega) rfl) rfl rfl ?_ | refine qv rfl (rr_gtr rfl rfl (qT (by omega))) rfl rfl ?_ | refine qv rfl (rr_gtr rfl rfl (qF (by omega))) rfl rfl ?_))
    refine TL_new rfl fun g11 => ?_
    refine TL_storeB (i := 1) rfl rfl rfl rfl rfl rfl ?_
    conv => arg 8; simp only [zA, zB, zC, zD, zE, zF, zG, zH, zI, rowS, ret, id_eq]
    repeat (first
      | refine qv rfl (qp rfl) rfl rfl ?_ | refine TL_nil ?_ | refine T_seq ?_ | refine T_region ?_ | refine qcT rfl ?_ | refine qcF rfl ?_ | refine T_skip ?_
      | refine T_exit ?_ | refine T_ret ?_ | refine T_block ?_ | refine E_then ?_ | refine E_thenX ?_ | refine E_thenR ?_ | refine E_blockN ?_
      | refine E_blockR ?_ | refine E_blockX ?_ | refine E_blockO rfl ?_ | refine qs rfl rfl rfl rfl rfl rfl ?_
      | ((try refine qg rfl rfl rfl ?_); first | refine qv rfl (qp rfl) rfl rfl ?_ | refine qv rfl (qlen Und.eq rfl) rfl rfl ?_ | refine qv rfl (rr_lss rfl rfl (qT (by omega))) rfl rfl ?_ | refine qv rfl (rr_lss rfl rfl (qF (by omega))) rfl rfl ?_ | refine qv rfl (rr_add64 rfl rfl (by omega) (by omega) rfl) rfl rfl ?_ | refine qv rfl (rr_sub64 rfl rfl (by omega) (by omega) rfl) rfl rfl ?_ | refine qv rfl (rr_mul64 rfl rfl (by omega) (by omega) rfl) rfl rfl ?_ | refine qv rfl (rr_gtr rfl rfl (qT (by omega))) rfl rfl ?_ | refine qv rfl (rr_gtr rfl rfl (qF (by omega))) rfl rfl ?_))
    refine TL_makeRow rfl rfl (by omega) (by omega) rfl fun g12 => ?_
    rw [← tab_const]
    conv => arg 8; simp only [zA, zB, zC, zD, zE, zF, zG, zH, zI, rowS, ret, id_eq]
    repeat (first
      | refine qv rfl (qp rfl) rfl rfl ?_ | refine TL_nil ?_ | refine T_seq ?_ | refine T_region ?_ | refine qcT rfl ?_ | refine qcF rfl ?_ | refine T_skip ?_
      | refine T_exit ?_ | refine T_ret ?_ | refine T_block ?_ | refine E_then ?_ | refine E_thenX ?_ | refine E_thenR ?_ | refine E_blockN ?_
      | refine E_blockR ?_ | refine E_blockX ?_ | refine E_blockO rfl ?_ | refine qs rfl rfl rfl rfl rfl rfl ?_
      | ((try refine qg rfl rfl rfl ?_); first | refine qv rfl (qp rfl) rfl rfl ?_ | refine qv rfl (qlen Und.eq rfl) rfl rfl ?_ | refine qv rfl (rr_lss rfl rfl (qT (by omega))) rfl rfl ?_ | refine qv rfl (rr_lss rfl rfl (qF (by omega))) rfl rfl ?_ | refine qv rfl (rr_add64 rfl rfl (by omega) (by omega) rfl) rfl rfl ?_ | refine qv rfl (rr_sub64 rfl rfl (by omega) (by omega) rfl) rfl rfl ?_ | refine qv rfl (rr_mul64 rfl rfl (by omega) (by omega) rfl) rfl rfl ?_ | refine qv rfl (rr_gtr rfl rfl (qT (by omega))) rfl rfl ?_ | refine qv rfl (rr_gtr rfl rfl (qF (by omega))) rfl rfl ?_))
    generalize hO : (fun i j => o (q, m) (a + i) (a + j)) = O
    refine T_loop (ι := Nat) (fun i => i ≤ d + 1) (fun i => [(0, .pointer (some ⟨gc, 0, none⟩)), (2, .int .i64 (a : Int)), (3, .int .i64 ((a + d : Nat) : Int)), (9, .slice (some ⟨g, 0, none⟩) (d + 1) (d + 1)), (11, .pointer (some ⟨g11, 0, none⟩)), (12, .slice (some ⟨g12, 0, none⟩) (d + 1) (d + 1)), (23, .slice (some ⟨b', off, none⟩) body.length cb), (24, .int .i64 body.length), (25, .int .i64 (k : Int)), (32, .slice (some ⟨g, 0, none⟩) (d + 1) (d + 1)), (33, .int .i64 ((d + 1 : Nat) : Int)), (34, .int .i64 (i : Int))])
      (fun i => [rowT g (d + 1) f, blkO g11 (symC (q, m)).toArray 47, rowT g12 (d + 1) (partF O f i)]) (fun i => d + 1 - i) 0 (Nat.zero_le _) (by repeat' (first | exact True.intro | refine And.intro rfl ?_)) (by rw [show partF O f 0 = fun _ => 0 from funext (partF_0 O f)]; rfl) ?_
    intro i j1
    by_cases c7 : i < d + 1
    · have hfi := i2 i
      repeat (first
        | refine qv rfl (qp rfl) rfl rfl ?_ | refine TL_nil ?_ | refine T_seq ?_ | refine T_region ?_ | refine qcT rfl ?_ | refine qcF rfl ?_ | refine T_skip ?_
        | refine T_exit ?_ | refine T_ret ?_ | refine T_block ?_ | refine E_then ?_ | refine E_thenX ?_ | refine E_thenR ?_ | refine E_blockN ?_
        | refine E_blockR ?_ | refine E_blockX ?_ | refine E_blockO rfl ?_ | refine qs rfl rfl rfl rfl rfl rfl ?_
        | ((try refine qg rfl rfl rfl ?_); first | refine qv rfl (qp rfl) rfl rfl ?_ | refine qv rfl (rr_idx1 Und.eq TyC.ty rfl rfl c7) rfl rfl ?_ | refine qv rfl (rr_load1 TyC.ty rfl (at_tab (i := 0) rfl c7)) rfl rfl ?_ | refine qv rfl (qlen Und.eq rfl) rfl rfl ?_ | refine qv rfl (rr_lss rfl rfl (qT (by omega))) rfl rfl ?_ | refine qv rfl (rr_lss rfl rfl (qF (by omega))) rfl rfl ?_ | refine qv rfl (rr_add64 rfl rfl (by omega) (by omega) rfl) rfl rfl ?_ | refine qv rfl (rr_sub64 rfl rfl (by omega) (by omega) rfl) rfl rfl ?_ | refine qv rfl (rr_mul64 rfl rfl (by omega) (by omega) rfl) rfl rfl ?_ | refine qv rfl (rr_gtr rfl rfl (qT (by omega))) rfl rfl ?_ | refine qv rfl (rr_gtr rfl rfl (qF (by omega))) rfl rfl ?_))
      refine T_loop (ι := Nat) (fun b => i ≤ b ∧ b ≤ d + 1) (fun b => [(0, .pointer (some ⟨gc, 0, none⟩)), (2, .int .i64 (a : Int)), (3, .int .i64 ((a + d : Nat) : Int)), (9, .slice (some ⟨g, 0, none⟩) (d + 1) (d + 1)), (11, .pointer (some ⟨g11, 0, none⟩)), (12, .slice (some ⟨g12, 0, none⟩) (d + 1) (d + 1)), (13, .int .i64 (i : Int)), (14, natV (f i)), (15, .int .i64 (b : Int)), (23, .slice (some ⟨b', off, none⟩) body.length cb), (24, .int .i64 body.length), (25, .int .i64 (k : Int)), (32, .slice (some ⟨g, 0, none⟩) (d + 1) (d + 1)), (33, .int .i64 ((d + 1 : Nat) : Int)), (34, .int .i64 (i : Int))])
        (fun b => [rowT g (d + 1) f, blkO g11 (symC (q, m)).toArray 47, rowT g12 (d + 1) (mixF O f i b)]) (fun b => d + 1 - b) i ⟨Nat.le_refl _, by omega⟩ (by repeat' (first | exact True.intro | refine And.intro rfl ?_)) (by rw [mixF_0]) ?_
      rintro b ⟨b1, b2⟩
      by_cases c8 : f i = 0
      · rw [mixF_none O f c8]
        rw [c8] at *
        by_cases c9 : b < d + 1
        · repeat (first
            | refine qv rfl (qp rfl) rfl rfl ?_ | refine TL_nil ?_ | refine T_seq ?_ | refine T_region ?_ | refine qcT rfl ?_ | refine qcF rfl ?_ | refine T_skip ?_
            | refine T_exit ?_ | refine T_ret ?_ | refine T_block ?_ | refine E_then ?_ | refine E_thenX ?_ | refine E_thenR ?_ | refine E_blockN ?_
            | refine E_blockR ?_ | refine E_blockX ?_ | refine E_blockO rfl ?_ | refine qs rfl rfl rfl rfl rfl rfl ?_
            | ((try refine qg rfl rfl rfl ?_); first | refine qv rfl (qp rfl) rfl rfl ?_ | refine qv rfl (qlen Und.eq rfl) rfl rfl ?_ | refine qv rfl (rr_lss rfl rfl (qT (by omega))) rfl rfl ?_ | refine qv rfl (rr_lss rfl rfl (qF (by omega))) rfl rfl ?_ | refine qv rfl (rr_add64 rfl rfl (by omega) (by omega) rfl) rfl rfl ?_ | refine qv rfl (rr_sub64 rfl rfl (by omega) (by omega) rfl) rfl rfl ?_ | refine qv rfl (rr_mul64 rfl rfl (by omega) (by omega) rfl) rfl rfl ?_ | refine qv rfl (rr_gtr rfl rfl (qT (by omega))) rfl rfl ?_ | refine qv rfl (rr_gtr rfl rfl (qF (by omega))) rfl rfl ?_))
          exact E_round (i + 1) (by omega) (by show d + 1 - (i + 1) < d + 1 - i; omega) (by repeat' (first | exact True.intro | refine And.intro rfl ?_)) rfl
        · repeat (first
            | refine qv rfl (qp rfl) rfl rfl ?_ | refine TL_nil ?_ | refine T_seq ?_ | refine T_region ?_ | refine qcT rfl ?_ | refine qcF rfl ?_ | refine T_skip ?_
            | refine T_exit ?_ | refine T_ret ?_ | refine T_block ?_ | refine E_then ?_ | refine E_thenX ?_ | refine E_thenR ?_ | refine E_blockN ?_
            | refine E_blockR ?_ | refine E_blockX ?_ | refine E_blockO rfl ?_ | refine qs rfl rfl rfl rfl rfl rfl ?_
            | ((try refine qg rfl rfl rfl ?_); first | refine qv rfl (qp rfl) rfl rfl ?_ | refine qv rfl (qlen Und.eq rfl) rfl rfl ?_ | refine qv rfl (rr_lss rfl rfl (qT (by omega))) rfl rfl ?_ | refine qv rfl (rr_lss rfl rfl (qF (by omega))) rfl rfl ?_ | refine qv rfl (rr_add64 rfl rfl (by omega) (by omega) rfl) rfl rfl ?_ | refine qv rfl (rr_sub64 rfl rfl (by omega) (by omega) rfl) rfl rfl ?_ | refine qv rfl (rr_mul64 rfl rfl (by omega) (by omega) rfl) rfl rfl ?_ | refine qv rfl (rr_gtr rfl rfl (qT (by omega))) rfl rfl ?_ | refine qv rfl (rr_gtr rfl rfl (qF (by omega))) rfl rfl ?_))
          exact E_round (i + 1) (by omega) (by show d + 1 - (i + 1) < d + 1 - i; omega) (by repeat' (first | exact True.intro | refine And.intro rfl ?_)) rfl
      by_cases c9 : b < d + 1
      · have hp := partF_le O f i b
        have hst := partF_step O f b1
        have hld : ∀ L : List Own, L[2]? = some (rowT g12 (d + 1) (mixF O f i b)) → At w L ⟨g12, 0 + b, none⟩ (natV (partF O f i b)) := fun L h => by rw [← mixF_at O f i b]; exact at_tab h c9
        have hsf := mixF_step O f i b
        have hone := fun w' hg => hone (a + i) (a + b) w' hg (by omega) (by omega) hw
        have hob := hox (a + i) (a + b)
        have he : o (q, m) (a + i) (a + b) = O i b := by rw [← hO]
        rw [he] at hone hob
        have hm : ((f i : Nat) : Int) * ((O i b : Nat) : Int) = ((f i * O i b : Nat) : Int) := by simp
        have hmb : f i * O i b ≤ 4 := Nat.mul_le_mul hfi hob
        have hc8 : 0 < f i := by omega
        generalize f i = fi at *
        generalize O i b = oo at *
        generalize fi * oo = pr at *
        rw [hst] at hsf
        clear hst
        generalize partF O f i b = p at *
        repeat (first
          | refine qv rfl (qp rfl) rfl rfl ?_ | refine TL_nil ?_ | refine T_seq ?_ | refine T_region ?_ | refine qcT rfl ?_ | refine qcF rfl ?_ | refine T_skip ?_
          | refine T_exit ?_ | refine T_ret ?_ | refine T_block ?_ | refine E_then ?_ | refine E_thenX ?_ | refine E_thenR ?_ | refine E_blockN ?_
          | refine E_blockR ?_ | refine E_blockX ?_ | refine E_blockO rfl ?_ | refine qs rfl rfl rfl rfl rfl rfl ?_
          | ((try refine qg rfl rfl rfl ?_); first | refine qv rfl (qp rfl) rfl rfl ?_ | refine qv rfl (qlen Und.eq rfl) rfl rfl ?_ | refine qv rfl (rr_lss rfl rfl (qT (by omega))) rfl rfl ?_ | refine qv rfl (rr_lss rfl rfl (qF (by omega))) rfl rfl ?_ | refine qv rfl (rr_add64 rfl rfl (by omega) (by omega) rfl) rfl rfl ?_ | refine qv rfl (rr_sub64 rfl rfl (by omega) (by omega) rfl) rfl rfl ?_ | refine qv rfl (rr_mul64 rfl rfl (by omega) (by omega) rfl) rfl rfl ?_ | refine qv rfl (rr_gtr rfl rfl (qT (by omega))) rfl rfl ?_ | refine qv rfl (rr_gtr rfl rfl (qF (by omega))) rfl rfl ?_))
        refine T_ord ([blkO g11 (symC (q, m)).toArray 47]) (.calm 0 (.calm 1 (.calm 2 (.calm 3 (.calm 4 (.calm 6 (.calm 7 (.calm 8 (.calm 9 (.calm 10 (.calm 11 (.calm 12 (.calm 13 (.calm 14 (.calm 15 (.calm 16 (.one 5 (.calm 17 (.calm 18 (.calm 19 (.one 20 (.done)))))))))))))))))))))) (sub_pick [1] (by decide) rfl) (by kernel_rfl) (by kernel_rfl) (by intro c a d v w h; cases d <;> exact h) ?_
        repeat (first
          | ((first | refine TW_plain rfl rfl ?_ | refine TW_gmet rfl rfl rfl rfl ?_); first | refine TN_val (qp rfl) rfl rfl ?_ | refine TN_val (rr_idx1 Und.eq TyC.ty rfl rfl c9) rfl rfl ?_ | refine TN_val (rr_loadB (i := 0) TyC.ty rfl rfl rfl) rfl rfl ?_ | refine TN_val (rr_add64 (r := ((a + i : Nat) : Int)) rfl rfl (by omega) (by omega) (by omega)) rfl rfl ?_ | refine TN_val (rr_add64 (r := ((a + b : Nat) : Int)) rfl rfl (by omega) (by omega) (by omega)) rfl rfl ?_ | refine TN_val (qlen Und.eq rfl) rfl rfl ?_ | refine TN_val (rr_lss rfl rfl (qT (by omega))) rfl rfl ?_ | refine TN_val (rr_lss rfl rfl (qF (by omega))) rfl rfl ?_ | refine TN_val (rr_add64 rfl rfl (by omega) (by omega) rfl) rfl rfl ?_ | refine TN_val (rr_sub64 rfl rfl (by omega) (by omega) rfl) rfl rfl ?_ | refine TN_val (rr_mul64 rfl rfl (by omega) (by omega) rfl) rfl rfl ?_ | refine TN_val (rr_gtr rfl rfl (qT (by omega))) rfl rfl ?_ | refine TN_val (rr_gtr rfl rfl (qF (by omega))) rfl rfl ?_)
          | refine TW_skip rfl rfl rfl rfl rfl rfl rfl ?_ | refine TW_done ?_)
        refine TW_call rfl (he4 EntersC.en rfl rfl rfl rfl rfl) (fun w hm => hone _ hm.below) rfl rfl rfl ?_
        repeat (first
          | ((first | refine TW_plain rfl rfl ?_ | refine TW_gmet rfl rfl rfl rfl ?_); first | refine TN_val (qp rfl) rfl rfl ?_ | refine TN_val (rr_mul64 (r := (pr : Int)) rfl rfl (by rw [hm]; omega) (by rw [hm]; omega) hm) rfl rfl ?_ | refine TN_val (qlen Und.eq rfl) rfl rfl ?_ | refine TN_val (rr_lss rfl rfl (qT (by omega))) rfl rfl ?_ | refine TN_val (rr_lss rfl rfl (qF (by omega))) rfl rfl ?_ | refine TN_val (rr_add64 rfl rfl (by omega) (by omega) rfl) rfl rfl ?_ | refine TN_val (rr_sub64 rfl rfl (by omega) (by omega) rfl) rfl rfl ?_ | refine TN_val (rr_mul64 rfl rfl (by omega) (by omega) rfl) rfl rfl ?_ | refine TN_val (rr_gtr rfl rfl (qT (by omega))) rfl rfl ?_ | refine TN_val (rr_gtr rfl rfl (qF (by omega))) rfl rfl ?_)
          | refine TW_skip rfl rfl rfl rfl rfl rfl rfl ?_ | refine TW_done ?_)
        refine TW_one rfl (TL_val (rr_load1 TyC.ty rfl (hld _ rfl)) rfl rfl rfl (TW_on (sub_pick [1] (by decide) rfl) ?_))
        repeat (first
          | ((first | refine TW_plain rfl rfl ?_ | refine TW_gmet rfl rfl rfl rfl ?_); first | refine TN_val (qp rfl) rfl rfl ?_ | refine TN_val (rr_add64 (r := ((p + pr : Nat) : Int)) rfl rfl (by omega) (by omega) (by omega)) rfl rfl ?_ | refine TN_val (qlen Und.eq rfl) rfl rfl ?_ | refine TN_val (rr_lss rfl rfl (qT (by omega))) rfl rfl ?_ | refine TN_val (rr_lss rfl rfl (qF (by omega))) rfl rfl ?_ | refine TN_val (rr_add64 rfl rfl (by omega) (by omega) rfl) rfl rfl ?_ | refine TN_val (rr_sub64 rfl rfl (by omega) (by omega) rfl) rfl rfl ?_ | refine TN_val (rr_mul64 rfl rfl (by omega) (by omega) rfl) rfl rfl ?_ | refine TN_val (rr_gtr rfl rfl (qT (by omega))) rfl rfl ?_ | refine TN_val (rr_gtr rfl rfl (qF (by omega))) rfl rfl ?_)
          | refine TW_skip rfl rfl rfl rfl rfl rfl rfl ?_ | refine TW_done ?_)
        refine TW_call rfl (he1 EntersC.en rfl rfl) (fun w hm => atMostN_calls (p + pr) w) rfl rfl rfl ?_
        repeat (first
          | ((first | refine TW_plain rfl rfl ?_ | refine TW_gmet rfl rfl rfl rfl ?_); first | refine TN_val (qp rfl) rfl rfl ?_ | refine TN_val (rr_idx1 Und.eq TyC.ty rfl rfl c9) rfl rfl ?_ | refine TN_val (qlen Und.eq rfl) rfl rfl ?_ | refine TN_val (rr_lss rfl rfl (qT (by omega))) rfl rfl ?_ | refine TN_val (rr_lss rfl rfl (qF (by omega))) rfl rfl ?_ | refine TN_val (rr_add64 rfl rfl (by omega) (by omega) rfl) rfl rfl ?_ | refine TN_val (rr_sub64 rfl rfl (by omega) (by omega) rfl) rfl rfl ?_ | refine TN_val (rr_mul64 rfl rfl (by omega) (by omega) rfl) rfl rfl ?_ | refine TN_val (rr_gtr rfl rfl (qT (by omega))) rfl rfl ?_ | refine TN_val (rr_gtr rfl rfl (qF (by omega))) rfl rfl ?_)
          | refine TW_skip rfl rfl rfl rfl rfl rfl rfl ?_ | refine TW_done ?_)
        refine TW_one rfl (TL_storeT (i := 2) (v := min (p + pr) 2) (mixF O f i (b + 1)) TyC.ty rfl rfl rfl c9 (fun j _ => hsf j) ?_)
        conv => arg 8; simp only [zA, zB, zC, zD, zE, zF, zG, zH, zI, rowS, ret, id_eq]
        refine TW_on (sub_pick [1] (by decide) rfl) ?_
        repeat (first
          | ((first | refine TW_plain rfl rfl ?_ | refine TW_gmet rfl rfl rfl rfl ?_); first | refine TN_val (qp rfl) rfl rfl ?_ | refine TN_val (qlen Und.eq rfl) rfl rfl ?_ | refine TN_val (rr_lss rfl rfl (qT (by omega))) rfl rfl ?_ | refine TN_val (rr_lss rfl rfl (qF (by omega))) rfl rfl ?_ | refine TN_val (rr_add64 rfl rfl (by omega) (by omega) rfl) rfl rfl ?_ | refine TN_val (rr_sub64 rfl rfl (by omega) (by omega) rfl) rfl rfl ?_ | refine TN_val (rr_mul64 rfl rfl (by omega) (by omega) rfl) rfl rfl ?_ | refine TN_val (rr_gtr rfl rfl (qT (by omega))) rfl rfl ?_ | refine TN_val (rr_gtr rfl rfl (qF (by omega))) rfl rfl ?_)
          | refine TW_skip rfl rfl rfl rfl rfl rfl rfl ?_ | refine TW_done ?_)
        repeat (first
          | refine qv rfl (qp rfl) rfl rfl ?_ | refine TL_nil ?_ | refine T_seq ?_ | refine T_region ?_ | refine qcT rfl ?_ | refine qcF rfl ?_ | refine T_skip ?_
          | refine T_exit ?_ | refine T_ret ?_ | refine T_block ?_ | refine E_then ?_ | refine E_thenX ?_ | refine E_thenR ?_ | refine E_blockN ?_
          | refine E_blockR ?_ | refine E_blockX ?_ | refine E_blockO rfl ?_ | refine qs rfl rfl rfl rfl rfl rfl ?_
          | ((try refine qg rfl rfl rfl ?_); first | refine qv rfl (qp rfl) rfl rfl ?_ | refine qv rfl (qlen Und.eq rfl) rfl rfl ?_ | refine qv rfl (rr_lss rfl rfl (qT (by omega))) rfl rfl ?_ | refine qv rfl (rr_lss rfl rfl (qF (by omega))) rfl rfl ?_ | refine qv rfl (rr_add64 rfl rfl (by omega) (by omega) rfl) rfl rfl ?_ | refine qv rfl (rr_sub64 rfl rfl (by omega) (by omega) rfl) rfl rfl ?_ | refine qv rfl (rr_mul64 rfl rfl (by omega) (by omega) rfl) rfl rfl ?_ | refine qv rfl (rr_gtr rfl rfl (qT (by omega))) rfl rfl ?_ | refine qv rfl (rr_gtr rfl rfl (qF (by omega))) rfl rfl ?_))
        exact E_round (b + 1) ⟨by omega, by omega⟩ (by show d + 1 - (b + 1) < d + 1 - b; omega) (by repeat' (first | exact True.intro | refine And.intro rfl ?_)) rfl
      · repeat (first
          | refine qv rfl (qp rfl) rfl rfl ?_ | refine TL_nil ?_ | refine T_seq ?_ | refine T_region ?_ | refine qcT rfl ?_ | refine qcF rfl ?_ | refine T_skip ?_
          | refine T_exit ?_ | refine T_ret ?_ | refine T_block ?_ | refine E_then ?_ | refine E_thenX ?_ | refine E_thenR ?_ | refine E_blockN ?_
          | refine E_blockR ?_ | refine E_blockX ?_ | refine E_blockO rfl ?_ | refine qs rfl rfl rfl rfl rfl rfl ?_
          | ((try refine qg rfl rfl rfl ?_); first | refine qv rfl (qp rfl) rfl rfl ?_ | refine qv rfl (qlen Und.eq rfl) rfl rfl ?_ | refine qv rfl (rr_lss rfl rfl (qT (by omega))) rfl rfl ?_ | refine qv rfl (rr_lss rfl rfl (qF (by omega))) rfl rfl ?_ | refine qv rfl (rr_add64 rfl rfl (by omega) (by omega) rfl) rfl rfl ?_ | refine qv rfl (rr_sub64 rfl rfl (by omega) (by omega) rfl) rfl rfl ?_ | refine qv rfl (rr_mul64 rfl rfl (by omega) (by omega) rfl) rfl rfl ?_ | refine qv rfl (rr_gtr rfl rfl (qT (by omega))) rfl rfl ?_ | refine qv rfl (rr_gtr rfl rfl (qF (by omega))) rfl rfl ?_))
        exact E_round (i + 1) (by omega) (by show d + 1 - (i + 1) < d + 1 - i; omega) (by repeat' (first | exact True.intro | refine And.intro rfl ?_)) (by unfold rowT; rw [mixF_end O f (show d + 1 ≤ b by omega)])
    · repeat (first
        | refine qv rfl (qp rfl) rfl rfl ?_ | refine TL_nil ?_ | refine T_seq ?_ | refine T_region ?_ | refine qcT rfl ?_ | refine qcF rfl ?_ | refine T_skip ?_
        | refine T_exit ?_ | refine T_ret ?_ | refine T_block ?_ | refine E_then ?_ | refine E_thenX ?_ | refine E_thenR ?_ | refine E_blockN ?_
        | refine E_blockR ?_ | refine E_blockX ?_ | refine E_blockO rfl ?_ | refine qs rfl rfl rfl rfl rfl rfl ?_
        | ((try refine qg rfl rfl rfl ?_); first | refine qv rfl (qp rfl) rfl rfl ?_ | refine qv rfl (qlen Und.eq rfl) rfl rfl ?_ | refine qv rfl (rr_lss rfl rfl (qT (by omega))) rfl rfl ?_ | refine qv rfl (rr_lss rfl rfl (qF (by omega))) rfl rfl ?_ | refine qv rfl (rr_add64 rfl rfl (by omega) (by omega) rfl) rfl rfl ?_ | refine qv rfl (rr_sub64 rfl rfl (by omega) (by omega) rfl) rfl rfl ?_ | refine qv rfl (rr_mul64 rfl rfl (by omega) (by omega) rfl) rfl rfl ?_ | refine qv rfl (rr_gtr rfl rfl (qT (by omega))) rfl rfl ?_ | refine qv rfl (rr_gtr rfl rfl (qF (by omega))) rfl rfl ?_))
      refine E_pick [2] (by decide) rfl ?_
      have e1 : tab (d + 1) (partF O f i) = tab (d + 1) (nextF O f) := tab_congr fun j hj => partF_end O f (by omega)
      exact E_round (k + 1, g12, nextF O f) ⟨by omega, nextF_le O f, rfl⟩ (by show body.length - (k + 1) < body.length - k; omega) (by repeat' (first | exact True.intro | refine And.intro rfl ?_)) (by unfold rowT; rw [e1]; rfl)
  · rw [List.drop_of_length_le (by omega), waysF]
    repeat (first
      | refine qv rfl (qp rfl) rfl rfl ?_ | refine TL_nil ?_ | refine T_seq ?_ | refine T_region ?_ | refine qcT rfl ?_ | refine qcF rfl ?_ | refine T_skip ?_
      | refine T_exit ?_ | refine T_ret ?_ | refine T_block ?_ | refine E_then ?_ | refine E_thenX ?_ | refine E_thenR ?_ | refine E_blockN ?_
      | refine E_blockR ?_ | refine E_blockX ?_ | refine E_blockO rfl ?_ | refine qs rfl rfl rfl rfl rfl rfl ?_
      | ((try refine qg rfl rfl rfl ?_); first | refine qv rfl (qp rfl) rfl rfl ?_ | refine qv rfl (rr_sub64 (r := (d : Int)) rfl rfl (by omega) (by omega) (by omega)) rfl rfl ?_ | refine qv rfl (rr_idx1 Und.eq TyC.ty rfl rfl (show d < d + 1 by omega)) rfl rfl ?_ | refine qv rfl (rr_load1 TyC.ty rfl (at_tab (i := 0) rfl (show d < d + 1 by omega))) rfl rfl ?_ | refine qv rfl (qlen Und.eq rfl) rfl rfl ?_ | refine qv rfl (rr_lss rfl rfl (qT (by omega))) rfl rfl ?_ | refine qv rfl (rr_lss rfl rfl (qF (by omega))) rfl rfl ?_ | refine qv rfl (rr_add64 rfl rfl (by omega) (by omega) rfl) rfl rfl ?_ | refine qv rfl (rr_sub64 rfl rfl (by omega) (by omega) rfl) rfl rfl ?_ | refine qv rfl (rr_mul64 rfl rfl (by omega) (by omega) rfl) rfl rfl ?_ | refine qv rfl (rr_gtr rfl rfl (qT (by omega))) rfl rfl ?_ | refine qv rfl (rr_gtr rfl rfl (qF (by omega))) rfl rfl ?_))
    exact E_ret1 rfl rfl fun w hm => hm.ret
end Go.Proofs.Ytkkiopmdcolobaa.eng

/- CountC -/
namespace Go.Proofs.Ytkkiopmdcolobaa.eng
open Go.RowKit kit mix gramL countL
/-- what a grammar's productions are like -/
def FineC (n : Nat) (l : List gramL.Prod) : Prop := ∀ p ∈ l, 0 ≤ p.1 ∧ p.1 < (n : Int) ∧ ∀ x ∈ p.2, kit.okI64 x.2
attribute [local irreducible] Instr.build in
set_option maxHeartbeats 8000000 in
theorem roundC_calls (w0 : World) (gc gm n : Nat) (t : Int) (vp vw : Value) (word : List Int) (prods : List gramL.Prod) (c : Chart) (Bd a b : Nat) (hG : SlF prodS (fun k => k < w0.heap.size) w0 vp prods) (hW : Sl w0 vw word.length (word.map (.int .i64))) (hfine : FineC n prods) (hn : n ≤ 20) (hlen : prods.length ≤ 40) (hc : ∀ x, c x ≤ 2) (hab : a ≤ b) (hb : b ≤ word.length) (hw : word.length ≤ 20) (hBd : Bd ≤ 10000000) (w : World) (B : Base) (ho : Old w0 B) (hm : Mem B [blkO gc (chV t (n : Int) vp vw gm) 59, chM gm c Bd] w) :
    Calls Try.prog 61 #[.pointer (some ⟨gc, 0, none⟩), .int .i64 (a : Int), .int .i64 (b : Int)] w (MeetsB ⟨fun (_ : Unit) => True, fun _ => .bool (newB c word prods a b n), fun _ => [blkO gc (chV t (n : Int) vp vw gm) 59, chM gm (roundC c word prods n a b n) (Bd + n)]⟩ B) := by
  have hrow := fun vb body w' L (hm : Mem B L w') h1 h2 hs ok => row_calls gc gm t (n : Int) vp vw vb word c Bd body a b w' ⟨h1, h2, hW.gr (ho.mem hm)⟩ hs ok hc hab hb hw
  obtain ⟨bp, cp, rfl, hcp, hmp, hrp⟩ := hG
  unfold maxLen at hmp
  refine enterB hm (args := [.pointer (some ⟨gc, 0, none⟩), .int .i64 (a : Int), .int .i64 (b : Int)]) (n := 75) Try.func61 rfl rfl rfl ?_
  clear hm
  repeat (first
    | refine qv rfl (qp rfl) rfl rfl ?_ | refine TL_nil ?_ | refine T_seq ?_ | refine T_region ?_ | refine qcT rfl ?_ | refine qcF rfl ?_ | refine T_skip ?_
    | refine T_exit ?_ | refine T_ret ?_ | refine T_block ?_ | refine E_then ?_ | refine E_thenX ?_ | refine E_thenR ?_ | refine E_blockN ?_
    | refine E_blockR ?_ | refine E_blockX ?_ | refine E_blockO rfl ?_ | refine qv rfl (rr_load1 TyC.ty rfl (at_blk (i := 0) rfl rfl)) rfl rfl ?_
    | refine qv rfl (qlen Und.eq rfl) rfl rfl ?_ | refine qv rfl (qfld FldC.fld rfl rfl) rfl rfl ?_ | refine qv rfl (rr_nilc rfl) rfl rfl ?_
    | refine qv rfl (rr_lss rfl rfl (qT (by omega))) rfl rfl ?_ | refine qv rfl (rr_lss rfl rfl (qF (by omega))) rfl rfl ?_
    | refine qv rfl (rr_neq rfl rfl (qT (by omega))) rfl rfl ?_ | refine qv rfl (rr_neq rfl rfl (qF (by omega))) rfl rfl ?_
    | refine qv rfl (rr_add64 rfl rfl (by omega) (by omega) rfl) rfl rfl ?_)
  refine TL_makeRow rfl rfl (by omega) (by omega) rfl fun g7 => ?_
  rw [← tab_const]
  conv => arg 8; simp only [zA, zB, zC, zD, zE, zF, zG, zH, zI, rowS, ret, id_eq]
  repeat (first
    | refine qv rfl (qp rfl) rfl rfl ?_ | refine TL_nil ?_ | refine T_seq ?_ | refine T_region ?_ | refine qcT rfl ?_ | refine qcF rfl ?_ | refine T_skip ?_
    | refine T_exit ?_ | refine T_ret ?_ | refine T_block ?_ | refine E_then ?_ | refine E_thenX ?_ | refine E_thenR ?_ | refine E_blockN ?_
    | refine E_blockR ?_ | refine E_blockX ?_ | refine E_blockO rfl ?_ | refine qv rfl (rr_load1 TyC.ty rfl (at_blk (i := 0) rfl rfl)) rfl rfl ?_
    | refine qv rfl (qlen Und.eq rfl) rfl rfl ?_ | refine qv rfl (qfld FldC.fld rfl rfl) rfl rfl ?_ | refine qv rfl (rr_nilc rfl) rfl rfl ?_
    | refine qv rfl (rr_lss rfl rfl (qT (by omega))) rfl rfl ?_ | refine qv rfl (rr_lss rfl rfl (qF (by omega))) rfl rfl ?_
    | refine qv rfl (rr_neq rfl rfl (qT (by omega))) rfl rfl ?_ | refine qv rfl (rr_neq rfl rfl (qF (by omega))) rfl rfl ?_
    | refine qv rfl (rr_add64 rfl rfl (by omega) (by omega) rfl) rfl rfl ?_)
  refine T_loop (ι := Nat) (fun k => k ≤ prods.length) (fun k => [(0, .pointer (some ⟨gc, 0, none⟩)), (1, .int .i64 (a : Int)), (2, .int .i64 (b : Int)), (7, .slice (some ⟨g7, 0, none⟩) n n), (24, .slice bp prods.length cp), (25, .int .i64 prods.length), (26, .int .i64 (k : Int))])
    (fun k => [blkO gc (chV t (n : Int) (.slice bp prods.length cp) vw gm) 59, chM gm c Bd, rowT g7 n (nowF (oneF c word) (prods.take k) a b)]) (fun k => prods.length - k) 0 (Nat.zero_le _) (by repeat' (first | exact True.intro | refine And.intro rfl ?_)) (by rw [show nowF (oneF c word) (prods.take 0) a b = fun _ => 0 from funext fun i => by simp [nowF, sumP]]; rfl) ?_
  intro k i1
  by_cases c6 : k < prods.length
  · obtain ⟨b', off, rfl, _, hr⟩ := hrp (by omega)
    obtain ⟨bb, cb, q1, q2, q3⟩ := prod_at hr c6
    have hpk := hfine prods[k] (List.getElem_mem c6)
    have htk : prods.take (k + 1) = prods.take k ++ [prods[k]] := List.take_succ_eq_append_getElem c6
    have hat : ∀ (L : List Own) (j : Nat) (v : Value), ([.int .i64 prods[k].1, .slice bb prods[k].2.length cb] : List Value)[j]? = some v → At B L ⟨b', off + k * 2 + j, none⟩ v := fun L j v hj => at_old0 ho (q1 j v hj)
    have hfl := q3.flat (by decide)
    clear hr hrp q1 hfine q3
    generalize prods[k] = p at *
    obtain ⟨hd, body⟩ := p
    obtain ⟨p1, p2, p3⟩ := hpk
    dsimp only at *
    obtain ⟨h, rfl⟩ : ∃ h : Nat, hd = h := ⟨hd.toNat, by omega⟩
    have hh : h < n := by omega
    have hrow := fun w' L (hm : Mem B L w') h1 h2 => hrow (.slice bb body.length cb) body w' L hm h1 h2 (hfl.gr (ho.mem hm)) p3
    have hsn := fun i => nowF_snoc (oneF c word) a b ((h : Int), body) (prods.take k) (h := h) rfl i
    dsimp only at hsn
    rw [← htk] at hsn
    have hrl := rowF_le (oneF c word) body a b
    have hnl := nowF_le (oneF c word) (prods.take k) a b h
    generalize rowF (oneF c word) body a b = r at *
    have hld : ∀ L : List Own, L[2]? = some (rowT g7 n (nowF (oneF c word) (prods.take k) a b)) → At B L ⟨g7, 0 + h, none⟩ (natV (nowF (oneF c word) (prods.take k) a b h)) := fun L hL => at_tab hL hh
    generalize nowF (oneF c word) (prods.take k) a b h = q at *
    repeat (first
      | refine qv rfl (qp rfl) rfl rfl ?_ | refine TL_nil ?_ | refine T_seq ?_ | refine T_region ?_ | refine qcT rfl ?_ | refine qcF rfl ?_ | refine T_skip ?_
      | refine T_exit ?_ | refine T_ret ?_ | refine T_block ?_ | refine E_then ?_ | refine E_thenX ?_ | refine E_thenR ?_ | refine E_blockN ?_
      | refine E_blockR ?_ | refine E_blockX ?_ | refine E_blockO rfl ?_ | refine qv rfl (rr_idxc Und.eq TyC.ty rfl rfl c6) rfl rfl ?_
      | refine qv rfl (rr_loadN TyC.ty rfl rfl (hat _)) rfl rfl ?_ | refine qv rfl (qlen Und.eq rfl) rfl rfl ?_
      | refine qv rfl (qfld FldC.fld rfl rfl) rfl rfl ?_ | refine qv rfl (rr_nilc rfl) rfl rfl ?_ | refine qv rfl (rr_lss rfl rfl (qT (by omega))) rfl rfl ?_
      | refine qv rfl (rr_lss rfl rfl (qF (by omega))) rfl rfl ?_ | refine qv rfl (rr_neq rfl rfl (qT (by omega))) rfl rfl ?_
      | refine qv rfl (rr_neq rfl rfl (qF (by omega))) rfl rfl ?_ | refine qv rfl (rr_add64 rfl rfl (by omega) (by omega) rfl) rfl rfl ?_)
    clear hat
    refine TL_new rfl fun g9 => ?_
    refine TL_storeB (i := 3) rfl rfl rfl rfl rfl rfl ?_
    conv => arg 8; simp only [zA, zB, zC, zD, zE, zF, zG, zH, zI, rowS, ret, id_eq]
    repeat (first
      | refine qv rfl (qp rfl) rfl rfl ?_ | refine TL_nil ?_ | refine T_seq ?_ | refine T_region ?_ | refine qcT rfl ?_ | refine qcF rfl ?_ | refine T_skip ?_
      | refine T_exit ?_ | refine T_ret ?_ | refine T_block ?_ | refine E_then ?_ | refine E_thenX ?_ | refine E_thenR ?_ | refine E_blockN ?_
      | refine E_blockR ?_ | refine E_blockX ?_ | refine E_blockO rfl ?_ | refine qv rfl (qlen Und.eq rfl) rfl rfl ?_
      | refine qv rfl (qfld FldC.fld rfl rfl) rfl rfl ?_ | refine qv rfl (rr_nilc rfl) rfl rfl ?_ | refine qv rfl (rr_lss rfl rfl (qT (by omega))) rfl rfl ?_
      | refine qv rfl (rr_lss rfl rfl (qF (by omega))) rfl rfl ?_ | refine qv rfl (rr_neq rfl rfl (qT (by omega))) rfl rfl ?_
      | refine qv rfl (rr_neq rfl rfl (qF (by omega))) rfl rfl ?_ | refine qv rfl (rr_add64 rfl rfl (by omega) (by omega) rfl) rfl rfl ?_)
    refine T_ord ([blkO gc (chV t (n : Int) (.slice (some ⟨b', off, none⟩) prods.length cp) vw gm) 59, chM gm c Bd, blkO g9 #[.int .i64 (h : Int), .slice bb body.length cb] 46]) (.calm 0 (.calm 1 (.calm 2 (.calm 3 (.calm 4 (.calm 5 (.calm 6 (.calm 8 (.calm 9 (.calm 10 (.calm 11 (.calm 12 (.calm 13 (.one 7 (.calm 14 (.calm 15 (.calm 16 (.one 17 (.done))))))))))))))))))) (sub_pick [0, 1, 3] (by decide) rfl) (by kernel_rfl) (by kernel_rfl) (by intro c a d v w h; cases d <;> exact h) ?_
    repeat (first
      | ((first | refine TW_plain rfl rfl ?_ | refine TW_gmet rfl rfl rfl rfl ?_); first | refine TN_val (qp rfl) rfl rfl ?_ | refine TN_val (rr_load1 TyC.ty rfl (at_blk (i := 2) rfl rfl)) rfl rfl ?_ | refine TN_val (rr_idx1 Und.eq TyC.ty rfl rfl hh) rfl rfl ?_ | refine TN_val (qlen Und.eq rfl) rfl rfl ?_ | refine TN_val (qfld FldC.fld rfl rfl) rfl rfl ?_ | refine TN_val (rr_nilc rfl) rfl rfl ?_ | refine TN_val (rr_lss rfl rfl (qT (by omega))) rfl rfl ?_ | refine TN_val (rr_lss rfl rfl (qF (by omega))) rfl rfl ?_ | refine TN_val (rr_neq rfl rfl (qT (by omega))) rfl rfl ?_ | refine TN_val (rr_neq rfl rfl (qF (by omega))) rfl rfl ?_ | refine TN_val (rr_add64 rfl rfl (by omega) (by omega) rfl) rfl rfl ?_)
      | refine TW_done ?_)
    refine TW_call rfl (he4 EntersC.en rfl rfl rfl rfl rfl) (fun w hm => hrow _ _ hm (hm.get (i := 0) rfl) (hm.get (i := 1) rfl)) rfl rfl rfl ?_
    refine TW_one rfl (TL_val (rr_load1 TyC.ty rfl (hld _ rfl)) rfl rfl rfl (TW_on (sub_pick [0, 1, 3] (by decide) rfl) ?_))
    repeat (first
      | ((first | refine TW_plain rfl rfl ?_ | refine TW_gmet rfl rfl rfl rfl ?_); first | refine TN_val (qp rfl) rfl rfl ?_ | refine TN_val (rr_add64 (r := ((q + r : Nat) : Int)) rfl rfl (by omega) (by omega) (by omega)) rfl rfl ?_ | refine TN_val (qlen Und.eq rfl) rfl rfl ?_ | refine TN_val (qfld FldC.fld rfl rfl) rfl rfl ?_ | refine TN_val (rr_nilc rfl) rfl rfl ?_ | refine TN_val (rr_lss rfl rfl (qT (by omega))) rfl rfl ?_ | refine TN_val (rr_lss rfl rfl (qF (by omega))) rfl rfl ?_ | refine TN_val (rr_neq rfl rfl (qT (by omega))) rfl rfl ?_ | refine TN_val (rr_neq rfl rfl (qF (by omega))) rfl rfl ?_ | refine TN_val (rr_add64 rfl rfl (by omega) (by omega) rfl) rfl rfl ?_)
      | refine TW_done ?_)
    refine TW_call rfl (he1 EntersC.en rfl rfl) (fun w hm => atMostN_calls (q + r) w) rfl rfl rfl ?_
    repeat (first
      | ((first | refine TW_plain rfl rfl ?_ | refine TW_gmet rfl rfl rfl rfl ?_); first | refine TN_val (qp rfl) rfl rfl ?_ | refine TN_val (rr_idx1 Und.eq TyC.ty rfl rfl hh) rfl rfl ?_ | refine TN_val (qlen Und.eq rfl) rfl rfl ?_ | refine TN_val (qfld FldC.fld rfl rfl) rfl rfl ?_ | refine TN_val (rr_nilc rfl) rfl rfl ?_ | refine TN_val (rr_lss rfl rfl (qT (by omega))) rfl rfl ?_ | refine TN_val (rr_lss rfl rfl (qF (by omega))) rfl rfl ?_ | refine TN_val (rr_neq rfl rfl (qT (by omega))) rfl rfl ?_ | refine TN_val (rr_neq rfl rfl (qF (by omega))) rfl rfl ?_ | refine TN_val (rr_add64 rfl rfl (by omega) (by omega) rfl) rfl rfl ?_)
      | refine TW_done ?_)
    refine TW_one rfl (TL_storeT (i := 2) (v := min (q + r) 2) (nowF (oneF c word) (prods.take (k + 1)) a b) TyC.ty rfl rfl rfl hh (fun j _ => hsn j) ?_)
    conv => arg 8; simp only [zA, zB, zC, zD, zE, zF, zG, zH, zI, rowS, ret, id_eq]
    refine TW_on (sub_pick [0, 1, 3] (by decide) rfl) ?_
    repeat (first
      | ((first | refine TW_plain rfl rfl ?_ | refine TW_gmet rfl rfl rfl rfl ?_); first | refine TN_val (qp rfl) rfl rfl ?_ | refine TN_val (qlen Und.eq rfl) rfl rfl ?_ | refine TN_val (qfld FldC.fld rfl rfl) rfl rfl ?_ | refine TN_val (rr_nilc rfl) rfl rfl ?_ | refine TN_val (rr_lss rfl rfl (qT (by omega))) rfl rfl ?_ | refine TN_val (rr_lss rfl rfl (qF (by omega))) rfl rfl ?_ | refine TN_val (rr_neq rfl rfl (qT (by omega))) rfl rfl ?_ | refine TN_val (rr_neq rfl rfl (qF (by omega))) rfl rfl ?_ | refine TN_val (rr_add64 rfl rfl (by omega) (by omega) rfl) rfl rfl ?_)
      | refine TW_done ?_)
    repeat (first
      | refine qv rfl (qp rfl) rfl rfl ?_ | refine TL_nil ?_ | refine T_seq ?_ | refine T_region ?_ | refine qcT rfl ?_ | refine qcF rfl ?_ | refine T_skip ?_
      | refine T_exit ?_ | refine T_ret ?_ | refine T_block ?_ | refine E_then ?_ | refine E_thenX ?_ | refine E_thenR ?_ | refine E_blockN ?_
      | refine E_blockR ?_ | refine E_blockX ?_ | refine E_blockO rfl ?_ | refine qv rfl (qlen Und.eq rfl) rfl rfl ?_
      | refine qv rfl (qfld FldC.fld rfl rfl) rfl rfl ?_ | refine qv rfl (rr_nilc rfl) rfl rfl ?_ | refine qv rfl (rr_lss rfl rfl (qT (by omega))) rfl rfl ?_
      | refine qv rfl (rr_lss rfl rfl (qF (by omega))) rfl rfl ?_ | refine qv rfl (rr_neq rfl rfl (qT (by omega))) rfl rfl ?_
      | refine qv rfl (rr_neq rfl rfl (qF (by omega))) rfl rfl ?_ | refine qv rfl (rr_add64 rfl rfl (by omega) (by omega) rfl) rfl rfl ?_)
    refine E_pick [0, 1, 2] (by decide) rfl ?_
    exact E_round (k + 1) (by omega) (by show prods.length - (k + 1) < prods.length - k; omega) (by repeat' (first | exact True.intro | refine And.intro rfl ?_)) rfl
  · obtain rfl : k = prods.length := by omega
    rw [List.take_length]
    clear hrp hrow i1 c6
    repeat (first
      | refine qv rfl (qp rfl) rfl rfl ?_ | refine TL_nil ?_ | refine T_seq ?_ | refine T_region ?_ | refine qcT rfl ?_ | refine qcF rfl ?_ | refine T_skip ?_
      | refine T_exit ?_ | refine T_ret ?_ | refine T_block ?_ | refine E_then ?_ | refine E_thenX ?_ | refine E_thenR ?_ | refine E_blockN ?_
      | refine E_blockR ?_ | refine E_blockX ?_ | refine E_blockO rfl ?_ | refine qv rfl (qlen Und.eq rfl) rfl rfl ?_
      | refine qv rfl (qfld FldC.fld rfl rfl) rfl rfl ?_ | refine qv rfl (rr_nilc rfl) rfl rfl ?_ | refine qv rfl (rr_lss rfl rfl (qT (by omega))) rfl rfl ?_
      | refine qv rfl (rr_lss rfl rfl (qF (by omega))) rfl rfl ?_ | refine qv rfl (rr_neq rfl rfl (qT (by omega))) rfl rfl ?_
      | refine qv rfl (rr_neq rfl rfl (qF (by omega))) rfl rfl ?_ | refine qv rfl (rr_add64 rfl rfl (by omega) (by omega) rfl) rfl rfl ?_)
    refine T_loop (ι := Nat) (fun k => k ≤ n) (fun k => [(0, .pointer (some ⟨gc, 0, none⟩)), (1, .int .i64 (a : Int)), (2, .int .i64 (b : Int)), (10, .bool (newB c word prods a b k)), (48, .slice (some ⟨g7, 0, none⟩) n n), (49, .int .i64 (n : Int)), (50, .int .i64 (k : Int))])
      (fun k => [blkO gc (chV t (n : Int) (.slice bp prods.length cp) vw gm) 59, chM gm (roundC c word prods n a b k) (Bd + k), rowT g7 n (nowF (oneF c word) prods a b)]) (fun k => n - k) 0 (Nat.zero_le _) (by repeat' (first | exact True.intro | refine And.intro rfl ?_)) (by rw [roundC_0]; rfl) ?_
    intro k i1
    by_cases c6 : k < n
    · have hsp : spanK.ok ((k : Int), (a : Int), (b : Int)) := span_ok ⟨by omega, by omega⟩ (by omega) (by omega)
      have hst := roundC_step c word prods (a := a) (b := b) c6
      have hat := roundC_at c word prods n a b k
      have hnew : newB c word prods a b (k + 1) = (newB c word prods a b k || !decide (c ((k : Int), (a : Int), (b : Int)) = nowF (oneF c word) prods a b k)) := rfl
      have hld : ∀ L : List Own, L[2]? = some (rowT g7 n (nowF (oneF c word) prods a b)) → At B L ⟨g7, 0 + k, none⟩ (natV (nowF (oneF c word) prods a b k)) := fun L hL => at_tab hL c6
      generalize nowF (oneF c word) prods a b k = v at *
      generalize hcv : c ((k : Int), (a : Int), (b : Int)) = u at *
      repeat (first
        | refine qv rfl (qp rfl) rfl rfl ?_ | refine TL_nil ?_ | refine T_seq ?_ | refine T_region ?_ | refine qcT rfl ?_ | refine qcF rfl ?_ | refine T_skip ?_
        | refine T_exit ?_ | refine T_ret ?_ | refine T_block ?_ | refine E_then ?_ | refine E_thenX ?_ | refine E_thenR ?_ | refine E_blockN ?_
        | refine E_blockR ?_ | refine E_blockX ?_ | refine E_blockO rfl ?_ | refine qv rfl (rr_idx1 Und.eq TyC.ty rfl rfl c6) rfl rfl ?_
        | refine qv rfl (rr_load1 TyC.ty rfl (hld _ rfl)) rfl rfl ?_ | refine qv rfl (rr_build rfl (build_span _ _ _)) rfl rfl ?_
        | refine qv rfl (qlen Und.eq rfl) rfl rfl ?_ | refine qv rfl (qfld FldC.fld rfl rfl) rfl rfl ?_ | refine qv rfl (rr_nilc rfl) rfl rfl ?_
        | refine qv rfl (rr_lss rfl rfl (qT (by omega))) rfl rfl ?_ | refine qv rfl (rr_lss rfl rfl (qF (by omega))) rfl rfl ?_
        | refine qv rfl (rr_neq rfl rfl (qT (by omega))) rfl rfl ?_ | refine qv rfl (rr_neq rfl rfl (qF (by omega))) rfl rfl ?_
        | refine qv rfl (rr_add64 rfl rfl (by omega) (by omega) rfl) rfl rfl ?_)
      refine TL_new rfl fun g13 => ?_
      refine TL_storeB (i := 3) rfl rfl rfl rfl rfl rfl ?_
      conv => arg 8; simp only [zA, zB, zC, zD, zE, zF, zG, zH, zI, rowS, ret, id_eq]
      repeat (first
        | refine qv rfl (qp rfl) rfl rfl ?_ | refine TL_nil ?_ | refine T_seq ?_ | refine T_region ?_ | refine qcT rfl ?_ | refine qcF rfl ?_ | refine T_skip ?_
        | refine T_exit ?_ | refine T_ret ?_ | refine T_block ?_ | refine E_then ?_ | refine E_thenX ?_ | refine E_thenR ?_ | refine E_blockN ?_
        | refine E_blockR ?_ | refine E_blockX ?_ | refine E_blockO rfl ?_ | refine qv rfl (qlen Und.eq rfl) rfl rfl ?_
        | refine qv rfl (qfld FldC.fld rfl rfl) rfl rfl ?_ | refine qv rfl (rr_nilc rfl) rfl rfl ?_ | refine qv rfl (rr_lss rfl rfl (qT (by omega))) rfl rfl ?_
        | refine qv rfl (rr_lss rfl rfl (qF (by omega))) rfl rfl ?_ | refine qv rfl (rr_neq rfl rfl (qT (by omega))) rfl rfl ?_
        | refine qv rfl (rr_neq rfl rfl (qF (by omega))) rfl rfl ?_ | refine qv rfl (rr_add64 rfl rfl (by omega) (by omega) rfl) rfl rfl ?_)
      by_cases c7 : u = v
      · rw [decide_eq_true c7] at hnew
        have hnew : newB c word prods a b (k + 1) = newB c word prods a b k := by rw [hnew]; simp
        refine T_ord ([blkO gc (chV t (n : Int) (.slice bp prods.length cp) vw gm) 59, chM gm (roundC c word prods n a b k) (Bd + k), rowT g7 n (nowF (oneF c word) prods a b), blkO g13 #[.int .i64 (k : Int), .int .i64 (a : Int), .int .i64 (b : Int)] 63]) (.calm 0 (.calm 1 (.calm 2 (.calm 3 (.calm 4 (.calm 5 (.calm 6 (.calm 7 (.done))))))))) (fun _ h => h) (by kernel_rfl) (by kernel_rfl) (by intro c a d v w h; cases d <;> exact h) ?_
        repeat (first
          | ((first | refine TW_plain rfl rfl ?_ | refine TW_gmet rfl rfl rfl rfl ?_); first | refine TN_val (qp rfl) rfl rfl ?_ | refine TN_val (rr_load1 TyC.ty rfl (at_blk (i := 0) rfl rfl)) rfl rfl ?_ | refine TN_val (rr_loadB (i := 3) TyC.ty rfl rfl rfl) rfl rfl ?_ | refine TN_val (rr_lookT (x := ((k : Int), (a : Int), (b : Int))) (i := 1) spanK Und.eq zero_int rfl rfl rfl hsp (by rw [hat])) rfl rfl ?_ | refine TN_val (qlen Und.eq rfl) rfl rfl ?_ | refine TN_val (qfld FldC.fld rfl rfl) rfl rfl ?_ | refine TN_val (rr_nilc rfl) rfl rfl ?_ | refine TN_val (rr_lss rfl rfl (qT (by omega))) rfl rfl ?_ | refine TN_val (rr_lss rfl rfl (qF (by omega))) rfl rfl ?_ | refine TN_val (rr_neq rfl rfl (qT (by omega))) rfl rfl ?_ | refine TN_val (rr_neq rfl rfl (qF (by omega))) rfl rfl ?_ | refine TN_val (rr_add64 rfl rfl (by omega) (by omega) rfl) rfl rfl ?_)
          | refine TW_done ?_)
        repeat (first
          | refine qv rfl (qp rfl) rfl rfl ?_ | refine TL_nil ?_ | refine T_seq ?_ | refine T_region ?_ | refine qcT rfl ?_ | refine qcF rfl ?_ | refine T_skip ?_
          | refine T_exit ?_ | refine T_ret ?_ | refine T_block ?_ | refine E_then ?_ | refine E_thenX ?_ | refine E_thenR ?_ | refine E_blockN ?_
          | refine E_blockR ?_ | refine E_blockX ?_ | refine E_blockO rfl ?_ | refine qv rfl (qlen Und.eq rfl) rfl rfl ?_
          | refine qv rfl (qfld FldC.fld rfl rfl) rfl rfl ?_ | refine qv rfl (rr_nilc rfl) rfl rfl ?_ | refine qv rfl (rr_lss rfl rfl (qT (by omega))) rfl rfl ?_
          | refine qv rfl (rr_lss rfl rfl (qF (by omega))) rfl rfl ?_ | refine qv rfl (rr_neq rfl rfl (qT (by omega))) rfl rfl ?_
          | refine qv rfl (rr_neq rfl rfl (qF (by omega))) rfl rfl ?_ | refine qv rfl (rr_add64 rfl rfl (by omega) (by omega) rfl) rfl rfl ?_)
        refine E_pick [0, 1, 2] (by decide) rfl ?_
        refine E_weak (o := chM gm (roundC c word prods n a b k) (Bd + k)) (chM gm (roundC c word prods n a b (k + 1)) (Bd + (k + 1))) (i := 1) rfl (fun w h => mapT_weak (K := spanK) (by omega) (fun x _ => ?_) w h) (fun q h => h) (fun q h => False.elim h) ?_
        · rw [hst x]
          split
          · rename_i e; rw [e, hat, c7]
          · rfl
        exact E_round (k + 1) (by omega) (by show n - (k + 1) < n - k; omega) ⟨rfl, rfl, rfl, by rw [hnew]; rfl, rfl, rfl, rfl, trivial⟩ rfl
      · rw [decide_eq_false c7] at hnew
        have hnew : newB c word prods a b (k + 1) = true := by rw [hnew]; simp
        refine T_ord ([blkO gc (chV t (n : Int) (.slice bp prods.length cp) vw gm) 59, chM gm (roundC c word prods n a b k) (Bd + k), rowT g7 n (nowF (oneF c word) prods a b), blkO g13 #[.int .i64 (k : Int), .int .i64 (a : Int), .int .i64 (b : Int)] 63]) (.calm 0 (.calm 1 (.calm 2 (.calm 3 (.calm 4 (.calm 5 (.calm 6 (.calm 7 (.done))))))))) (fun _ h => h) (by kernel_rfl) (by kernel_rfl) (by intro c a d v w h; cases d <;> exact h) ?_
        repeat (first
          | ((first | refine TW_plain rfl rfl ?_ | refine TW_gmet rfl rfl rfl rfl ?_); first | refine TN_val (qp rfl) rfl rfl ?_ | refine TN_val (rr_load1 TyC.ty rfl (at_blk (i := 0) rfl rfl)) rfl rfl ?_ | refine TN_val (rr_loadB (i := 3) TyC.ty rfl rfl rfl) rfl rfl ?_ | refine TN_val (rr_lookT (x := ((k : Int), (a : Int), (b : Int))) (i := 1) spanK Und.eq zero_int rfl rfl rfl hsp (by rw [hat])) rfl rfl ?_ | refine TN_val (qlen Und.eq rfl) rfl rfl ?_ | refine TN_val (qfld FldC.fld rfl rfl) rfl rfl ?_ | refine TN_val (rr_nilc rfl) rfl rfl ?_ | refine TN_val (rr_lss rfl rfl (qT (by omega))) rfl rfl ?_ | refine TN_val (rr_lss rfl rfl (qF (by omega))) rfl rfl ?_ | refine TN_val (rr_neq rfl rfl (qT (by omega))) rfl rfl ?_ | refine TN_val (rr_neq rfl rfl (qF (by omega))) rfl rfl ?_ | refine TN_val (rr_add64 rfl rfl (by omega) (by omega) rfl) rfl rfl ?_)
          | refine TW_done ?_)
        repeat (first
          | refine qv rfl (qp rfl) rfl rfl ?_ | refine TL_nil ?_ | refine T_seq ?_ | refine T_region ?_ | refine qcT rfl ?_ | refine qcF rfl ?_ | refine T_skip ?_
          | refine T_exit ?_ | refine T_ret ?_ | refine T_block ?_ | refine E_then ?_ | refine E_thenX ?_ | refine E_thenR ?_ | refine E_blockN ?_
          | refine E_blockR ?_ | refine E_blockX ?_ | refine E_blockO rfl ?_ | refine qv rfl (qlen Und.eq rfl) rfl rfl ?_
          | refine qv rfl (qfld FldC.fld rfl rfl) rfl rfl ?_ | refine qv rfl (rr_nilc rfl) rfl rfl ?_ | refine qv rfl (rr_lss rfl rfl (qT (by omega))) rfl rfl ?_
          | refine qv rfl (rr_lss rfl rfl (qF (by omega))) rfl rfl ?_ | refine qv rfl (rr_neq rfl rfl (qT (by omega))) rfl rfl ?_
          | refine qv rfl (rr_neq rfl rfl (qF (by omega))) rfl rfl ?_ | refine qv rfl (rr_add64 rfl rfl (by omega) (by omega) rfl) rfl rfl ?_)
        refine T_ord ([blkO gc (chV t (n : Int) (.slice bp prods.length cp) vw gm) 59, blkO g13 #[.int .i64 (k : Int), .int .i64 (a : Int), .int .i64 (b : Int)] 63]) (.calm 0 (.calm 1 (.calm 2 (.calm 3 (.calm 4 (.calm 5 (.one 6 (.done)))))))) (sub_pick [0, 3] (by decide) rfl) (by kernel_rfl) (by kernel_rfl) (by intro c a d v w h; cases d <;> exact h) ?_
        repeat (first
          | ((first | refine TW_plain rfl rfl ?_ | refine TW_gmet rfl rfl rfl rfl ?_); first | refine TN_val (qp rfl) rfl rfl ?_ | refine TN_val (rr_load1 TyC.ty rfl (at_blk (i := 0) rfl rfl)) rfl rfl ?_ | refine TN_val (rr_loadB (i := 1) TyC.ty rfl rfl rfl) rfl rfl ?_ | refine TN_val (qlen Und.eq rfl) rfl rfl ?_ | refine TN_val (qfld FldC.fld rfl rfl) rfl rfl ?_ | refine TN_val (rr_nilc rfl) rfl rfl ?_ | refine TN_val (rr_lss rfl rfl (qT (by omega))) rfl rfl ?_ | refine TN_val (rr_lss rfl rfl (qF (by omega))) rfl rfl ?_ | refine TN_val (rr_neq rfl rfl (qT (by omega))) rfl rfl ?_ | refine TN_val (rr_neq rfl rfl (qF (by omega))) rfl rfl ?_ | refine TN_val (rr_add64 rfl rfl (by omega) (by omega) rfl) rfl rfl ?_)
          | refine TW_done ?_)
        refine TW_one rfl (TL_mapSetT (x := ((k : Int), (a : Int), (b : Int))) (v := natV v) (i := 1) spanK (fun y => .int .i64 (roundC c word prods n a b (k + 1) y : Int)) Und.eq rfl rfl rfl rfl hsp (by omega) (fun y _ => ?_) ?_)
        · rw [hst y]
          split <;> rfl
        conv => arg 8; simp only [zA, zB, zC, zD, zE, zF, zG, zH, zI, rowS, ret, id_eq]
        refine TW_on (sub_pick [0, 3] (by decide) rfl) ?_
        repeat (first
          | ((first | refine TW_plain rfl rfl ?_ | refine TW_gmet rfl rfl rfl rfl ?_); first | refine TN_val (qp rfl) rfl rfl ?_ | refine TN_val (qlen Und.eq rfl) rfl rfl ?_ | refine TN_val (qfld FldC.fld rfl rfl) rfl rfl ?_ | refine TN_val (rr_nilc rfl) rfl rfl ?_ | refine TN_val (rr_lss rfl rfl (qT (by omega))) rfl rfl ?_ | refine TN_val (rr_lss rfl rfl (qF (by omega))) rfl rfl ?_ | refine TN_val (rr_neq rfl rfl (qT (by omega))) rfl rfl ?_ | refine TN_val (rr_neq rfl rfl (qF (by omega))) rfl rfl ?_ | refine TN_val (rr_add64 rfl rfl (by omega) (by omega) rfl) rfl rfl ?_)
          | refine TW_done ?_)
        repeat (first
          | refine qv rfl (qp rfl) rfl rfl ?_ | refine TL_nil ?_ | refine T_seq ?_ | refine T_region ?_ | refine qcT rfl ?_ | refine qcF rfl ?_ | refine T_skip ?_
          | refine T_exit ?_ | refine T_ret ?_ | refine T_block ?_ | refine E_then ?_ | refine E_thenX ?_ | refine E_thenR ?_ | refine E_blockN ?_
          | refine E_blockR ?_ | refine E_blockX ?_ | refine E_blockO rfl ?_ | refine qv rfl (qlen Und.eq rfl) rfl rfl ?_
          | refine qv rfl (qfld FldC.fld rfl rfl) rfl rfl ?_ | refine qv rfl (rr_nilc rfl) rfl rfl ?_ | refine qv rfl (rr_lss rfl rfl (qT (by omega))) rfl rfl ?_
          | refine qv rfl (rr_lss rfl rfl (qF (by omega))) rfl rfl ?_ | refine qv rfl (rr_neq rfl rfl (qT (by omega))) rfl rfl ?_
          | refine qv rfl (rr_neq rfl rfl (qF (by omega))) rfl rfl ?_ | refine qv rfl (rr_add64 rfl rfl (by omega) (by omega) rfl) rfl rfl ?_)
        refine E_pick [0, 1, 2] (by decide) rfl ?_
        exact E_round (k + 1) (by omega) (by show n - (k + 1) < n - k; omega) ⟨rfl, rfl, rfl, by rw [hnew]; rfl, rfl, rfl, rfl, trivial⟩ rfl
    · obtain rfl : k = n := by omega
      repeat (first
        | refine qv rfl (qp rfl) rfl rfl ?_ | refine TL_nil ?_ | refine T_seq ?_ | refine T_region ?_ | refine qcT rfl ?_ | refine qcF rfl ?_ | refine T_skip ?_
        | refine T_exit ?_ | refine T_ret ?_ | refine T_block ?_ | refine E_then ?_ | refine E_thenX ?_ | refine E_thenR ?_ | refine E_blockN ?_
        | refine E_blockR ?_ | refine E_blockX ?_ | refine E_blockO rfl ?_ | refine qv rfl (qlen Und.eq rfl) rfl rfl ?_
        | refine qv rfl (qfld FldC.fld rfl rfl) rfl rfl ?_ | refine qv rfl (rr_nilc rfl) rfl rfl ?_ | refine qv rfl (rr_lss rfl rfl (qT (by omega))) rfl rfl ?_
        | refine qv rfl (rr_lss rfl rfl (qF (by omega))) rfl rfl ?_ | refine qv rfl (rr_neq rfl rfl (qT (by omega))) rfl rfl ?_
        | refine qv rfl (rr_neq rfl rfl (qF (by omega))) rfl rfl ?_ | refine qv rfl (rr_add64 rfl rfl (by omega) (by omega) rfl) rfl rfl ?_)
      exact E_ret1 rfl rfl fun w hm => hm.meetsB (S := ⟨fun (_ : Unit) => True, fun _ => .bool (newB c word prods a b k), fun _ => [blkO gc (chV t (k : Int) (.slice bp prods.length cp) vw gm) 59, chM gm (roundC c word prods k a b k) (Bd + k)]⟩) () trivial [0, 1] (by decide) rfl
end Go.Proofs.Ytkkiopmdcolobaa.eng

/- CountD -/
namespace Go.Proofs.Ytkkiopmdcolobaa.eng
open Go.RowKit kit mix gramL countL
set_option maxHeartbeats 8000000 in
theorem fill_calls (w0 : World) (gc gm n : Nat) (t : Int) (vp vw : Value) (word : List Int) (prods : List gramL.Prod) (hG : SlF prodS (fun k => k < w0.heap.size) w0 vp prods) (hW : Sl w0 vw word.length (word.map (.int .i64))) (hfine : FineC n prods) (hin : NonsIn n prods) (hn : n ≤ 20) (hlen : prods.length ≤ 40) (hw : word.length ≤ 20) (w : World) (B : Base) (ho : Old w0 B) (hm : Mem B [blkO gc (chV t (n : Int) vp vw gm) 59, chM gm (fun _ => 0) 0] w) :
    Calls Try.prog 36 #[.pointer (some ⟨gc, 0, none⟩)] w (MeetsB ⟨fun (x : Chart × Nat) => Lfp word prods n x.1 ∧ x.2 ≤ 1000000, fun _ => .tuple #[], fun x => [blkO gc (chV t (n : Int) vp vw gm) 59, chM gm x.1 x.2]⟩ B) := by
  have hround := fun c Bd a b hc hab hb hBd w' B' ho hm => roundC_calls w0 gc gm n t vp vw word prods c Bd a b hG hW hfine hn hlen hc hab hb hw hBd w' B' ho hm
  obtain ⟨bw, cw, rfl, _⟩ := hW
  refine enterB hm (args := [.pointer (some ⟨gc, 0, none⟩)]) (n := 32) Try.func36 rfl rfl rfl ?_
  clear hm
  repeat (first
    | refine qv rfl (qp rfl) rfl rfl ?_ | refine TL_nil ?_ | refine T_seq ?_ | refine T_region ?_ | refine qcT rfl ?_ | refine qcF rfl ?_ | refine T_skip ?_
    | refine T_exit ?_ | refine T_block ?_ | refine E_then ?_ | refine E_thenX ?_ | refine E_thenR ?_ | refine E_blockN ?_ | refine E_blockR ?_
    | refine E_blockX ?_ | refine E_blockO rfl ?_ | refine qv rfl (qlen Und.eq rfl) rfl rfl ?_ | refine qv rfl (qfld FldC.fld rfl rfl) rfl rfl ?_
    | refine qv rfl (rr_nilc rfl) rfl rfl ?_ | refine qv rfl (rr_leq rfl rfl (qT (by omega))) rfl rfl ?_
    | refine qv rfl (rr_leq rfl rfl (qF (by omega))) rfl rfl ?_ | refine qv rfl (rr_add64 rfl rfl (by omega) (by omega) rfl) rfl rfl ?_)
  refine T_loop (ι := Nat × Chart × Nat) (fun (s, c, Bd) => s ≤ word.length + 1 ∧ InvC word prods n (fun i j => j - i < s) c ∧ Bd ≤ 1700 * (s * 22)) (fun (s, _, _) => [(0, .pointer (some ⟨gc, 0, none⟩)), (2, .int .i64 (s : Int))])
    (fun (_, c, Bd) => [blkO gc (chV t (n : Int) vp (.slice bw word.length cw) gm) 59, chM gm c Bd]) (fun (s, _, _) => word.length + 1 - s) (0, fun _ => 0, 0) ⟨by omega, inv0, by omega⟩ (by repeat' (first | exact True.intro | refine And.intro rfl ?_)) rfl ?_
  rintro ⟨s, c, Bd⟩ ⟨i1, i2, i3⟩
  dsimp only at i1 i2 i3 ⊢
  by_cases c6 : s ≤ word.length
  · repeat (first
      | refine qv rfl (qp rfl) rfl rfl ?_ | refine TL_nil ?_ | refine T_seq ?_ | refine T_region ?_ | refine qcT rfl ?_ | refine qcF rfl ?_ | refine T_skip ?_
      | refine T_exit ?_ | refine T_block ?_ | refine E_then ?_ | refine E_thenX ?_ | refine E_thenR ?_ | refine E_blockN ?_ | refine E_blockR ?_
      | refine E_blockX ?_ | refine E_blockO rfl ?_ | refine qv rfl (rr_load1 TyC.ty rfl (at_blk (i := 0) rfl rfl)) rfl rfl ?_
      | refine qv rfl (qlen Und.eq rfl) rfl rfl ?_ | refine qv rfl (qfld FldC.fld rfl rfl) rfl rfl ?_ | refine qv rfl (rr_nilc rfl) rfl rfl ?_
      | refine qv rfl (rr_leq rfl rfl (qT (by omega))) rfl rfl ?_ | refine qv rfl (rr_leq rfl rfl (qF (by omega))) rfl rfl ?_
      | refine qv rfl (rr_add64 rfl rfl (by omega) (by omega) rfl) rfl rfl ?_)
    refine T_loop (ι := Nat × Chart × Nat) (fun (f, c, Bd) => f + s ≤ word.length + 1 ∧ InvC word prods n (fun i j => j - i < s ∨ (j - i = s ∧ i < f)) c ∧ Bd ≤ 1700 * (s * 22 + f)) (fun (f, _, _) => [(0, .pointer (some ⟨gc, 0, none⟩)), (2, .int .i64 (s : Int)), (3, .int .i64 (f : Int))])
      (fun (_, c, Bd) => [blkO gc (chV t (n : Int) vp (.slice bw word.length cw) gm) 59, chM gm c Bd]) (fun (f, _, _) => word.length + 1 - f) (0, c, Bd) ⟨by omega, i2.same fun i j _ _ => by omega, by omega⟩ (by repeat' (first | exact True.intro | refine And.intro rfl ?_)) rfl ?_
    clear i2 i3
    rintro ⟨f, c, Bd⟩ ⟨j1, i2, i3⟩
    dsimp only at j1 i2 i3 ⊢
    by_cases c7 : f + s ≤ word.length
    · repeat (first
        | refine qv rfl (qp rfl) rfl rfl ?_ | refine TL_nil ?_ | refine T_seq ?_ | refine T_region ?_ | refine qcT rfl ?_ | refine qcF rfl ?_ | refine T_skip ?_
        | refine T_exit ?_ | refine T_block ?_ | refine E_then ?_ | refine E_thenX ?_ | refine E_thenR ?_ | refine E_blockN ?_ | refine E_blockR ?_
        | refine E_blockX ?_ | refine E_blockO rfl ?_ | refine qv rfl (rr_load1 TyC.ty rfl (at_blk (i := 0) rfl rfl)) rfl rfl ?_
        | refine qv rfl (qlen Und.eq rfl) rfl rfl ?_ | refine qv rfl (qfld FldC.fld rfl rfl) rfl rfl ?_ | refine qv rfl (rr_nilc rfl) rfl rfl ?_
        | refine qv rfl (rr_leq rfl rfl (qT (by omega))) rfl rfl ?_ | refine qv rfl (rr_leq rfl rfl (qF (by omega))) rfl rfl ?_
        | refine qv rfl (rr_add64 rfl rfl (by omega) (by omega) rfl) rfl rfl ?_)
      refine T_loop (ι := Chart × Nat × Bool) (fun (c, Bd, m) => InvI word prods n (fun i j => j - i < s ∨ (j - i = s ∧ i < f)) f (f + s) c ∧ (m = false → Fix1 word prods n c f (f + s)) ∧ Bd + 20 * (2 * lackC n c f (f + s) + (if m = true then 1 else 0)) ≤ 1700 * (s * 22 + f) + 1620) (fun (_, _, m) => [(0, .pointer (some ⟨gc, 0, none⟩)), (2, .int .i64 (s : Int)), (3, .int .i64 (f : Int)), (4, .bool m)])
        (fun (c, Bd, _) => [blkO gc (chV t (n : Int) vp (.slice bw word.length cw) gm) 59, chM gm c Bd]) (fun (c, _, m) => 2 * lackC n c f (f + s) + (if m = true then 1 else 0)) (c, Bd, true) ⟨i2.begin (by omega) c7 (by omega), fun h => (by cases h), by have := lackC_le n c f (f + s); rw [if_pos rfl]; omega⟩ (by repeat' (first | exact True.intro | refine And.intro rfl ?_)) rfl ?_
      clear i2 i3
      rintro ⟨c, Bd, m⟩ ⟨i2, i3, i4⟩
      dsimp only at i2 i3 i4 ⊢
      cases m
      · have i3 := i3 rfl
        repeat (first
          | refine qv rfl (qp rfl) rfl rfl ?_ | refine TL_nil ?_ | refine T_seq ?_ | refine T_region ?_ | refine qcT rfl ?_ | refine qcF rfl ?_ | refine T_skip ?_
          | refine T_exit ?_ | refine T_block ?_ | refine E_then ?_ | refine E_thenX ?_ | refine E_thenR ?_ | refine E_blockN ?_ | refine E_blockR ?_
          | refine E_blockX ?_ | refine E_blockO rfl ?_ | refine qv rfl (qlen Und.eq rfl) rfl rfl ?_ | refine qv rfl (qfld FldC.fld rfl rfl) rfl rfl ?_
          | refine qv rfl (rr_nilc rfl) rfl rfl ?_ | refine qv rfl (rr_leq rfl rfl (qT (by omega))) rfl rfl ?_
          | refine qv rfl (rr_leq rfl rfl (qF (by omega))) rfl rfl ?_ | refine qv rfl (rr_add64 rfl rfl (by omega) (by omega) rfl) rfl rfl ?_)
        exact E_round (f + 1, c, Bd) ⟨by omega, i2.done i3 fun i j _ _ => by omega, by rw [if_neg (by decide)] at i4; dsimp only; omega⟩ (by show word.length + 1 - (f + 1) < word.length + 1 - f; omega) (by repeat' (first | exact True.intro | refine And.intro rfl ?_)) rfl
      · have hinv := round_inv hin i2 (by omega) c7 (by intro i j h; omega)
        have hfix := round_fix hin i2 (by omega)
        have hlk := lack_round i2 n (Nat.le_refl _)
        rw [if_pos rfl] at i4
        repeat (first
          | refine qv rfl (qp rfl) rfl rfl ?_ | refine TL_nil ?_ | refine T_seq ?_ | refine T_region ?_ | refine qcT rfl ?_ | refine qcF rfl ?_ | refine T_skip ?_
          | refine T_exit ?_ | refine T_block ?_ | refine E_then ?_ | refine E_thenX ?_ | refine E_thenR ?_ | refine E_blockN ?_ | refine E_blockR ?_
          | refine E_blockX ?_ | refine E_blockO rfl ?_ | refine qv rfl (qlen Und.eq rfl) rfl rfl ?_ | refine qv rfl (qfld FldC.fld rfl rfl) rfl rfl ?_
          | refine qv rfl (rr_nilc rfl) rfl rfl ?_ | refine qv rfl (rr_leq rfl rfl (qT (by omega))) rfl rfl ?_
          | refine qv rfl (rr_leq rfl rfl (qF (by omega))) rfl rfl ?_ | refine qv rfl (rr_add64 rfl rfl (by omega) (by omega) rfl) rfl rfl ?_)
        refine TL_callB [0, 1] [] (by decide) rfl rfl (he3 EntersC.en rfl rfl rfl rfl) (fun w hm hb => hround c Bd f (f + s) i2.le2 (by omega) c7 (by omega) w _ (ho.on hm (by intro o ho; simpa using ho)) hb) rfl rfl rfl ?_
        intro _ _
        conv => arg 8; simp only [zA, zB, zC, zD, zE, zF, zG, zH, zI, rowS, ret, id_eq]
        repeat (first
          | refine qv rfl (qp rfl) rfl rfl ?_ | refine TL_nil ?_ | refine T_seq ?_ | refine T_region ?_ | refine qcT rfl ?_ | refine qcF rfl ?_ | refine T_skip ?_
          | refine T_exit ?_ | refine T_block ?_ | refine E_then ?_ | refine E_thenX ?_ | refine E_thenR ?_ | refine E_blockN ?_ | refine E_blockR ?_
          | refine E_blockX ?_ | refine E_blockO rfl ?_ | refine qv rfl (qlen Und.eq rfl) rfl rfl ?_ | refine qv rfl (qfld FldC.fld rfl rfl) rfl rfl ?_
          | refine qv rfl (rr_nilc rfl) rfl rfl ?_ | refine qv rfl (rr_leq rfl rfl (qT (by omega))) rfl rfl ?_
          | refine qv rfl (rr_leq rfl rfl (qF (by omega))) rfl rfl ?_ | refine qv rfl (rr_add64 rfl rfl (by omega) (by omega) rfl) rfl rfl ?_)
        refine E_round (roundC c word prods n f (f + s) n, Bd + n, newB c word prods f (f + s) n) ⟨hinv, hfix, ?_⟩ ?_ (by repeat' (first | exact True.intro | refine And.intro rfl ?_)) rfl
        · dsimp only
          by_cases c8 : newB c word prods f (f + s) n = true
          · have := hlk.2 c8; rw [if_pos c8]; omega
          · have := hlk.1; rw [if_neg c8]; omega
        · dsimp only
          rw [if_pos rfl]
          by_cases c8 : newB c word prods f (f + s) n = true
          · have := hlk.2 c8; rw [if_pos c8]; omega
          · have := hlk.1; rw [if_neg c8]; omega
    · repeat (first
        | refine qv rfl (qp rfl) rfl rfl ?_ | refine TL_nil ?_ | refine T_seq ?_ | refine T_region ?_ | refine qcT rfl ?_ | refine qcF rfl ?_ | refine T_skip ?_
        | refine T_exit ?_ | refine T_block ?_ | refine E_then ?_ | refine E_thenX ?_ | refine E_thenR ?_ | refine E_blockN ?_ | refine E_blockR ?_
        | refine E_blockX ?_ | refine E_blockO rfl ?_ | refine qv rfl (rr_load1 TyC.ty rfl (at_blk (i := 0) rfl rfl)) rfl rfl ?_
        | refine qv rfl (qlen Und.eq rfl) rfl rfl ?_ | refine qv rfl (qfld FldC.fld rfl rfl) rfl rfl ?_ | refine qv rfl (rr_nilc rfl) rfl rfl ?_
        | refine qv rfl (rr_leq rfl rfl (qT (by omega))) rfl rfl ?_ | refine qv rfl (rr_leq rfl rfl (qF (by omega))) rfl rfl ?_
        | refine qv rfl (rr_add64 rfl rfl (by omega) (by omega) rfl) rfl rfl ?_)
      exact E_round (s + 1, c, Bd) ⟨by omega, i2.same fun i j _ _ => by omega, by dsimp only; omega⟩ (by show word.length + 1 - (s + 1) < word.length + 1 - s; omega) (by repeat' (first | exact True.intro | refine And.intro rfl ?_)) rfl
  · repeat (first
      | refine qv rfl (qp rfl) rfl rfl ?_ | refine TL_nil ?_ | refine T_seq ?_ | refine T_region ?_ | refine qcT rfl ?_ | refine qcF rfl ?_ | refine T_skip ?_
      | refine T_exit ?_ | refine T_block ?_ | refine E_then ?_ | refine E_thenX ?_ | refine E_thenR ?_ | refine E_blockN ?_ | refine E_blockR ?_
      | refine E_blockX ?_ | refine E_blockO rfl ?_ | refine qv rfl (rr_load1 TyC.ty rfl (at_blk (i := 0) rfl rfl)) rfl rfl ?_
      | refine qv rfl (qlen Und.eq rfl) rfl rfl ?_ | refine qv rfl (qfld FldC.fld rfl rfl) rfl rfl ?_ | refine qv rfl (rr_nilc rfl) rfl rfl ?_
      | refine qv rfl (rr_leq rfl rfl (qT (by omega))) rfl rfl ?_ | refine qv rfl (rr_leq rfl rfl (qF (by omega))) rfl rfl ?_
      | refine qv rfl (rr_add64 rfl rfl (by omega) (by omega) rfl) rfl rfl ?_)
    exact E_end0 rfl fun w hm => hm.meetsB (S := ⟨fun (x : Chart × Nat) => Lfp word prods n x.1 ∧ x.2 ≤ 1000000, fun _ => .tuple #[], fun x => [blkO gc (chV t (n : Int) vp (.slice bw word.length cw) gm) 59, chM gm x.1 x.2]⟩) (c, Bd) ⟨i2.lfp fun i j _ _ => by omega, by dsimp only; omega⟩ [0, 1] (by decide) rfl
theorem build_chart (t n : Int) (b b' : Option Addr) (m c m' c' gm : Nat) (w : World) : (Instr.build 59 #[(0, graV t n (.slice b m c)), (1, .slice b' m' c'), (2, .map (some gm))]).run Try.prog w = .ok (.agg (chV t n (.slice b m c) (.slice b' m' c') gm)) w := by
  unfold graV chV
  go_simp
def filledS (g : Gram) (word : List Int) (vp vw : Value) : Spec (Nat × Nat × Chart × Nat) := ⟨fun x => Lfp word g.prods g.nons.toNat x.2.2.1 ∧ x.2.2.2 ≤ 1000000, fun x => .pointer (some ⟨x.1, 0, none⟩), fun x => [blkO x.1 (chV g.terms g.nons vp vw x.2.1) 59, chM x.2.1 x.2.2.1 x.2.2.2]⟩
theorem fineC_of {g : Gram} {n : Nat} (h : checkG g = 0) (hn : g.nons = n) : FineC n g.prods ∧ NonsIn n g.prods := by
  obtain ⟨a1, a2, a3, a4, a5, a6⟩ := checkG_ok h
  refine ⟨fun p hp => ?_, fun p hp x hx h2 => ?_⟩
  · obtain ⟨b1, b2, b3, b4⟩ := a6 p hp
    refine ⟨b2, by omega, fun x hx => ?_⟩
    have := b4 x hx
    unfold right at this
    split at this
    · simp at this; exact ⟨by omega, by omega⟩
    · split at this
      · simp at this; exact ⟨by omega, by omega⟩
      · simp at this
  · have := (a6 p hp).2.2.2 x hx
    unfold right at this
    rw [if_neg (by omega), if_pos h2] at this
    simp at this; omega
attribute [local irreducible] Instr.build in
set_option maxHeartbeats 2000000 in
theorem filled_calls (vp vw : Value) (g : Gram) (word : List Int) (w : World) (h : GraR (fun k => k < w.heap.size) w (graV g.terms g.nons vp) g) (hs : Sl w vw word.length (word.map (.int .i64))) (hck : checkC g word = 0) :
    Calls Try.prog 18 #[graV g.terms g.nons vp, vw] w (Meets (filledS g word vp vw) w) := by
  obtain ⟨hg, hl, hw⟩ := checkC_ok hck
  obtain ⟨a1, a2, a3, a4, a5, a6⟩ := checkG_ok hg
  obtain ⟨n, hn⟩ : ∃ n : Nat, g.nons = n := ⟨g.nons.toNat, by omega⟩
  obtain ⟨f1, f2⟩ := fineC_of hg hn
  obtain ⟨vp', he, h1, _⟩ := h
  obtain ⟨t, nn, prods⟩ := g
  dsimp only at *
  simp only [graV, Value.agg.injEq, Array.mk.injEq, List.cons.injEq, true_and, and_true] at he
  subst he hn
  have hfill := fun gc gm w' B ho hm => fill_calls w gc gm n t vp vw word prods h1 hs f1 f2 (by omega) a5 hl w' B ho hm
  obtain ⟨bp, cp, rfl, _⟩ := h1
  obtain ⟨bw, cw, rfl, _⟩ := hs
  refine enter (args := [graV t (n : Int) (.slice bp prods.length cp), .slice bw word.length cw]) (n := 14) Try.func18 rfl rfl rfl ?_
  refine T_seq (T_region (TL_box rfl rfl rfl fun g2 => ?_))
  repeat (first
    | refine qv rfl (qp rfl) rfl rfl ?_ | refine TL_nil ?_ | refine T_seq ?_ | refine T_region ?_ | refine T_ret ?_ | refine E_then ?_ | refine E_thenR ?_
    | refine qv rfl (rr_loadB (i := 0) TyC.ty rfl rfl rfl) rfl rfl ?_)
  refine TL_mapT (z := .int .i64 0) spanK rfl fun gm => ?_
  repeat (first
    | refine qv rfl (qp rfl) rfl rfl ?_ | refine TL_nil ?_ | refine T_seq ?_ | refine T_region ?_ | refine T_ret ?_ | refine E_then ?_ | refine E_thenR ?_
    | refine qv rfl (rr_build rfl (build_chart _ _ _ _ _ _ _ _ _)) rfl rfl ?_)
  refine TL_box rfl rfl rfl fun gc => ?_
  conv => arg 8; simp only [zA, zB, zC, zD, zE, zF, zG, zH, zI, rowS, ret, id_eq]
  repeat (first
    | refine qv rfl (qp rfl) rfl rfl ?_ | refine TL_nil ?_ | refine T_seq ?_ | refine T_region ?_ | refine T_ret ?_ | refine E_then ?_ | refine E_thenR ?_)
  refine TL_callB [2, 1] [0] (by decide) rfl rfl (he1 EntersC.en rfl rfl) (fun w' hm hb => hfill gc gm w' _ ((Old.self w).on hm (by intro o ho; simp at ho ⊢; rcases ho with h | h <;> simp [h])) hb) rfl rfl rfl ?_
  rintro ⟨c, Bd⟩ hx
  conv => arg 8; simp only [zA, zB, zC, zD, zE, zF, zG, zH, zI, rowS, ret, id_eq]
  repeat (first
    | refine qv rfl (qp rfl) rfl rfl ?_ | refine TL_nil ?_ | refine T_seq ?_ | refine T_region ?_ | refine T_ret ?_ | refine E_then ?_ | refine E_thenR ?_)
  exact E_ret1 rfl rfl fun w hm => hm.meets (S := filledS ⟨t, n, prods⟩ word (.slice bp prods.length cp) (.slice bw word.length cw)) (gc, gm, c, Bd) hx [1, 2] (by decide) rfl
end Go.Proofs.Ytkkiopmdcolobaa.eng


/- What small.Pack computes. -/
import Derived.Test.YtbiacehgfmgfdaaSmPL
import Derived.Test.YtbiacehgfmgfdaaSmIn
import Derived.Test.YtbiacehgfmgfdaaMapN
import Derived.Test.YtbiacehgfmgfdaaMgB
import Derived.Test.YtbiacehgfmgfdaaSmA
namespace Go.Proofs.Ytbiacehgfmgfdaa.eng
open Go.RowKit kit mix dfaL smallL
/-- all pairs, one behind the other -/
def cant : Nat → Nat × Nat
  | 0 => (0, 0)
  | n + 1 => match cant n with
    | (a, 0) => (0, a + 1)
    | (a, b + 1) => (a + 1, b)
theorem cant_all : ∀ (s a b : Nat), a + b = s → ∃ n, cant n = (a, b)
  | 0, a, b, h => ⟨0, by obtain rfl : a = 0 := (by omega); obtain rfl : b = 0 := (by omega); rfl⟩
  | s + 1, 0, b, h => by
    obtain rfl : b = s + 1 := by omega
    obtain ⟨n, hn⟩ := cant_all s s 0 (by omega)
    exact ⟨n + 1, by simp [cant, hn]⟩
  | s + 1, a + 1, b, h => by
    obtain ⟨n, hn⟩ := cant_all (s + 1) a (b + 1) (by omega)
    exact ⟨n + 1, by simp [cant, hn]⟩
def slCant (m x : Nat) : Value := .slice (some ⟨(cant x).1, 0, none⟩) m (cant x).2
section
variable {P : Program} {n : Nat} {W : Base} {fr : Fr} {ops : Array Oper}
theorem makes_A {i d : Nat} {α : Type} (val : α → Value) (z : α) {t e ty : TypeId} {pos : String} {after : Array Edge} {x y : Operand} {bytes m : Nat} {k k' : IntKind} [ElC P t e 1 bytes] [ZeroC P e #[val z]] (ho : ops[i]? = some ⟨some d, .makeSlice t x y, ty, pos, after, none⟩) (hx : ev fr x = some (.int k (m : Int))) (hy : ev fr y = some (.int k' (m : Int))) (hb : bytes * m ≤ 281474976710656) (h63 : m ≤ 9223372036854775807) (hn : Nat.blt d n = true) :
    Makes P n W ops fr ⟨i, d, fun g => .slice (some ⟨g, 0, none⟩) m m, fun g => rowA e val g m fun _ => z⟩ :=
  ⟨_, ho, fun _ _ _ hl h => TL_makeA val z (ev_mono hl hx) (ev_mono hl hy) hb h63 hn h⟩
/-- a call that answers a new row, which is not empty -/
theorem makes_row {i d : Nat} {o : Oper} {f : FuncId} {args : Array Value} {e : TypeId} {size m : Nat} {xs : List Value} (ho : ops[i]? = some o) (he : ∀ fr', (∀ q v, look fr q = some v → look fr' q = some v) → ∀ a w, Rep n a fr' → (execOp a.eval o).run P w = .ok (.enter f args) w)
    (hc : ∀ (L : List Own) w, Mem W L w → Calls P f args w (Meets (rowS e size m xs id) w)) (hm : 0 < m) (hg : o.guard = none) (hd : o.dst = some d) (hn : Nat.blt d n = true) :
    Makes P n W ops fr ⟨i, d, slCant m, fun x => rowO e size (slCant m x) m xs⟩ :=
  ⟨o, ho, fun Q fr' L hl h => TL_call (he fr' hl) (fun w hw => hc L w hw) hg hd hn fun v _ => .mk fun a w hr hw => by
    have hw' : (rowO e size v m xs).holds w := hw.get (i := L.length) (by simp [rowS])
    obtain ⟨G, cap, hv, _, _, _⟩ := row_form hw'
    cases G with
    | none =>
      rcases hw'.2 with ⟨_, h0⟩ | ⟨g, cap', cur, hv', _⟩
      · omega
      · rw [hv'] at hv; cases hv
    | some g =>
      obtain ⟨x, hx⟩ := cant_all _ g cap rfl
      have e : v = slCant m x := by rw [hv]; unfold slCant; rw [hx]; rfl
      have := h x
      dsimp only at this
      rw [← e] at this
      exact this.go a w hr hw⟩
end
theorem TL_storeCol {P : Program} {n : Nat} {W : Base} {fr : Fr} {L : List Own} {Q : Exit → Act → World → Prop} {ops : Array Oper} {rest : List Oper} {ty : TypeId} {pos : String} {after : Array Edge} {t : TypeId} {p x : Operand} {i g b : Nat} {c : Col} {T : TypeId} {agg : Bool} {z : Int} [hT : TyC P t agg 1] (hi : L[i]? = some (blkO g (colC c).toArray T)) (hp : ev fr p = some (.pointer (some ⟨g, 0 + b, none⟩))) (hx : ev fr x = some (.int .i16 z)) (hb : b < 200)
    (h : TL P n W ops Q rest fr (L.set i (blkO g (colC (c.set b z)).toArray T))) : TL P n W ops Q (⟨none, .store t p x, ty, pos, after, none⟩ :: rest) fr L := by
  rw [Nat.zero_add] at hp
  refine TL_store1 hi hp hx rfl rfl ?_ ?_
  · rw [List.size_toArray, colC_len]; exact Nat.blt_eq ▸ hb
  · rw [col_set c hb]; exact h
abbrev valV (v : Value) : Value := v
def mkNx (n : Nat) : Mk := ⟨3, 24, fun g => .slice (some ⟨g, 0, none⟩) n n, fun g => rowA 23 valV g n fun _ => .slice none 0 0⟩
def mkTg (tags : List Int) : Mk := ⟨6, 27, slCant tags.length, fun x => rowO 3 1 (slCant tags.length x) tags.length (tags.flatMap kit.intC)⟩
def mkPk : Mk := ⟨8, 5, fun g => .pointer (some ⟨g, 0, none⟩), fun g => blkO g (List.replicate 256 (Value.int .u8 0) ++ ([.slice none 0 0, .slice none 0 0] : List Value)).toArray 45⟩
/-- the rows of Next, the columns being D -/
def nxO (n : Nat) (D : List Col) (vs : Nat → Value) : Own := famP (fun i => i < n) fun i => rowO 3 1 (vs i) D.length ((nxL D i).flatMap kit.intC)
/-- on the way: the first j rows have the column col, too -/
def nxM (n : Nat) (D : List Col) (col : Col) (j : Nat) (vs : Nat → Value) : Own := famP (fun i => i < n) fun i => rowO 3 1 (vs i) (if i < j then D ++ [col] else D).length ((nxL (if i < j then D ++ [col] else D) i).flatMap kit.intC)
theorem nxM_0 (n : Nat) (D : List Col) (col : Col) (vs : Nat → Value) : nxM n D col 0 vs = nxO n D vs := by
  unfold nxM nxO
  simp
theorem nxM_end (n : Nat) (D : List Col) (col : Col) (vs : Nat → Value) (i : Nat) (h : i < n) : (fun i => rowO 3 1 (vs i) (D ++ [col]).length ((nxL (D ++ [col]) i).flatMap kit.intC)) i = (fun i => rowO 3 1 (vs i) (if i < n then D ++ [col] else D).length ((nxL (if i < n then D ++ [col] else D) i).flatMap kit.intC)) i := by
  dsimp only
  rw [if_pos h]
theorem TL_storeOf {P : Program} {n : Nat} {W : Base} {fr : Fr} {L : List Own} {Q : Exit → Act → World → Prop} {ops : Array Oper} {rest : List Oper} {ty : TypeId} {pos : String} {after : Array Edge} {t : TypeId} {p x : Operand} {i g b z : Nat} {o : Of} {vn vt : Value} {T : TypeId} {agg : Bool} [hT : TyC P t agg 1] (hi : L[i]? = some (blkO g (pkC o vn vt).toArray T)) (hp : ev fr p = some (.pointer (some ⟨g, 0 + b, none⟩))) (hx : ev fr x = some (.int .u8 (z : Int))) (hb : b < 256)
    (h : TL P n W ops Q rest fr (L.set i (blkO g (pkC (o.set b z) vn vt).toArray T))) : TL P n W ops Q (⟨none, .store t p x, ty, pos, after, none⟩ :: rest) fr L := by
  rw [Nat.zero_add] at hp
  refine TL_store1 hi hp hx rfl rfl ?_ ?_
  · rw [pk_size]; exact Nat.blt_eq ▸ (by omega)
  · rw [pk_set o vn vt hb]; exact h
theorem nx_put {j : Nat} {D : List Col} {col : Col} {vs : Nat → Value} {v2 : Value} {x : Int} (h : nxL (D ++ [col]) j = nxL D j ++ [x]) (q : Nat) :
    (fun i => rowO 3 1 ((fun i => if i = j then v2 else vs i) i) (if i < j + 1 then D ++ [col] else D).length ((nxL (if i < j + 1 then D ++ [col] else D) i).flatMap kit.intC)) q
      = upd (fun i => rowO 3 1 (vs i) (if i < j then D ++ [col] else D).length ((nxL (if i < j then D ++ [col] else D) i).flatMap kit.intC)) j (rowO 3 1 v2 (D.length + 1) ((nxL D j).flatMap kit.intC ++ [.int .i64 x])) q := by
  unfold upd
  dsimp only
  by_cases c : q = j
  · subst c
    rw [if_pos rfl, if_pos rfl, if_pos (Nat.lt_succ_self q), h, List.length_append, List.flatMap_append]; rfl
  · rw [if_neg c, if_neg c]
    have e : q < j + 1 ↔ q < j := by omega
    simp only [e]
def packS (R : List Row) (tags : List Int) : Spec (Nat × (Nat → Value) × Value) := ⟨fun _ => True, fun x => .tuple #[pkV (ofS R 256) (.slice (some ⟨x.1, 0, none⟩) R.length R.length) x.2.2, .int .i64 0],
  fun x => [rowA 23 valV x.1 R.length x.2.1, nxO R.length (pkD R 256) x.2.1, rowO 3 1 x.2.2 tags.length (tags.flatMap kit.intC)]⟩
set_option maxRecDepth 100000 in
set_option maxHeartbeats 8000000 in
theorem pack_calls (vr vt : Value) (R : List Row) (tags : List Int) (w : World) (h : DfaM w vr vt R tags) (hc : chk R tags = 0) :
    Calls Try.prog 15 #[dfaV vr vt] w (Meets (packS R tags) w) := by
  have hck := fun w' (hg : Gr w w') => chkM_calls vr vt R tags w' (h.gr hg)
  rw [hc] at hck
  have hcl := fun w' (hg : Gr w w') hl => cloneSmIn_calls vt tags w' (h.hT.gr hg) hl
  obtain ⟨bt, ct, rfl, ht1, ht2, ht3⟩ := h.hT
  obtain ⟨br, cr, rfl, hr1, hr2, hr3⟩ := h.hR
  have hrng := h.rng
  unfold maxLen at hr2 ht2
  clear h
  obtain ⟨hA, hlt⟩ := chk_ok hc
  have hpos : 0 < R.length := hA.pos
  have hle : R.length ≤ 200 := hA.le
  clear hA hc
  obtain ⟨b, off, rfl, hr⟩ := hr3 hpos
  obtain ⟨bb, ofT, rfl, hrt⟩ := ht3 (by omega)
  clear hr3 ht3 hrt
  have hcl := fun w' hg => hcl w' hg (by omega)
  have hb0 := build_pk0
  refine enter (args := [dfaV (.slice (some ⟨b, off, none⟩) R.length cr) (.slice (some ⟨bb, ofT, none⟩) tags.length ct)]) (n := 91) Try.func15 rfl rfl rfl ?_
  refine T_seq (T_region (TL_box rfl rfl rfl fun g1 => ?_))
  refine TL_new rfl fun g2 => ?_
  rw [zero_pk]
  conv => arg 8; simp only [zA, zB, zC, zD, zE, zF, zG, zH, zI, rowS, ret, id_eq]
  repeat (first
    | refine qv rfl (qp rfl) rfl rfl ?_ | refine TL_nil ?_ | refine T_seq ?_ | refine T_region ?_ | refine qcT rfl ?_ | refine qcF rfl ?_ | refine T_skip ?_
    | refine T_exit ?_ | refine T_ret ?_ | refine T_block ?_ | refine E_then ?_ | refine E_thenX ?_ | refine E_thenR ?_ | refine E_blockN ?_
    | refine E_blockR ?_ | refine E_blockX ?_ | refine E_blockO rfl ?_ | refine qv rfl (rr_loadB (i := 0) TyC.ty rfl rfl rfl) rfl rfl ?_
    | refine qv rfl (qlen Und.eq rfl) rfl rfl ?_ | refine qv rfl (qfld FldC.fld rfl rfl) rfl rfl ?_ | refine qv rfl (rr_not rfl rfl) rfl rfl ?_
    | refine qv rfl (rr_lss rfl rfl (qT (by omega))) rfl rfl ?_ | refine qv rfl (rr_lss rfl rfl (qF (by omega))) rfl rfl ?_
    | refine qv rfl (rr_neq rfl rfl (qT (by omega))) rfl rfl ?_ | refine qv rfl (rr_neq rfl rfl (qF (by omega))) rfl rfl ?_
    | refine qv rfl (rr_add64 rfl rfl (by omega) (by omega) rfl) rfl rfl ?_)
  refine TL_call (he1 EntersC.en rfl rfl) (fun w hm => hck _ hm.below) rfl rfl rfl ?_
  intro _ _
  repeat (first
    | refine qv rfl (qp rfl) rfl rfl ?_ | refine TL_nil ?_ | refine T_seq ?_ | refine T_region ?_ | refine qcT rfl ?_ | refine qcF rfl ?_ | refine T_skip ?_
    | refine T_exit ?_ | refine T_ret ?_ | refine T_block ?_ | refine E_then ?_ | refine E_thenX ?_ | refine E_thenR ?_ | refine E_blockN ?_
    | refine E_blockR ?_ | refine E_blockX ?_ | refine E_blockO rfl ?_ | refine qv rfl (qlen Und.eq rfl) rfl rfl ?_
    | refine qv rfl (qfld FldC.fld rfl rfl) rfl rfl ?_ | refine qv rfl (rr_not rfl rfl) rfl rfl ?_
    | refine qv rfl (rr_lss rfl rfl (qT (by omega))) rfl rfl ?_ | refine qv rfl (rr_lss rfl rfl (qF (by omega))) rfl rfl ?_
    | refine qv rfl (rr_neq rfl rfl (qT (by omega))) rfl rfl ?_ | refine qv rfl (rr_neq rfl rfl (qF (by omega))) rfl rfl ?_
    | refine qv rfl (rr_add64 rfl rfl (by omega) (by omega) rfl) rfl rfl ?_)
  (repeat refine T_seq ?_)
  refine T_midq (ι := Nat × Nat × Nat) (fun _ => True) (fun (_, _, g5) => [(1, .pointer (some ⟨g1, 0, none⟩)), (2, .pointer (some ⟨g2, 0, none⟩)), (5, .pointer (some ⟨g5, 0, none⟩))])
    (fun (gN, x, g5) => [blkO g1 (dfaV (.slice (some ⟨b, off, none⟩) R.length cr) (.slice (some ⟨bb, ofT, none⟩) tags.length ct)).cells 25, blkO g2 (pkC (Vector.replicate 256 0) (.slice none 0 0) (.slice none 0 0)).toArray 45, rowA 23 valV gN R.length (fun _ => .slice none 0 0), rowO 3 1 (slCant tags.length x) tags.length (tags.flatMap kit.intC), blkO g5 (pkC (ofS R 0) (.slice (some ⟨gN, 0, none⟩) R.length R.length) (slCant tags.length x)).toArray 45]) ?_ ?_
  · refine T_ordX [blkO g1 (dfaV (.slice (some ⟨b, off, none⟩) R.length cr) (.slice (some ⟨bb, ofT, none⟩) tags.length ct)).cells 25] (sub_pick [0] (by decide) rfl) (by kernel_rfl) (by kernel_rfl) (by intro c a d v w h; cases d <;> exact h) ?_
    refine TX_val 0 (by kernel_rfl) rfl (qfld FldC.fld rfl rfl) rfl rfl rfl ?_
    refine TX_val 1 (by kernel_rfl) rfl (rr_load1 TyC.ty rfl (at_blk (i := 0) rfl rfl)) rfl rfl rfl ?_
    refine TX_val 2 (by kernel_rfl) rfl (qlen Und.eq rfl) rfl rfl rfl ?_
    refine TX_val 4 (by kernel_rfl) rfl (qfld FldC.fld rfl rfl) rfl rfl rfl ?_
    refine TX_val 5 (by kernel_rfl) rfl (rr_load1 TyC.ty rfl (at_blk (i := 0) rfl rfl)) rfl rfl rfl ?_
    refine TX_many2 [mkNx R.length, mkTg tags, mkPk] (fun m => !Nat.beq m.i 8) 2 (by kernel_rfl) (by kernel_rfl) ?_ (fun q => ?_) fun q => ?_
    · intro m hm
      simp only [List.mem_cons, List.not_mem_nil, or_false] at hm
      rcases hm with rfl | rfl | rfl
      · exact makes_A valV _ rfl rfl rfl (by omega) (by omega) rfl
      · exact makes_row rfl (fun fr' hl => he1 EntersC.en rfl (ev_mono hl rfl)) (fun L w hm => hcl w hm.below) (by omega) rfl rfl rfl
      · exact makes_new rfl rfl
    · simp only [mkNx, mkTg, mkPk, List.map_cons, List.map_nil]
      generalize q 3 = gN
      generalize q 6 = x
      generalize q 8 = g5
      clear q
      rw [zero_pk]
      refine TX_tree (.calm 7 (.one 9 .done)) (by kernel_rfl) rfl ?_
      repeat (first
        | ((first | refine TW_plain rfl rfl ?_ | refine TW_gmet rfl rfl rfl rfl ?_); first | refine TN_val (qp rfl) rfl rfl ?_ | refine TN_val (rr_build rfl (build_pk _ _ _ _ _)) rfl rfl ?_ | refine TN_val (qlen Und.eq rfl) rfl rfl ?_ | refine TN_val (qfld FldC.fld rfl rfl) rfl rfl ?_ | refine TN_val (rr_not rfl rfl) rfl rfl ?_ | refine TN_val (rr_lss rfl rfl (qT (by omega))) rfl rfl ?_ | refine TN_val (rr_lss rfl rfl (qF (by omega))) rfl rfl ?_ | refine TN_val (rr_neq rfl rfl (qT (by omega))) rfl rfl ?_ | refine TN_val (rr_neq rfl rfl (qF (by omega))) rfl rfl ?_ | refine TN_val (rr_add64 rfl rfl (by omega) (by omega) rfl) rfl rfl ?_)
        | refine TW_done ?_)
      refine TW_one rfl ?_
      refine TL_storeB (i := 4) (cs' := (pkC (Vector.replicate 256 0) (.slice (some ⟨gN, 0, none⟩) R.length R.length) (slCant tags.length x)).toArray) rfl rfl rfl (pk_size _ _ _) (pk_one _ rfl rfl) (pk_size _ _ _) ?_
      refine TW_on (sub_pick [0] (by decide) rfl) ?_
      repeat (first
        | ((first | refine TW_plain rfl rfl ?_ | refine TW_gmet rfl rfl rfl rfl ?_); first | refine TN_val (qp rfl) rfl rfl ?_ | refine TN_val (qlen Und.eq rfl) rfl rfl ?_ | refine TN_val (qfld FldC.fld rfl rfl) rfl rfl ?_ | refine TN_val (rr_not rfl rfl) rfl rfl ?_ | refine TN_val (rr_lss rfl rfl (qT (by omega))) rfl rfl ?_ | refine TN_val (rr_lss rfl rfl (qF (by omega))) rfl rfl ?_ | refine TN_val (rr_neq rfl rfl (qT (by omega))) rfl rfl ?_ | refine TN_val (rr_neq rfl rfl (qF (by omega))) rfl rfl ?_ | refine TN_val (rr_add64 rfl rfl (by omega) (by omega) rfl) rfl rfl ?_)
        | refine TW_done ?_)
      exact E_mid (gN, x, g5) trivial (by repeat' (first | exact True.intro | refine And.intro rfl ?_)) (by rw [ofS_0]; rfl)
    · rw [show List.filter (fun m : Mk => !Nat.beq m.i 8) [mkNx R.length, mkTg tags, mkPk] = [mkNx R.length, mkTg tags] from rfl]
      simp only [mkNx, mkTg, mkPk, List.map_cons, List.map_nil]
      generalize q 3 = gN
      generalize q 6 = x
      clear q
      refine TX_tree (.calm 7 (.one 8 (.one 9 .done))) (by kernel_rfl) (by kernel_rfl) ?_
      repeat (first
        | ((first | refine TW_plain rfl rfl ?_ | refine TW_gmet rfl rfl rfl rfl ?_); first | refine TN_val (qp rfl) rfl rfl ?_ | refine TN_val (rr_build rfl (build_pk _ _ _ _ _)) rfl rfl ?_ | refine TN_val (qlen Und.eq rfl) rfl rfl ?_ | refine TN_val (qfld FldC.fld rfl rfl) rfl rfl ?_ | refine TN_val (rr_not rfl rfl) rfl rfl ?_ | refine TN_val (rr_lss rfl rfl (qT (by omega))) rfl rfl ?_ | refine TN_val (rr_lss rfl rfl (qF (by omega))) rfl rfl ?_ | refine TN_val (rr_neq rfl rfl (qT (by omega))) rfl rfl ?_ | refine TN_val (rr_neq rfl rfl (qF (by omega))) rfl rfl ?_ | refine TN_val (rr_add64 rfl rfl (by omega) (by omega) rfl) rfl rfl ?_)
        | refine TW_done ?_)
      refine TW_one rfl ?_
      refine TL_new rfl fun g5 => ?_
      refine TW_on (sub_pick [0] (by decide) rfl) ?_
      rw [zero_pk]
      refine TW_one rfl ?_
      refine TL_storeB (i := 4) (cs' := (pkC (Vector.replicate 256 0) (.slice (some ⟨gN, 0, none⟩) R.length R.length) (slCant tags.length x)).toArray) rfl rfl rfl (pk_size _ _ _) (pk_one _ rfl rfl) (pk_size _ _ _) ?_
      refine TW_on (sub_pick [0] (by decide) rfl) ?_
      repeat (first
        | ((first | refine TW_plain rfl rfl ?_ | refine TW_gmet rfl rfl rfl rfl ?_); first | refine TN_val (qp rfl) rfl rfl ?_ | refine TN_val (qlen Und.eq rfl) rfl rfl ?_ | refine TN_val (qfld FldC.fld rfl rfl) rfl rfl ?_ | refine TN_val (rr_not rfl rfl) rfl rfl ?_ | refine TN_val (rr_lss rfl rfl (qT (by omega))) rfl rfl ?_ | refine TN_val (rr_lss rfl rfl (qF (by omega))) rfl rfl ?_ | refine TN_val (rr_neq rfl rfl (qT (by omega))) rfl rfl ?_ | refine TN_val (rr_neq rfl rfl (qF (by omega))) rfl rfl ?_ | refine TN_val (rr_add64 rfl rfl (by omega) (by omega) rfl) rfl rfl ?_)
        | refine TW_done ?_)
      exact E_mid (gN, x, g5) trivial (by repeat' (first | exact True.intro | refine And.intro rfl ?_)) (by rw [ofS_0]; rfl)
  rintro ⟨gN, xT, g5⟩ _
  dsimp only
  generalize hvT : slCant tags.length xT = vT
  repeat (first
    | refine qv rfl (qp rfl) rfl rfl ?_ | refine TL_nil ?_ | refine T_seq ?_ | refine T_region ?_ | refine qcT rfl ?_ | refine qcF rfl ?_ | refine T_skip ?_
    | refine T_exit ?_ | refine T_ret ?_ | refine T_block ?_ | refine E_then ?_ | refine E_thenX ?_ | refine E_thenR ?_ | refine E_blockN ?_
    | refine E_blockR ?_ | refine E_blockX ?_ | refine E_blockO rfl ?_ | refine qv rfl (qlen Und.eq rfl) rfl rfl ?_
    | refine qv rfl (qfld FldC.fld rfl rfl) rfl rfl ?_ | refine qv rfl (rr_not rfl rfl) rfl rfl ?_
    | refine qv rfl (rr_lss rfl rfl (qT (by omega))) rfl rfl ?_ | refine qv rfl (rr_lss rfl rfl (qF (by omega))) rfl rfl ?_
    | refine qv rfl (rr_neq rfl rfl (qT (by omega))) rfl rfl ?_ | refine qv rfl (rr_neq rfl rfl (qF (by omega))) rfl rfl ?_
    | refine qv rfl (rr_add64 rfl rfl (by omega) (by omega) rfl) rfl rfl ?_)
  refine TL_mapNew (K := colK) rfl fun g6 => ?_
  conv => arg 8; simp only [zA, zB, zC, zD, zE, zF, zG, zH, zI, rowS, ret, id_eq]
  repeat (first
    | refine qv rfl (qp rfl) rfl rfl ?_ | refine TL_nil ?_ | refine T_seq ?_ | refine T_region ?_ | refine qcT rfl ?_ | refine qcF rfl ?_ | refine T_skip ?_
    | refine T_exit ?_ | refine T_ret ?_ | refine T_block ?_ | refine E_then ?_ | refine E_thenX ?_ | refine E_thenR ?_ | refine E_blockN ?_
    | refine E_blockR ?_ | refine E_blockX ?_ | refine E_blockO rfl ?_ | refine qv rfl (qlen Und.eq rfl) rfl rfl ?_
    | refine qv rfl (qfld FldC.fld rfl rfl) rfl rfl ?_ | refine qv rfl (rr_not rfl rfl) rfl rfl ?_
    | refine qv rfl (rr_lss rfl rfl (qT (by omega))) rfl rfl ?_ | refine qv rfl (rr_lss rfl rfl (qF (by omega))) rfl rfl ?_
    | refine qv rfl (rr_neq rfl rfl (qT (by omega))) rfl rfl ?_ | refine qv rfl (rr_neq rfl rfl (qF (by omega))) rfl rfl ?_
    | refine qv rfl (rr_add64 rfl rfl (by omega) (by omega) rfl) rfl rfl ?_)
  refine T_extra (nxO R.length [] fun _ => .slice none 0 0) (fun k hk => ?_) (fun w => ⟨fun i _ => World.ownsRow_nil _ _ _ _, fun i j _ _ _ k hk => ?_⟩) ?_
  · rcases hk with hk | ⟨i, _, hk⟩
    · cases hk
    · rcases hk with hk | hk <;> cases hk
  · rcases hk with hk | hk <;> cases hk
  conv => arg 7; simp only [zA, zB, zC, zD, zE, zF, zG, zH, zI, rowS, ret, id_eq]
  refine T_loop (ι := Nat × (Nat → Value)) (fun (k, _) => k ≤ 256) (fun (k, _) => [(1, .pointer (some ⟨g1, 0, none⟩)), (2, .pointer (some ⟨g2, 0, none⟩)), (5, .pointer (some ⟨g5, 0, none⟩)), (6, .map (some g6)), (30, .int .i64 (k : Int))])
    (fun (k, vs) => [blkO g1 (dfaV (.slice (some ⟨b, off, none⟩) R.length cr) (.slice (some ⟨bb, ofT, none⟩) tags.length ct)).cells 25, blkO g2 (pkC (Vector.replicate 256 0) (.slice none 0 0) (.slice none 0 0)).toArray 45, rowA 23 valV gN R.length vs, rowO 3 1 vT tags.length (tags.flatMap kit.intC), blkO g5 (pkC (ofS R k) (.slice (some ⟨gN, 0, none⟩) R.length R.length) vT).toArray 45, mapO colK g6 (mapAt (pkD R k)) (pkD R k).length, nxO R.length (pkD R k) vs]) (fun (k, _) => 256 - k) (0, fun _ => .slice none 0 0) (Nat.zero_le _) (by repeat' (first | exact True.intro | refine And.intro rfl ?_)) rfl ?_
  rintro ⟨k, vs⟩ hk
  dsimp only at hk ⊢
  by_cases c1 : k < 256
  · repeat (first
      | refine qv rfl (qp rfl) rfl rfl ?_ | refine TL_nil ?_ | refine T_seq ?_ | refine T_region ?_ | refine qcT rfl ?_ | refine qcF rfl ?_ | refine T_skip ?_
      | refine T_exit ?_ | refine T_ret ?_ | refine T_block ?_ | refine E_then ?_ | refine E_thenX ?_ | refine E_thenR ?_ | refine E_blockN ?_
      | refine E_blockR ?_ | refine E_blockX ?_ | refine E_blockO rfl ?_ | refine qv rfl (qlen Und.eq rfl) rfl rfl ?_
      | refine qv rfl (qfld FldC.fld rfl rfl) rfl rfl ?_ | refine qv rfl (rr_not rfl rfl) rfl rfl ?_
      | refine qv rfl (rr_lss rfl rfl (qT (by omega))) rfl rfl ?_ | refine qv rfl (rr_lss rfl rfl (qF (by omega))) rfl rfl ?_
      | refine qv rfl (rr_neq rfl rfl (qT (by omega))) rfl rfl ?_ | refine qv rfl (rr_neq rfl rfl (qF (by omega))) rfl rfl ?_
      | refine qv rfl (rr_add64 rfl rfl (by omega) (by omega) rfl) rfl rfl ?_)
    refine TL_new rfl fun g8 => ?_
    conv => arg 8; simp only [zA, zB, zC, zD, zE, zF, zG, zH, zI, rowS, ret, id_eq]
    rw [zero_col, ← colS_0 R k]
    repeat (first
      | refine qv rfl (qp rfl) rfl rfl ?_ | refine TL_nil ?_ | refine T_seq ?_ | refine T_region ?_ | refine qcT rfl ?_ | refine qcF rfl ?_ | refine T_skip ?_
      | refine T_exit ?_ | refine T_ret ?_ | refine T_block ?_ | refine E_then ?_ | refine E_thenX ?_ | refine E_thenR ?_ | refine E_blockN ?_
      | refine E_blockR ?_ | refine E_blockX ?_ | refine E_blockO rfl ?_ | refine qv rfl (rr_load1 TyC.ty rfl (at_blk (i := 0) rfl rfl)) rfl rfl ?_
      | refine qv rfl (qlen Und.eq rfl) rfl rfl ?_ | refine qv rfl (qfld FldC.fld rfl rfl) rfl rfl ?_ | refine qv rfl (rr_not rfl rfl) rfl rfl ?_
      | refine qv rfl (rr_lss rfl rfl (qT (by omega))) rfl rfl ?_ | refine qv rfl (rr_lss rfl rfl (qF (by omega))) rfl rfl ?_
      | refine qv rfl (rr_neq rfl rfl (qT (by omega))) rfl rfl ?_ | refine qv rfl (rr_neq rfl rfl (qF (by omega))) rfl rfl ?_
      | refine qv rfl (rr_add64 rfl rfl (by omega) (by omega) rfl) rfl rfl ?_)
    refine T_loop (ι := Nat) (fun j => j ≤ R.length) (fun j => [(1, .pointer (some ⟨g1, 0, none⟩)), (2, .pointer (some ⟨g2, 0, none⟩)), (5, .pointer (some ⟨g5, 0, none⟩)), (6, .map (some g6)), (7, .int .i64 (k : Int)), (8, .pointer (some ⟨g8, 0, none⟩)), (30, .int .i64 (k : Int)), (34, .slice (some ⟨b, off, none⟩) R.length cr), (35, .int .i64 (R.length : Int)), (36, .int .i64 (j : Int))])
      (fun j => [blkO g1 (dfaV (.slice (some ⟨b, off, none⟩) R.length cr) (.slice (some ⟨bb, ofT, none⟩) tags.length ct)).cells 25, blkO g2 (pkC (Vector.replicate 256 0) (.slice none 0 0) (.slice none 0 0)).toArray 45, rowA 23 valV gN R.length vs, rowO 3 1 vT tags.length (tags.flatMap kit.intC), blkO g5 (pkC (ofS R k) (.slice (some ⟨gN, 0, none⟩) R.length R.length) vT).toArray 45, mapO colK g6 (mapAt (pkD R k)) (pkD R k).length, nxO R.length (pkD R k) vs, blkO g8 (colC (colS R k j)).toArray 74]) (fun j => R.length - j) 0 (Nat.zero_le _) (by repeat' (first | exact True.intro | refine And.intro rfl ?_)) rfl ?_
    intro j hj
    by_cases c2 : j < R.length
    · have hatR := fun (L : List Own) => at_el (W := w) (L := L) rowC_len hr c2
      have hcell : (rowC R[j]).toArray[0 + k]? = some (.int .i16 (cellF R j k)) := by rw [Nat.zero_add, List.getElem?_toArray, rowC_get _ c1, cell_get c2 c1]
      have hset := colS_set R k j (by omega)
      generalize R[j] = r at *
      generalize cellF R j k = x at *
      repeat (first
        | refine qv rfl (qp rfl) rfl rfl ?_ | refine TL_nil ?_ | refine T_seq ?_ | refine T_region ?_ | refine qcT rfl ?_ | refine qcF rfl ?_ | refine T_skip ?_
        | refine T_exit ?_ | refine T_ret ?_ | refine T_block ?_ | refine E_then ?_ | refine E_thenX ?_ | refine E_thenR ?_ | refine E_blockN ?_
        | refine E_blockR ?_ | refine E_blockX ?_ | refine E_blockO rfl ?_ | refine qv rfl (rr_idxc Und.eq TyC.ty rfl rfl c2) rfl rfl ?_
        | refine qv rfl (rr_loadN TyC.ty rfl (rowC_len r) (hatR _)) rfl rfl ?_ | refine qv rfl (qlen Und.eq rfl) rfl rfl ?_
        | refine qv rfl (qfld FldC.fld rfl rfl) rfl rfl ?_ | refine qv rfl (rr_not rfl rfl) rfl rfl ?_
        | refine qv rfl (rr_lss rfl rfl (qT (by omega))) rfl rfl ?_ | refine qv rfl (rr_lss rfl rfl (qF (by omega))) rfl rfl ?_
        | refine qv rfl (rr_neq rfl rfl (qT (by omega))) rfl rfl ?_ | refine qv rfl (rr_neq rfl rfl (qF (by omega))) rfl rfl ?_
        | refine qv rfl (rr_add64 rfl rfl (by omega) (by omega) rfl) rfl rfl ?_)
      refine TL_new rfl fun g10 => ?_
      conv => arg 8; simp only [zA, zB, zC, zD, zE, zF, zG, zH, zI, rowS, ret, id_eq]
      repeat (first
        | refine qv rfl (qp rfl) rfl rfl ?_ | refine TL_nil ?_ | refine T_seq ?_ | refine T_region ?_ | refine qcT rfl ?_ | refine qcF rfl ?_ | refine T_skip ?_
        | refine T_exit ?_ | refine T_ret ?_ | refine T_block ?_ | refine E_then ?_ | refine E_thenX ?_ | refine E_thenR ?_ | refine E_blockN ?_
        | refine E_blockR ?_ | refine E_blockX ?_ | refine E_blockO rfl ?_ | refine qv rfl (qlen Und.eq rfl) rfl rfl ?_
        | refine qv rfl (qfld FldC.fld rfl rfl) rfl rfl ?_ | refine qv rfl (rr_not rfl rfl) rfl rfl ?_
        | refine qv rfl (rr_lss rfl rfl (qT (by omega))) rfl rfl ?_ | refine qv rfl (rr_lss rfl rfl (qF (by omega))) rfl rfl ?_
        | refine qv rfl (rr_neq rfl rfl (qT (by omega))) rfl rfl ?_ | refine qv rfl (rr_neq rfl rfl (qF (by omega))) rfl rfl ?_
        | refine qv rfl (rr_add64 rfl rfl (by omega) (by omega) rfl) rfl rfl ?_)
      refine TL_storeB (i := 8) (cs' := (rowC r).toArray) rfl rfl rfl (by rw [List.size_toArray, rowC_len]) (by simpa using row_one1 r) (by kernel_rfl) ?_
      conv => arg 8; simp only [zA, zB, zC, zD, zE, zF, zG, zH, zI, rowS, ret, id_eq]
      repeat (first
        | refine qv rfl (qp rfl) rfl rfl ?_ | refine TL_nil ?_ | refine T_seq ?_ | refine T_region ?_ | refine qcT rfl ?_ | refine qcF rfl ?_ | refine T_skip ?_
        | refine T_exit ?_ | refine T_ret ?_ | refine T_block ?_ | refine E_then ?_ | refine E_thenX ?_ | refine E_thenR ?_ | refine E_blockN ?_
        | refine E_blockR ?_ | refine E_blockX ?_ | refine E_blockO rfl ?_ | refine qv rfl (rr_aidx1 Und.eq TyC.ty rfl rfl c1) rfl rfl ?_
        | refine qv rfl (rr_load1 TyC.ty rfl (at_blk (i := 8) rfl hcell)) rfl rfl ?_ | refine qv rfl (rr_aidx1 Und.eq TyC.ty rfl rfl (by omega)) rfl rfl ?_
        | refine qv rfl (qlen Und.eq rfl) rfl rfl ?_ | refine qv rfl (qfld FldC.fld rfl rfl) rfl rfl ?_ | refine qv rfl (rr_not rfl rfl) rfl rfl ?_
        | refine qv rfl (rr_lss rfl rfl (qT (by omega))) rfl rfl ?_ | refine qv rfl (rr_lss rfl rfl (qF (by omega))) rfl rfl ?_
        | refine qv rfl (rr_neq rfl rfl (qT (by omega))) rfl rfl ?_ | refine qv rfl (rr_neq rfl rfl (qF (by omega))) rfl rfl ?_
        | refine qv rfl (rr_add64 rfl rfl (by omega) (by omega) rfl) rfl rfl ?_)
      refine TL_storeCol (i := 7) (b := j) rfl rfl rfl (by omega) ?_
      rw [hset]
      conv => arg 8; simp only [zA, zB, zC, zD, zE, zF, zG, zH, zI, rowS, ret, id_eq]
      repeat (first
        | refine qv rfl (qp rfl) rfl rfl ?_ | refine TL_nil ?_ | refine T_seq ?_ | refine T_region ?_ | refine qcT rfl ?_ | refine qcF rfl ?_ | refine T_skip ?_
        | refine T_exit ?_ | refine T_ret ?_ | refine T_block ?_ | refine E_then ?_ | refine E_thenX ?_ | refine E_thenR ?_ | refine E_blockN ?_
        | refine E_blockR ?_ | refine E_blockX ?_ | refine E_blockO rfl ?_ | refine qv rfl (qlen Und.eq rfl) rfl rfl ?_
        | refine qv rfl (qfld FldC.fld rfl rfl) rfl rfl ?_ | refine qv rfl (rr_not rfl rfl) rfl rfl ?_
        | refine qv rfl (rr_lss rfl rfl (qT (by omega))) rfl rfl ?_ | refine qv rfl (rr_lss rfl rfl (qF (by omega))) rfl rfl ?_
        | refine qv rfl (rr_neq rfl rfl (qT (by omega))) rfl rfl ?_ | refine qv rfl (rr_neq rfl rfl (qF (by omega))) rfl rfl ?_
        | refine qv rfl (rr_add64 rfl rfl (by omega) (by omega) rfl) rfl rfl ?_)
      refine E_pick [0, 1, 2, 3, 4, 5, 6, 7] (by decide) rfl ?_
      exact E_round (j + 1) (by omega) (by show R.length - (j + 1) < R.length - j; omega) (by repeat' (first | exact True.intro | refine And.intro rfl ?_)) rfl
    · obtain rfl : j = R.length := by omega
      rw [show colS R k R.length = colF R k from rfl]
      have hok := colF_ok hrng c1
      have hnk := pkN_at (R := R) c1
      have hn256 := pkN_256 R c1
      have hofs := ofS_set R k c1
      have hdl := pkD_len R k
      have hzero : ∀ w : World, (zeroValue 3).run Try.prog w = .ok (.int .i64 0) w := zeroI
      by_cases c2 : colF R k ∈ pkD R k
      · have hD := pkD_old c2
        rw [if_pos c2] at hnk
        generalize colF R k = col at *
        repeat (first
          | refine qv rfl (qp rfl) rfl rfl ?_ | refine TL_nil ?_ | refine T_seq ?_ | refine T_region ?_ | refine qcT rfl ?_ | refine qcF rfl ?_ | refine T_skip ?_
          | refine T_exit ?_ | refine T_ret ?_ | refine T_block ?_ | refine E_then ?_ | refine E_thenX ?_ | refine E_thenR ?_ | refine E_blockN ?_
          | refine E_blockR ?_ | refine E_blockX ?_ | refine E_blockO rfl ?_
          | refine qv rfl (rr_loadB (i := 7) TyC.ty rfl rfl (by rw [List.size_toArray, colC_len])) rfl rfl ?_
          | refine qv rfl (rr_lookNumS (K := colK) (x := col) Und.eq hzero (i := 5) rfl rfl rfl hok c2) rfl rfl ?_ | refine qv rfl (qlen Und.eq rfl) rfl rfl ?_
          | refine qv rfl (qfld FldC.fld rfl rfl) rfl rfl ?_ | refine qv rfl (rr_not rfl rfl) rfl rfl ?_
          | refine qv rfl (rr_lss rfl rfl (qT (by omega))) rfl rfl ?_ | refine qv rfl (rr_lss rfl rfl (qF (by omega))) rfl rfl ?_
          | refine qv rfl (rr_neq rfl rfl (qT (by omega))) rfl rfl ?_ | refine qv rfl (rr_neq rfl rfl (qF (by omega))) rfl rfl ?_
          | refine qv rfl (rr_add64 rfl rfl (by omega) (by omega) rfl) rfl rfl ?_)
        have hwr := wrapU8 (k := idx (pkD R k) col) (by rw [← hnk]; exact hn256)
        rw [hnk] at hofs
        clear hnk hn256 hrng
        generalize pkD R k = D at *
        repeat (first
          | refine qv rfl (qp rfl) rfl rfl ?_ | refine TL_nil ?_ | refine T_seq ?_ | refine T_region ?_ | refine qcT rfl ?_ | refine qcF rfl ?_ | refine T_skip ?_
          | refine T_exit ?_ | refine T_ret ?_ | refine T_block ?_ | refine E_then ?_ | refine E_thenX ?_ | refine E_thenR ?_ | refine E_blockN ?_
          | refine E_blockR ?_ | refine E_blockX ?_ | refine E_blockO rfl ?_ | refine qv rfl (rr_conv Und.eq Und.eq rfl hwr) rfl rfl ?_
          | refine qv rfl (rr_aidx1 Und.eq TyC.ty rfl rfl c1) rfl rfl ?_ | refine qv rfl (qlen Und.eq rfl) rfl rfl ?_
          | refine qv rfl (qfld FldC.fld rfl rfl) rfl rfl ?_ | refine qv rfl (rr_not rfl rfl) rfl rfl ?_
          | refine qv rfl (rr_lss rfl rfl (qT (by omega))) rfl rfl ?_ | refine qv rfl (rr_lss rfl rfl (qF (by omega))) rfl rfl ?_
          | refine qv rfl (rr_neq rfl rfl (qT (by omega))) rfl rfl ?_ | refine qv rfl (rr_neq rfl rfl (qF (by omega))) rfl rfl ?_
          | refine qv rfl (rr_add64 rfl rfl (by omega) (by omega) rfl) rfl rfl ?_)
        refine TL_storeOf (i := 4) (b := k) rfl rfl rfl c1 ?_
        rw [hofs]
        conv => arg 8; simp only [zA, zB, zC, zD, zE, zF, zG, zH, zI, rowS, ret, id_eq]
        repeat (first
          | refine qv rfl (qp rfl) rfl rfl ?_ | refine TL_nil ?_ | refine T_seq ?_ | refine T_region ?_ | refine qcT rfl ?_ | refine qcF rfl ?_ | refine T_skip ?_
          | refine T_exit ?_ | refine T_ret ?_ | refine T_block ?_ | refine E_then ?_ | refine E_thenX ?_ | refine E_thenR ?_ | refine E_blockN ?_
          | refine E_blockR ?_ | refine E_blockX ?_ | refine E_blockO rfl ?_ | refine qv rfl (qlen Und.eq rfl) rfl rfl ?_
          | refine qv rfl (qfld FldC.fld rfl rfl) rfl rfl ?_ | refine qv rfl (rr_not rfl rfl) rfl rfl ?_
          | refine qv rfl (rr_lss rfl rfl (qT (by omega))) rfl rfl ?_ | refine qv rfl (rr_lss rfl rfl (qF (by omega))) rfl rfl ?_
          | refine qv rfl (rr_neq rfl rfl (qT (by omega))) rfl rfl ?_ | refine qv rfl (rr_neq rfl rfl (qF (by omega))) rfl rfl ?_
          | refine qv rfl (rr_add64 rfl rfl (by omega) (by omega) rfl) rfl rfl ?_)
        refine E_pick [0, 1, 2, 3, 4, 5, 6] (by decide) rfl ?_
        exact E_round (k + 1, vs) (by show k + 1 ≤ 256; omega) (by show 256 - (k + 1) < 256 - k; omega) (by repeat' (first | exact True.intro | refine And.intro rfl ?_)) (by dsimp only; rw [hD]; rfl)
      · have hD := pkD_new c2
        rw [if_neg c2] at hnk
        have hcg := fun i hi => colF_get R k i hi hle
        have hwr := wrapU8 (k := (pkD R k).length) (by omega)
        rw [hnk] at hofs
        clear hnk hn256
        generalize colF R k = col at *
        generalize hDk : pkD R k = D at *
        repeat (first
          | refine qv rfl (qp rfl) rfl rfl ?_ | refine TL_nil ?_ | refine T_seq ?_ | refine T_region ?_ | refine qcT rfl ?_ | refine qcF rfl ?_ | refine T_skip ?_
          | refine T_exit ?_ | refine T_ret ?_ | refine T_block ?_ | refine E_then ?_ | refine E_thenX ?_ | refine E_thenR ?_ | refine E_blockN ?_
          | refine E_blockR ?_ | refine E_blockX ?_ | refine E_blockO rfl ?_
          | refine qv rfl (rr_loadB (i := 7) TyC.ty rfl rfl (by rw [List.size_toArray, colC_len])) rfl rfl ?_
          | refine qv rfl (rr_lookNumN (K := colK) (x := col) Und.eq hzero (i := 5) rfl rfl rfl hok c2) rfl rfl ?_
          | refine qv rfl (rr_maplen colK Und.eq (i := 5) rfl rfl) rfl rfl ?_ | refine qv rfl (qlen Und.eq rfl) rfl rfl ?_
          | refine qv rfl (qfld FldC.fld rfl rfl) rfl rfl ?_ | refine qv rfl (rr_not rfl rfl) rfl rfl ?_
          | refine qv rfl (rr_lss rfl rfl (qT (by omega))) rfl rfl ?_ | refine qv rfl (rr_lss rfl rfl (qF (by omega))) rfl rfl ?_
          | refine qv rfl (rr_neq rfl rfl (qT (by omega))) rfl rfl ?_ | refine qv rfl (rr_neq rfl rfl (qF (by omega))) rfl rfl ?_
          | refine qv rfl (rr_add64 rfl rfl (by omega) (by omega) rfl) rfl rfl ?_)
        refine TL_mapNum (K := colK) (i := 5) (x := col) Und.eq rfl rfl rfl rfl hok c2 (by omega) ?_
        conv => arg 8; simp only [zA, zB, zC, zD, zE, zF, zG, zH, zI, rowS, ret, id_eq]
        repeat (first
          | refine qv rfl (qp rfl) rfl rfl ?_ | refine TL_nil ?_ | refine T_seq ?_ | refine T_region ?_ | refine qcT rfl ?_ | refine qcF rfl ?_ | refine T_skip ?_
          | refine T_exit ?_ | refine T_ret ?_ | refine T_block ?_ | refine E_then ?_ | refine E_thenX ?_ | refine E_thenR ?_ | refine E_blockN ?_
          | refine E_blockR ?_ | refine E_blockX ?_ | refine E_blockO rfl ?_ | refine qv rfl (rr_load1 TyC.ty rfl (at_blk (i := 0) rfl rfl)) rfl rfl ?_
          | refine qv rfl (qlen Und.eq rfl) rfl rfl ?_ | refine qv rfl (qfld FldC.fld rfl rfl) rfl rfl ?_ | refine qv rfl (rr_not rfl rfl) rfl rfl ?_
          | refine qv rfl (rr_lss rfl rfl (qT (by omega))) rfl rfl ?_ | refine qv rfl (rr_lss rfl rfl (qF (by omega))) rfl rfl ?_
          | refine qv rfl (rr_neq rfl rfl (qT (by omega))) rfl rfl ?_ | refine qv rfl (rr_neq rfl rfl (qF (by omega))) rfl rfl ?_
          | refine qv rfl (rr_add64 rfl rfl (by omega) (by omega) rfl) rfl rfl ?_)
        refine T_pick [0, 1, 2, 3, 4, 5, 6] (by decide) rfl ?_
        rw [← nxM_0 R.length D col vs]
        refine T_loop (ι := Nat × (Nat → Value)) (fun (j, _) => j ≤ R.length) (fun (j, _) => [(1, .pointer (some ⟨g1, 0, none⟩)), (2, .pointer (some ⟨g2, 0, none⟩)), (5, .pointer (some ⟨g5, 0, none⟩)), (6, .map (some g6)), (7, .int .i64 (k : Int)), (11, .int .i64 (D.length : Int)), (30, .int .i64 (k : Int)), (61, .slice (some ⟨b, off, none⟩) R.length cr), (62, .int .i64 (R.length : Int)), (63, .int .i64 (j : Int))])
          (fun (j, vs) => [blkO g1 (dfaV (.slice (some ⟨b, off, none⟩) R.length cr) (.slice (some ⟨bb, ofT, none⟩) tags.length ct)).cells 25, blkO g2 (pkC (Vector.replicate 256 0) (.slice none 0 0) (.slice none 0 0)).toArray 45, rowA 23 valV gN R.length vs, rowO 3 1 vT tags.length (tags.flatMap kit.intC), blkO g5 (pkC (ofS R k) (.slice (some ⟨gN, 0, none⟩) R.length R.length) vT).toArray 45, mapO colK g6 (mapAt (D ++ [col])) (D ++ [col]).length, nxM R.length D col j vs]) (fun (j, _) => R.length - j) (0, vs) (Nat.zero_le _) (by repeat' (first | exact True.intro | refine And.intro rfl ?_)) rfl ?_
        rintro ⟨j, vs⟩ hj
        dsimp only at hj ⊢
        by_cases c3 : j < R.length
        · have hatR := fun (L : List Own) => at_el (W := w) (L := L) rowC_len hr c3
          have hcell : (rowC R[j]).toArray[0 + k]? = some (.int .i16 (cellF R j k)) := by rw [Nat.zero_add, List.getElem?_toArray, rowC_get _ c1, cell_get c3 c1]
          have hx := hrng R[j] (List.getElem_mem c3) (cellF R j k) (by rw [cell_get c3 c1, ← Vector.getElem_toList (h := by simpa using c1)]; exact List.getElem_mem _)
          have hcj := hcg j c3
          clear hcg
          generalize R[j] = r at *
          generalize cellF R j k = x at *
          repeat (first
            | refine qv rfl (qp rfl) rfl rfl ?_ | refine TL_nil ?_ | refine T_seq ?_ | refine T_region ?_ | refine qcT rfl ?_ | refine qcF rfl ?_ | refine T_skip ?_
            | refine T_exit ?_ | refine T_ret ?_ | refine T_block ?_ | refine E_then ?_ | refine E_thenX ?_ | refine E_thenR ?_ | refine E_blockN ?_
            | refine E_blockR ?_ | refine E_blockX ?_ | refine E_blockO rfl ?_ | refine qv rfl (rr_idxc Und.eq TyC.ty rfl rfl c3) rfl rfl ?_
            | refine qv rfl (rr_loadN TyC.ty rfl (rowC_len r) (hatR _)) rfl rfl ?_ | refine qv rfl (qlen Und.eq rfl) rfl rfl ?_
            | refine qv rfl (qfld FldC.fld rfl rfl) rfl rfl ?_ | refine qv rfl (rr_not rfl rfl) rfl rfl ?_
            | refine qv rfl (rr_lss rfl rfl (qT (by omega))) rfl rfl ?_ | refine qv rfl (rr_lss rfl rfl (qF (by omega))) rfl rfl ?_
            | refine qv rfl (rr_neq rfl rfl (qT (by omega))) rfl rfl ?_ | refine qv rfl (rr_neq rfl rfl (qF (by omega))) rfl rfl ?_
            | refine qv rfl (rr_add64 rfl rfl (by omega) (by omega) rfl) rfl rfl ?_)
          refine TL_new rfl fun g14 => ?_
          conv => arg 8; simp only [zA, zB, zC, zD, zE, zF, zG, zH, zI, rowS, ret, id_eq]
          repeat (first
            | refine qv rfl (qp rfl) rfl rfl ?_ | refine TL_nil ?_ | refine T_seq ?_ | refine T_region ?_ | refine qcT rfl ?_ | refine qcF rfl ?_ | refine T_skip ?_
            | refine T_exit ?_ | refine T_ret ?_ | refine T_block ?_ | refine E_then ?_ | refine E_thenX ?_ | refine E_thenR ?_ | refine E_blockN ?_
            | refine E_blockR ?_ | refine E_blockX ?_ | refine E_blockO rfl ?_ | refine qv rfl (qlen Und.eq rfl) rfl rfl ?_
            | refine qv rfl (qfld FldC.fld rfl rfl) rfl rfl ?_ | refine qv rfl (rr_not rfl rfl) rfl rfl ?_
            | refine qv rfl (rr_lss rfl rfl (qT (by omega))) rfl rfl ?_ | refine qv rfl (rr_lss rfl rfl (qF (by omega))) rfl rfl ?_
            | refine qv rfl (rr_neq rfl rfl (qT (by omega))) rfl rfl ?_ | refine qv rfl (rr_neq rfl rfl (qF (by omega))) rfl rfl ?_
            | refine qv rfl (rr_add64 rfl rfl (by omega) (by omega) rfl) rfl rfl ?_)
          refine TL_storeB (i := 7) (cs' := (rowC r).toArray) rfl rfl rfl (by rw [List.size_toArray, rowC_len]) (by simpa using row_one1 r) (by kernel_rfl) ?_
          conv => arg 8; simp only [zA, zB, zC, zD, zE, zF, zG, zH, zI, rowS, ret, id_eq]
          repeat (first
            | refine qv rfl (qp rfl) rfl rfl ?_ | refine TL_nil ?_ | refine T_seq ?_ | refine T_region ?_ | refine qcT rfl ?_ | refine qcF rfl ?_ | refine T_skip ?_
            | refine T_exit ?_ | refine T_ret ?_ | refine T_block ?_ | refine E_then ?_ | refine E_thenX ?_ | refine E_thenR ?_ | refine E_blockN ?_
            | refine E_blockR ?_ | refine E_blockX ?_ | refine E_blockO rfl ?_ | refine qv rfl (qlen Und.eq rfl) rfl rfl ?_
            | refine qv rfl (qfld FldC.fld rfl rfl) rfl rfl ?_ | refine qv rfl (rr_not rfl rfl) rfl rfl ?_
            | refine qv rfl (rr_lss rfl rfl (qT (by omega))) rfl rfl ?_ | refine qv rfl (rr_lss rfl rfl (qF (by omega))) rfl rfl ?_
            | refine qv rfl (rr_neq rfl rfl (qT (by omega))) rfl rfl ?_ | refine qv rfl (rr_neq rfl rfl (qF (by omega))) rfl rfl ?_
            | refine qv rfl (rr_add64 rfl rfl (by omega) (by omega) rfl) rfl rfl ?_)
          unfold nxM
          refine T_take (q := 6) j rfl c3 ?_
          rw [if_neg (Nat.lt_irrefl j)]
          conv => arg 7; simp only [zA, zB, zC, zD, zE, zF, zG, zH, zI, rowS, ret, id_eq]
          (repeat refine T_seq ?_)
          refine T_ord ([blkO g1 (dfaV (.slice (some ⟨b, off, none⟩) R.length cr) (.slice (some ⟨bb, ofT, none⟩) tags.length ct)).cells 25, blkO g5 (pkC (ofS R k) (.slice (some ⟨gN, 0, none⟩) R.length R.length) vT).toArray 45, blkO g14 (rowC r).toArray 31]) (.calm 0 (.calm 1 (.calm 2 (.calm 3 (.calm 4 (.calm 5 (.calm 6 (.calm 8 (.calm 9 (.calm 10 (.calm 11 (.two 7 (.one 12 (.one 13 (.calm 14 (.one 15 (.done))))) 12 (.one 7 (.one 13 (.calm 14 (.one 15 (.done))))))))))))))))) (sub_pick [0, 4, 7] (by decide) rfl) (by kernel_rfl) (by kernel_rfl) (by intro c a d v w h; cases d <;> exact h) ?_
          repeat (first
            | ((first | refine TW_plain rfl rfl ?_ | refine TW_gmet rfl rfl rfl rfl ?_); first | refine TN_val (qp rfl) rfl rfl ?_ | refine TN_val (rr_load1 TyC.ty rfl (at_blk (i := 1) rfl (pk_next _ _ _))) rfl rfl ?_ | refine TN_val (rr_idx1 (j := j) Und.eq TyC.ty rfl rfl c3) rfl rfl ?_ | refine TN_val (rr_aidx1 Und.eq TyC.ty rfl rfl c1) rfl rfl ?_ | refine TN_val (rr_load1 TyC.ty rfl (at_blk (i := 2) rfl hcell)) rfl rfl ?_ | refine TN_val (rr_conv Und.eq Und.eq rfl (wrap_in (by omega) (by omega))) rfl rfl ?_ | refine TN_val (qlen Und.eq rfl) rfl rfl ?_ | refine TN_val (qfld FldC.fld rfl rfl) rfl rfl ?_ | refine TN_val (rr_not rfl rfl) rfl rfl ?_ | refine TN_val (rr_lss rfl rfl (qT (by omega))) rfl rfl ?_ | refine TN_val (rr_lss rfl rfl (qF (by omega))) rfl rfl ?_ | refine TN_val (rr_neq rfl rfl (qT (by omega))) rfl rfl ?_ | refine TN_val (rr_neq rfl rfl (qF (by omega))) rfl rfl ?_ | refine TN_val (rr_add64 rfl rfl (by omega) (by omega) rfl) rfl rfl ?_)
            | refine TW_done ?_)
          have hnj : nxL (D ++ [col]) j = nxL D j ++ [x] := by unfold nxL; rw [List.map_append, List.map_singleton, hcj]
          have hst : ∀ v2 : Value, ∀ i, i < R.length → (fun i => if i = j then v2 else vs i) i = if i = j then v2 else vs i := fun _ _ _ => rfl
          refine TW_two rfl rfl ?_ ?_
          · refine TL_val (rr_load1 TyC.ty rfl (at_rowA (i := 2) rfl c3)) rfl rfl rfl (TW_on (sub_pick [0, 4, 7] (by decide) rfl) ?_)
            refine TW_one rfl (TL_one rfl rfl rfl rfl rfl fun g80 => TW_on (sub_pick [0, 4, 7] (by decide) rfl) ?_)
            refine TW_one rfl (TL_app11 (i := 8) (q := 9) rfl rfl rfl rfl rfl rfl (by omega) (by omega) rfl fun v2 => TW_on (sub_pick [0, 4, 7] (by decide) rfl) ?_)
            repeat (first
              | ((first | refine TW_plain rfl rfl ?_ | refine TW_gmet rfl rfl rfl rfl ?_); first | refine TN_val (qp rfl) rfl rfl ?_ | refine TN_val (rr_idx1 (j := j) Und.eq TyC.ty rfl rfl c3) rfl rfl ?_ | refine TN_val (qlen Und.eq rfl) rfl rfl ?_ | refine TN_val (qfld FldC.fld rfl rfl) rfl rfl ?_ | refine TN_val (rr_not rfl rfl) rfl rfl ?_ | refine TN_val (rr_lss rfl rfl (qT (by omega))) rfl rfl ?_ | refine TN_val (rr_lss rfl rfl (qF (by omega))) rfl rfl ?_ | refine TN_val (rr_neq rfl rfl (qT (by omega))) rfl rfl ?_ | refine TN_val (rr_neq rfl rfl (qF (by omega))) rfl rfl ?_ | refine TN_val (rr_add64 rfl rfl (by omega) (by omega) rfl) rfl rfl ?_)
              | refine TW_done ?_)
            refine TW_one rfl (TL_slv (i := 8) rfl fun hc1 ho1 => TL_storeA (i := 2) (val := valV) (off := j) (v := v2) (fun i => if i = j then v2 else vs i) TyC.ty rfl rfl rfl hc1 ho1 c3 (hst v2) (TW_on (sub_pick [0, 4, 7] (by decide) rfl) ?_))
            repeat (first
              | ((first | refine TW_plain rfl rfl ?_ | refine TW_gmet rfl rfl rfl rfl ?_); first | refine TN_val (qp rfl) rfl rfl ?_ | refine TN_val (qlen Und.eq rfl) rfl rfl ?_ | refine TN_val (qfld FldC.fld rfl rfl) rfl rfl ?_ | refine TN_val (rr_not rfl rfl) rfl rfl ?_ | refine TN_val (rr_lss rfl rfl (qT (by omega))) rfl rfl ?_ | refine TN_val (rr_lss rfl rfl (qF (by omega))) rfl rfl ?_ | refine TN_val (rr_neq rfl rfl (qT (by omega))) rfl rfl ?_ | refine TN_val (rr_neq rfl rfl (qF (by omega))) rfl rfl ?_ | refine TN_val (rr_add64 rfl rfl (by omega) (by omega) rfl) rfl rfl ?_)
              | refine TW_done ?_)
            repeat (first
              | refine qv rfl (qp rfl) rfl rfl ?_ | refine TL_nil ?_ | refine T_seq ?_ | refine T_region ?_ | refine qcT rfl ?_ | refine qcF rfl ?_ | refine T_skip ?_
              | refine T_exit ?_ | refine T_ret ?_ | refine T_block ?_ | refine E_then ?_ | refine E_thenX ?_ | refine E_thenR ?_ | refine E_blockN ?_
              | refine E_blockR ?_ | refine E_blockX ?_ | refine E_blockO rfl ?_ | refine qv rfl (qlen Und.eq rfl) rfl rfl ?_
              | refine qv rfl (qfld FldC.fld rfl rfl) rfl rfl ?_ | refine qv rfl (rr_not rfl rfl) rfl rfl ?_
              | refine qv rfl (rr_lss rfl rfl (qT (by omega))) rfl rfl ?_ | refine qv rfl (rr_lss rfl rfl (qF (by omega))) rfl rfl ?_
              | refine qv rfl (rr_neq rfl rfl (qT (by omega))) rfl rfl ?_ | refine qv rfl (rr_neq rfl rfl (qF (by omega))) rfl rfl ?_
              | refine qv rfl (rr_add64 rfl rfl (by omega) (by omega) rfl) rfl rfl ?_)
            refine E_put j 6 8 [0, 1, 2, 3, 4, 5] (by decide) rfl rfl rfl (fun h => h.2 rfl) (D' := fun i => i < R.length) (f' := fun i => rowO 3 1 ((fun i => if i = j then v2 else vs i) i) (if i < j + 1 then D ++ [col] else D).length ((nxL (if i < j + 1 then D ++ [col] else D) i).flatMap kit.intC)) (fun q hq => (by by_cases e : q = j; exact .inr e; exact .inl ⟨hq, e⟩)) (fun q hq => ?_) ?_
            · exact nx_put hnj q
            exact E_round (j + 1, fun i => if i = j then v2 else vs i) (by show j + 1 ≤ R.length; omega) (by show R.length - (j + 1) < R.length - j; omega) (by repeat' (first | exact True.intro | refine And.intro rfl ?_)) rfl
          · refine TL_one rfl rfl rfl rfl rfl fun g80 => TW_on (sub_pick [0, 4, 7] (by decide) rfl) ?_
            refine TW_one rfl (TL_val (rr_load1 TyC.ty rfl (at_rowA (i := 2) rfl c3)) rfl rfl rfl (TW_on (sub_pick [0, 4, 7] (by decide) rfl) ?_))
            refine TW_one rfl (TL_app11 (i := 8) (q := 9) rfl rfl rfl rfl rfl rfl (by omega) (by omega) rfl fun v2 => TW_on (sub_pick [0, 4, 7] (by decide) rfl) ?_)
            repeat (first
              | ((first | refine TW_plain rfl rfl ?_ | refine TW_gmet rfl rfl rfl rfl ?_); first | refine TN_val (qp rfl) rfl rfl ?_ | refine TN_val (rr_idx1 (j := j) Und.eq TyC.ty rfl rfl c3) rfl rfl ?_ | refine TN_val (qlen Und.eq rfl) rfl rfl ?_ | refine TN_val (qfld FldC.fld rfl rfl) rfl rfl ?_ | refine TN_val (rr_not rfl rfl) rfl rfl ?_ | refine TN_val (rr_lss rfl rfl (qT (by omega))) rfl rfl ?_ | refine TN_val (rr_lss rfl rfl (qF (by omega))) rfl rfl ?_ | refine TN_val (rr_neq rfl rfl (qT (by omega))) rfl rfl ?_ | refine TN_val (rr_neq rfl rfl (qF (by omega))) rfl rfl ?_ | refine TN_val (rr_add64 rfl rfl (by omega) (by omega) rfl) rfl rfl ?_)
              | refine TW_done ?_)
            refine TW_one rfl (TL_slv (i := 8) rfl fun hc1 ho1 => TL_storeA (i := 2) (val := valV) (off := j) (v := v2) (fun i => if i = j then v2 else vs i) TyC.ty rfl rfl rfl hc1 ho1 c3 (hst v2) (TW_on (sub_pick [0, 4, 7] (by decide) rfl) ?_))
            repeat (first
              | ((first | refine TW_plain rfl rfl ?_ | refine TW_gmet rfl rfl rfl rfl ?_); first | refine TN_val (qp rfl) rfl rfl ?_ | refine TN_val (qlen Und.eq rfl) rfl rfl ?_ | refine TN_val (qfld FldC.fld rfl rfl) rfl rfl ?_ | refine TN_val (rr_not rfl rfl) rfl rfl ?_ | refine TN_val (rr_lss rfl rfl (qT (by omega))) rfl rfl ?_ | refine TN_val (rr_lss rfl rfl (qF (by omega))) rfl rfl ?_ | refine TN_val (rr_neq rfl rfl (qT (by omega))) rfl rfl ?_ | refine TN_val (rr_neq rfl rfl (qF (by omega))) rfl rfl ?_ | refine TN_val (rr_add64 rfl rfl (by omega) (by omega) rfl) rfl rfl ?_)
              | refine TW_done ?_)
            repeat (first
              | refine qv rfl (qp rfl) rfl rfl ?_ | refine TL_nil ?_ | refine T_seq ?_ | refine T_region ?_ | refine qcT rfl ?_ | refine qcF rfl ?_ | refine T_skip ?_
              | refine T_exit ?_ | refine T_ret ?_ | refine T_block ?_ | refine E_then ?_ | refine E_thenX ?_ | refine E_thenR ?_ | refine E_blockN ?_
              | refine E_blockR ?_ | refine E_blockX ?_ | refine E_blockO rfl ?_ | refine qv rfl (qlen Und.eq rfl) rfl rfl ?_
              | refine qv rfl (qfld FldC.fld rfl rfl) rfl rfl ?_ | refine qv rfl (rr_not rfl rfl) rfl rfl ?_
              | refine qv rfl (rr_lss rfl rfl (qT (by omega))) rfl rfl ?_ | refine qv rfl (rr_lss rfl rfl (qF (by omega))) rfl rfl ?_
              | refine qv rfl (rr_neq rfl rfl (qT (by omega))) rfl rfl ?_ | refine qv rfl (rr_neq rfl rfl (qF (by omega))) rfl rfl ?_
              | refine qv rfl (rr_add64 rfl rfl (by omega) (by omega) rfl) rfl rfl ?_)
            refine E_put j 6 8 [0, 1, 2, 3, 4, 5] (by decide) rfl rfl rfl (fun h => h.2 rfl) (D' := fun i => i < R.length) (f' := fun i => rowO 3 1 ((fun i => if i = j then v2 else vs i) i) (if i < j + 1 then D ++ [col] else D).length ((nxL (if i < j + 1 then D ++ [col] else D) i).flatMap kit.intC)) (fun q hq => (by by_cases e : q = j; exact .inr e; exact .inl ⟨hq, e⟩)) (fun q hq => ?_) ?_
            · exact nx_put hnj q
            exact E_round (j + 1, fun i => if i = j then v2 else vs i) (by show j + 1 ≤ R.length; omega) (by show R.length - (j + 1) < R.length - j; omega) (by repeat' (first | exact True.intro | refine And.intro rfl ?_)) rfl
        · obtain rfl : j = R.length := by omega
          refine T_reown (nxO R.length (D ++ [col]) vs) (i := 6) rfl (fam_congr (fun _ h => h) (nxM_end _ _ _ _)) (fam_foot (fun _ h => h) (nxM_end _ _ _ _)) ?_
          conv => arg 7; simp only [zA, zB, zC, zD, zE, zF, zG, zH, zI, rowS, ret, id_eq]
          repeat (first
            | refine qv rfl (qp rfl) rfl rfl ?_ | refine TL_nil ?_ | refine T_seq ?_ | refine T_region ?_ | refine qcT rfl ?_ | refine qcF rfl ?_ | refine T_skip ?_
            | refine T_exit ?_ | refine T_ret ?_ | refine T_block ?_ | refine E_then ?_ | refine E_thenX ?_ | refine E_thenR ?_ | refine E_blockN ?_
            | refine E_blockR ?_ | refine E_blockX ?_ | refine E_blockO rfl ?_ | refine qv rfl (rr_conv Und.eq Und.eq rfl hwr) rfl rfl ?_
            | refine qv rfl (rr_aidx1 Und.eq TyC.ty rfl rfl c1) rfl rfl ?_ | refine qv rfl (qlen Und.eq rfl) rfl rfl ?_
            | refine qv rfl (qfld FldC.fld rfl rfl) rfl rfl ?_ | refine qv rfl (rr_not rfl rfl) rfl rfl ?_
            | refine qv rfl (rr_lss rfl rfl (qT (by omega))) rfl rfl ?_ | refine qv rfl (rr_lss rfl rfl (qF (by omega))) rfl rfl ?_
            | refine qv rfl (rr_neq rfl rfl (qT (by omega))) rfl rfl ?_ | refine qv rfl (rr_neq rfl rfl (qF (by omega))) rfl rfl ?_
            | refine qv rfl (rr_add64 rfl rfl (by omega) (by omega) rfl) rfl rfl ?_)
          refine TL_storeOf (i := 4) (b := k) rfl rfl rfl c1 ?_
          rw [hofs]
          conv => arg 8; simp only [zA, zB, zC, zD, zE, zF, zG, zH, zI, rowS, ret, id_eq]
          repeat (first
            | refine qv rfl (qp rfl) rfl rfl ?_ | refine TL_nil ?_ | refine T_seq ?_ | refine T_region ?_ | refine qcT rfl ?_ | refine qcF rfl ?_ | refine T_skip ?_
            | refine T_exit ?_ | refine T_ret ?_ | refine T_block ?_ | refine E_then ?_ | refine E_thenX ?_ | refine E_thenR ?_ | refine E_blockN ?_
            | refine E_blockR ?_ | refine E_blockX ?_ | refine E_blockO rfl ?_ | refine qv rfl (qlen Und.eq rfl) rfl rfl ?_
            | refine qv rfl (qfld FldC.fld rfl rfl) rfl rfl ?_ | refine qv rfl (rr_not rfl rfl) rfl rfl ?_
            | refine qv rfl (rr_lss rfl rfl (qT (by omega))) rfl rfl ?_ | refine qv rfl (rr_lss rfl rfl (qF (by omega))) rfl rfl ?_
            | refine qv rfl (rr_neq rfl rfl (qT (by omega))) rfl rfl ?_ | refine qv rfl (rr_neq rfl rfl (qF (by omega))) rfl rfl ?_
            | refine qv rfl (rr_add64 rfl rfl (by omega) (by omega) rfl) rfl rfl ?_)
          exact E_round (k + 1, vs) (by show k + 1 ≤ 256; omega) (by show 256 - (k + 1) < 256 - k; omega) (by repeat' (first | exact True.intro | refine And.intro rfl ?_)) (by dsimp only; rw [hD])
  · obtain rfl : k = 256 := by omega
    repeat (first
      | refine qv rfl (qp rfl) rfl rfl ?_ | refine TL_nil ?_ | refine T_seq ?_ | refine T_region ?_ | refine qcT rfl ?_ | refine qcF rfl ?_ | refine T_skip ?_
      | refine T_exit ?_ | refine T_ret ?_ | refine T_block ?_ | refine E_then ?_ | refine E_thenX ?_ | refine E_thenR ?_ | refine E_blockN ?_
      | refine E_blockR ?_ | refine E_blockX ?_ | refine E_blockO rfl ?_ | refine qv rfl (rr_loadB (i := 4) TyC.ty rfl rfl (pk_size _ _ _)) rfl rfl ?_
      | refine qv rfl (qlen Und.eq rfl) rfl rfl ?_ | refine qv rfl (qfld FldC.fld rfl rfl) rfl rfl ?_ | refine qv rfl (rr_not rfl rfl) rfl rfl ?_
      | refine qv rfl (rr_lss rfl rfl (qT (by omega))) rfl rfl ?_ | refine qv rfl (rr_lss rfl rfl (qF (by omega))) rfl rfl ?_
      | refine qv rfl (rr_neq rfl rfl (qT (by omega))) rfl rfl ?_ | refine qv rfl (rr_neq rfl rfl (qF (by omega))) rfl rfl ?_
      | refine qv rfl (rr_add64 rfl rfl (by omega) (by omega) rfl) rfl rfl ?_)
    refine TL_slv (i := 3) rfl fun hc1 ho1 => ?_
    refine TL_storeB (i := 1) (cs' := (pkC (ofS R 256) (.slice (some ⟨gN, 0, none⟩) R.length R.length) vT).toArray) rfl rfl rfl (pk_size _ _ _) (pk_one _ rfl ho1) (pk_size _ _ _) ?_
    conv => arg 8; simp only [zA, zB, zC, zD, zE, zF, zG, zH, zI, rowS, ret, id_eq]
    repeat (first
      | refine qv rfl (qp rfl) rfl rfl ?_ | refine TL_nil ?_ | refine T_seq ?_ | refine T_region ?_ | refine qcT rfl ?_ | refine qcF rfl ?_ | refine T_skip ?_
      | refine T_exit ?_ | refine T_ret ?_ | refine T_block ?_ | refine E_then ?_ | refine E_thenX ?_ | refine E_thenR ?_ | refine E_blockN ?_
      | refine E_blockR ?_ | refine E_blockX ?_ | refine E_blockO rfl ?_ | refine qv rfl (qlen Und.eq rfl) rfl rfl ?_
      | refine qv rfl (qfld FldC.fld rfl rfl) rfl rfl ?_ | refine qv rfl (rr_not rfl rfl) rfl rfl ?_
      | refine qv rfl (rr_lss rfl rfl (qT (by omega))) rfl rfl ?_ | refine qv rfl (rr_lss rfl rfl (qF (by omega))) rfl rfl ?_
      | refine qv rfl (rr_neq rfl rfl (qT (by omega))) rfl rfl ?_ | refine qv rfl (rr_neq rfl rfl (qF (by omega))) rfl rfl ?_
      | refine qv rfl (rr_add64 rfl rfl (by omega) (by omega) rfl) rfl rfl ?_)
    refine E_retc2 (i := 1) rfl rfl rfl (pk_size _ _ _) rfl fun w hm => ?_
    exact hm.meets (S := packS R tags) (gN, vs, vT) trivial [2, 6, 3] (by decide) rfl
end Go.Proofs.Ytbiacehgfmgfdaa.eng

/- What rex.spans.each computes, out of what ends computes; the map that is kept. -/
import Derived.Test.YtbiacehgfmgfdaaDoorRexN
import Derived.Test.YtbiacehgfmgfdaaDoorKeyG
import Derived.Test.YtbiacehgfmgfdaaDoorSmL
import Derived.Test.YtbiacehgfmgfdaaDoorClassT
namespace Go.Proofs.YtbiacehgfmgfdaaDoor.eng
open Go.RowKit kit mix classL rexL classSets
/-! ### keys: a node and a place -/
abbrev At2 := Int × Int
def atC (p : At2) : List Value := [.int .i64 p.1, .int .i64 p.2]
def atV (p : At2) : Value := .agg (atC p).toArray
set_option maxRecDepth 100000 in
theorem at_key (p : At2) (h : kit.okI64 p.1 ∧ kit.okI64 p.2) : ∃ l, keyOf Tryd.prog 77 (atV p) = some l := by
  have e1 : Tryd.prog.cellsOf 77 = 2 := by kernel_rfl
  have e3 : Tryd.prog.cellsOf 3 = 1 := by kernel_rfl
  refine key_ex (m := 2) (by kernel_rfl) (by kernel_rfl) (by rw [e1]; rfl) (trySize 2 (by kernel_rfl)) fun d => ?_
  refine kl_struct (d := d + 1) Tryd.underlying77 (by rw [e1]; rfl) (by kernel_rfl) fun f hf => ?_
  simp only [List.mem_cons, List.not_mem_nil, or_false] at hf
  rcases hf with rfl | rfl
  · rw [e3]
    exact kl_int Tryd.underlying3 h.1.1 h.1.2
  · rw [e3]
    exact kl_int Tryd.underlying3 h.2.1 h.2.2
theorem atRow : (77 : TypeId) < Tryd.prog.types.size := of_decide_eq_true (by kernel_rfl)
set_option maxRecDepth 100000 in
def atK : KeyT Tryd.prog 77 At2 where
  kv := atV
  ok p := kit.okI64 p.1 ∧ kit.okI64 p.2
  law := deep_law_laid tryLaid (m := 2) (by omega) atRow (by kernel_rfl) (by kernel_rfl)
  key x h := at_key x h
  inj x y h := by
    simp only [atV, Value.agg.injEq, Array.mk.injEq, atC, List.cons.injEq, Value.int.injEq, true_and, and_true] at h
    exact Prod.ext h.1 h.2
theorem zeroCls (w : World) : (zeroValue 27).run Tryd.prog w = .ok (clsV C4.zero) w := by kernel_rfl
/-! ### nodes by their numbers -/
def nodeAt : Re → Nat → Nat → Re
  | r, base, k => if k = base then r else match r with
    | .cat a b => if k < base + 1 + a.size then nodeAt a (base + 1) k else nodeAt b (base + 1 + a.size) k
    | .alt a b => if k < base + 1 + a.size then nodeAt a (base + 1) k else nodeAt b (base + 1 + a.size) k
    | .star a => nodeAt a (base + 1) k
    | r => r
def Con (N : Nat → Re) (r : Re) (k : Nat) : Prop := ∀ i, k ≤ i → i < k + r.size → N i = nodeAt r k i
theorem nodeAt_self (r : Re) (k : Nat) : nodeAt r k k = r := by cases r <;> simp [nodeAt]
theorem con_self {N : Nat → Re} {r : Re} {k : Nat} (h : Con N r k) : N k = r := by
  have := h k (Nat.le_refl k) (by have := r.size_pos; omega)
  rw [this, nodeAt_self]
theorem con_kid {N : Nat → Re} {r : Re} {k : Nat} (h : Con N r k) {j : Nat} (hj : j < (kidsK r k).length) : Con N (kidsK r k)[j].1 (kidsK r k)[j].2 ∧ (kidsK r k)[j].2 + (kidsK r k)[j].1.size ≤ k + r.size ∧ (kidsK r k)[j].1.size < r.size := by
  cases r with
  | cat a b => match j, hj with
    | 0, _ =>
      refine ⟨fun i h1 h2 => ?_, by simp [kidsK, Re.size]; omega, by simp [kidsK, Re.size]; omega⟩
      simp only [kidsK, List.getElem_cons_zero] at h1 h2 ⊢
      rw [h i (by omega) (by simp [Re.size]; omega), nodeAt, if_neg (by omega)]
      show (if i < k + 1 + a.size then _ else _) = _
      rw [if_pos (by omega)]
    | 1, _ =>
      refine ⟨fun i h1 h2 => ?_, by simp [kidsK, Re.size]; omega, by simp [kidsK, Re.size]; omega⟩
      simp only [kidsK, List.getElem_cons_succ, List.getElem_cons_zero] at h1 h2 ⊢
      rw [h i (by omega) (by simp [Re.size]; omega), nodeAt, if_neg (by omega)]
      show (if i < k + 1 + a.size then _ else _) = _
      rw [if_neg (by omega)]
  | alt a b => match j, hj with
    | 0, _ =>
      refine ⟨fun i h1 h2 => ?_, by simp [kidsK, Re.size]; omega, by simp [kidsK, Re.size]; omega⟩
      simp only [kidsK, List.getElem_cons_zero] at h1 h2 ⊢
      rw [h i (by omega) (by simp [Re.size]; omega), nodeAt, if_neg (by omega)]
      show (if i < k + 1 + a.size then _ else _) = _
      rw [if_pos (by omega)]
    | 1, _ =>
      refine ⟨fun i h1 h2 => ?_, by simp [kidsK, Re.size]; omega, by simp [kidsK, Re.size]; omega⟩
      simp only [kidsK, List.getElem_cons_succ, List.getElem_cons_zero] at h1 h2 ⊢
      rw [h i (by omega) (by simp [Re.size]; omega), nodeAt, if_neg (by omega)]
      show (if i < k + 1 + a.size then _ else _) = _
      rw [if_neg (by omega)]
  | star a => match j, hj with
    | 0, _ =>
      refine ⟨fun i h1 h2 => ?_, by simp [kidsK, Re.size]; omega, by simp [kidsK, Re.size]⟩
      simp only [kidsK, List.getElem_cons_zero] at h1 h2 ⊢
      rw [h i (by omega) (by simp [Re.size]; omega), nodeAt, if_neg (by omega)]
  | none => simp [kidsK] at hj
  | empty => simp [kidsK] at hj
  | byte c => simp [kidsK] at hj
/-! ### what the map holds -/
structure MOk (s : List UInt8) (N : Nat → Re) (m : At2 → Option Value) (n : Nat) : Prop where
  val : ∀ (k f : Nat) v, k < 100 → f ≤ s.length → m ((k : Int), (f : Int)) = some v → ∃ c, v = clsV c ∧ EndC s (N k) f c
  cnt : ∃ D : List Nat, D.Nodup ∧ D.length = n ∧ (∀ x ∈ D, x < 25600) ∧ ∀ (k f : Nat), k < 100 → f < 256 → ((m ((k : Int), (f : Int))).isSome = true ↔ k * 256 + f ∈ D)
theorem mok0 (s : List UInt8) (N : Nat → Re) : MOk s N (fun _ => none) 0 := ⟨fun k f v _ _ h => (by cases h), [], List.nodup_nil, rfl, fun x h => (by cases h), fun k f _ _ => by simp⟩
theorem MOk.le {s : List UInt8} {N : Nat → Re} {m : At2 → Option Value} {n : Nat} (h : MOk s N m n) : n ≤ 25600 := by
  obtain ⟨D, h1, h2, h3, _⟩ := h.cnt
  rw [← h2]
  exact smallL.nodup_bound h1 h3
theorem MOk.set {s : List UInt8} {N : Nat → Re} {m : At2 → Option Value} {n : Nat} (h : MOk s N m n) (hs : s.length ≤ 200) {k f : Nat} (hk : k < 100) (hf : f ≤ s.length) {c : C4} (hc : EndC s (N k) f c) :
    MOk s N (fun y => if y = ((k : Int), (f : Int)) then some (clsV c) else m y) (if (m ((k : Int), (f : Int))).isSome then n else n + 1) := by
  refine ⟨fun k' f' v hk' hf' hv => ?_, ?_⟩
  · by_cases e : ((k' : Int), (f' : Int)) = ((k : Int), (f : Int))
    · rw [if_pos e] at hv
      simp only [Prod.mk.injEq] at e
      obtain rfl : k' = k := by omega
      obtain rfl : f' = f := by omega
      simp only [Option.some.injEq] at hv
      exact ⟨c, hv.symm, hc⟩
    · rw [if_neg e] at hv
      exact h.val k' f' v hk' hf' hv
  · obtain ⟨D, h1, h2, h3, h4⟩ := h.cnt
    by_cases e : (m ((k : Int), (f : Int))).isSome = true
    · rw [if_pos e]
      refine ⟨D, h1, h2, h3, fun k' f' hk' hf' => ?_⟩
      by_cases e2 : ((k' : Int), (f' : Int)) = ((k : Int), (f : Int))
      · rw [if_pos e2]
        simp only [Prod.mk.injEq] at e2
        obtain rfl : k' = k := by omega
        obtain rfl : f' = f := by omega
        simpa using (h4 k' f' hk' hf').1 e
      · rw [if_neg e2]
        exact h4 k' f' hk' hf'
    · rw [if_neg e]
      have hn : k * 256 + f ∉ D := fun hd => e ((h4 k f hk (by omega)).2 hd)
      refine ⟨(k * 256 + f) :: D, List.nodup_cons.2 ⟨hn, h1⟩, by rw [List.length_cons, h2], fun x hx => ?_, fun k' f' hk' hf' => ?_⟩
      · rcases List.mem_cons.1 hx with rfl | hx
        · omega
        · exact h3 x hx
      · by_cases e2 : ((k' : Int), (f' : Int)) = ((k : Int), (f : Int))
        · rw [if_pos e2]
          simp only [Prod.mk.injEq] at e2
          obtain rfl : k' = k := by omega
          obtain rfl : f' = f := by omega
          simp
        · rw [if_neg e2, h4 k' f' hk' hf', List.mem_cons]
          have : ¬ k' * 256 + f' = k * 256 + f := fun h => e2 (by
            have a : k' = k := by omega
            have b : f' = f := by omega
            rw [a, b])
          simp [this]
/-! ### contracts -/
abbrev EIx := C4 × (At2 → Option Value) × Nat
def spO (gs : Nat) (s : List UInt8) (gm : Nat) : Own := blkO gs #[str s, .map (some gm)] 69
def mO (gm : Nat) (x : (At2 → Option Value) × Nat) : Own := mapO atK gm x.1 x.2
def endSp (s : List UInt8) (N : Nat → Re) (gs gm : Nat) (F : Nat → Prop) (w1 : World) (r : Re) (f : Nat) : Spec EIx := ⟨fun x => EndC s r f x.1 ∧ MOk s N x.2.1 x.2.2, fun x => clsV x.1, fun x => [spO gs s gm, mO gm x.2, frozO F w1]⟩
def eachSp (s : List UInt8) (N : Nat → Re) (gs gm : Nat) (F : Nat → Prop) (w1 : World) (r : Re) (X : C4) : Spec EIx := ⟨fun x => EachC s r X x.1 ∧ MOk s N x.2.1 x.2.2, fun x => clsV x.1, fun x => [spO gs s gm, mO gm x.2, frozO F w1]⟩
/-- what ends says at a node -/
def EndsOk (w0 : World) (s : List UInt8) (N : Nat → Re) (gs gm : Nat) (F : Nat → Prop) (w1 : World) (r : Re) (cs : List Value) : Prop :=
  ∀ (f : Nat) (m : At2 → Option Value) (n : Nat) (w : World) (B : Base), f ≤ s.length → MOk s N m n → Old w0 B → Mem B [spO gs s gm, mO gm (m, n), frozO F w1] w →
    Calls Tryd.prog 40 #[.pointer (some ⟨gs, 0, none⟩), .agg cs.toArray, .int .i64 (f : Int)] w (MeetsB (endSp s N gs gm F w1 r f) B)
/-- ends from the first j of some places -/
def EachJ (s : List UInt8) (r : Re) (X : C4) (j : Nat) (c : C4) : Prop := ∀ i, i < 256 → (c.mem i = true ↔ ∃ f, f ∈ (bytesL X).take j ∧ EndP r s f i)
theorem each_0 (s : List UInt8) (r : Re) (X : C4) : EachJ s r X 0 C4.zero := fun i hi => by rw [zero_mem]; simp
theorem each_next {s : List UInt8} {r : Re} {X c c' : C4} {j : Nat} (hj : j < (bytesL X).length) (h : EachJ s r X j c) (h' : EndC s r (bytesL X)[j] c') : EachJ s r X (j + 1) (c.join c') := fun i hi => by
  rw [join_mem, Bool.or_eq_true, h i hi, h' i hi, List.take_succ_eq_append_getElem hj]
  constructor
  · rintro (⟨f, h1, h2⟩ | h2)
    · exact ⟨f, List.mem_append_left _ h1, h2⟩
    · exact ⟨_, List.mem_append_right _ (by simp), h2⟩
  · rintro ⟨f, h1, h2⟩
    rcases List.mem_append.1 h1 with h1 | h1
    · exact .inl ⟨f, h1, h2⟩
    · simp at h1; subst h1; exact .inr h2
theorem each_all {s : List UInt8} {r : Re} {X c : C4} (h : EachJ s r X (bytesL X).length c) : EachC s r X c := fun i hi => by
  rw [h i hi, List.take_length]
  exact ⟨fun ⟨f, h1, h2⟩ => ⟨f, (mem_bytes.1 h1).1, (mem_bytes.1 h1).2, h2⟩, fun ⟨f, h1, h2, h3⟩ => ⟨f, mem_bytes.2 ⟨h1, h2⟩, h3⟩⟩
theorem strL_len (X : C4) : (strL X).length = (bytesL X).length := by unfold strL; simp
set_option maxRecDepth 100000 in
set_option maxHeartbeats 16000000 in
theorem each4_calls (w0 : World) (hT : TabW w0) (s : List UInt8) (hs : s.length ≤ 200) (N : Nat → Re) (gs gm : Nat) (F : Nat → Prop) (w1 : World) (r : Re) (k : Nat) (vk v : Value) (hE : EndsOk w0 s N gs gm F w1 r (numC r k vk v)) (h1k : vk.oneCell' = true) (h1v : v.oneCell' = true) (X : C4) (hX : ∀ i, i < 256 → X.mem i = true → i ≤ s.length) (m : At2 → Option Value) (n : Nat) (w : World) (B : Base) (hmk : MOk s N m n) (ho : Old w0 B) (hm : Mem B [spO gs s gm, mO gm (m, n), frozO F w1] w) :
    Calls Tryd.prog 43 #[.pointer (some ⟨gs, 0, none⟩), clsV X, .agg (numC r k vk v).toArray] w (MeetsB (eachSp s N gs gm F w1 r X) B) := by
  have hl256 : (bytesL X).length ≤ 256 := cnt_le X
  have hTB : ∀ (L : List Own) w', Mem B L w' → TabW w' := fun L w' hm j u hj => ho.cell hm (hT j u hj)
  refine enterB hm (args := [.pointer (some ⟨gs, 0, none⟩), clsV X, .agg (numC r k vk v).toArray]) (n := 27) Tryd.func43 rfl rfl rfl ?_
  clear hm
  refine T_seq (T_region (TL_box rfl rfl rfl fun g4 => TL_box rfl rfl rfl fun g5 => TL_new rfl fun g6 => ?_))
  conv => arg 8; simp only [zA, zB, zC, zD, zE, zF, zG, zH, zI, rowS, ret, id_eq]
  repeat (first
    | refine qv rfl (qp rfl) rfl rfl ?_ | refine TL_nil ?_ | refine T_seq ?_ | refine T_region ?_ | refine qcT rfl ?_ | refine qcF rfl ?_ | refine T_skip ?_
    | refine T_exit ?_ | refine T_ret ?_ | refine T_block ?_ | refine E_then ?_ | refine E_thenX ?_ | refine E_thenR ?_ | refine E_blockN ?_
    | refine E_blockR ?_ | refine E_blockX ?_ | refine E_blockO rfl ?_ | refine qv rfl (qlen Und.eq rfl) rfl rfl ?_
    | refine qv rfl (rr_lss rfl rfl (qT (by omega))) rfl rfl ?_ | refine qv rfl (rr_lss rfl rfl (qF (by omega))) rfl rfl ?_
    | refine qv rfl (rr_add64 rfl rfl (by omega) (by omega) rfl) rfl rfl ?_)
  refine TL_new rfl fun g7 => ?_
  conv => arg 8; simp only [zA, zB, zC, zD, zE, zF, zG, zH, zI, rowS, ret, id_eq]
  repeat (first
    | refine qv rfl (qp rfl) rfl rfl ?_ | refine TL_nil ?_ | refine T_seq ?_ | refine T_region ?_ | refine qcT rfl ?_ | refine qcF rfl ?_ | refine T_skip ?_
    | refine T_exit ?_ | refine T_ret ?_ | refine T_block ?_ | refine E_then ?_ | refine E_thenX ?_ | refine E_thenR ?_ | refine E_blockN ?_
    | refine E_blockR ?_ | refine E_blockX ?_ | refine E_blockO rfl ?_ | refine qv rfl (rr_loadB (i := 3) TyC.ty rfl rfl rfl) rfl rfl ?_
    | refine qv rfl (qlen Und.eq rfl) rfl rfl ?_ | refine qv rfl (rr_lss rfl rfl (qT (by omega))) rfl rfl ?_
    | refine qv rfl (rr_lss rfl rfl (qF (by omega))) rfl rfl ?_ | refine qv rfl (rr_add64 rfl rfl (by omega) (by omega) rfl) rfl rfl ?_)
  refine TL_call (he1 EntersC.en rfl rfl) (fun w hm => bytes_calls X w (hTB _ w hm)) rfl rfl rfl ?_
  intro _ _
  conv => arg 8; simp only [zA, zB, zC, zD, zE, zF, zG, zH, zI, rowS, ret, id_eq]
  refine TL_bytes Und.eq Und.eq Und.eq rfl rfl fun g12 cap hcap => ?_
  conv => arg 8; simp only [zA, zB, zC, zD, zE, zF, zG, zH, zI, rowS, ret, id_eq]
  repeat (first
    | refine qv rfl (qp rfl) rfl rfl ?_ | refine TL_nil ?_ | refine T_seq ?_ | refine T_region ?_ | refine qcT rfl ?_ | refine qcF rfl ?_ | refine T_skip ?_
    | refine T_exit ?_ | refine T_ret ?_ | refine T_block ?_ | refine E_then ?_ | refine E_thenX ?_ | refine E_thenR ?_ | refine E_blockN ?_
    | refine E_blockR ?_ | refine E_blockX ?_ | refine E_blockO rfl ?_ | refine qv rfl (rr_strlen Und.eq rfl) rfl rfl ?_
    | refine qv rfl (qlen Und.eq rfl) rfl rfl ?_ | refine qv rfl (rr_lss rfl rfl (qT (by omega))) rfl rfl ?_
    | refine qv rfl (rr_lss rfl rfl (qF (by omega))) rfl rfl ?_ | refine qv rfl (rr_add64 rfl rfl (by omega) (by omega) rfl) rfl rfl ?_)
  refine T_pick [0, 1, 2, 4, 5, 6, 7] (by decide) rfl ?_
  refine T_loop (ι := Nat × EIx) (fun (j, c, m, n) => j ≤ (bytesL X).length ∧ EachJ s r X j c ∧ MOk s N m n) (fun (j, _) => [(0, .pointer (some ⟨gs, 0, none⟩)), (5, .pointer (some ⟨g5, 0, none⟩)), (6, .pointer (some ⟨g6, 0, none⟩)), (7, .pointer (some ⟨g7, 0, none⟩)), (12, .slice (some ⟨g12, 0, none⟩) (strL X).length cap), (13, .int .i64 ((bytesL X).length : Int)), (14, .int .i64 (j : Int))])
    (fun (_, c, m, n) => [spO gs s gm, mO gm (m, n), frozO F w1, blkO g5 (numC r k vk v).toArray 73, blkO g6 (clsL C4.zero).toArray 27, blkO g7 (clsL c).toArray 27, wrO g12 ((strL X).map u8v)]) (fun (j, _) => (bytesL X).length - j) (0, C4.zero, m, n) ⟨Nat.zero_le _, each_0 s r X, hmk⟩ ⟨rfl, rfl, rfl, rfl, rfl, by show _ = some (Value.int .i64 _); rw [← strL_len]; rfl, rfl, trivial⟩ rfl ?_
  clear hmk m n
  rintro ⟨j, c, m, n⟩ ⟨hj, hc, hmk⟩
  dsimp only at hj hc hmk ⊢
  by_cases c1 : j < (bytesL X).length
  · have hb := mem_bytes.1 (List.getElem_mem c1)
    have hb256 := hb.1
    have hle := hX _ hb256 hb.2
    have hcell : ((strL X).map u8v)[0 + j]? = some (.int .u8 ((bytesL X)[j] : Int)) := by
      rw [Nat.zero_add]
      have e : (UInt8.ofNat (bytesL X)[j]).toNat = (bytesL X)[j] := by simp; omega
      simp only [strL, List.map_map, List.getElem?_map, List.getElem?_eq_getElem c1, Option.map_some, Function.comp_apply, u8v, e]
    have hnx := fun c' h' => each_next (c' := c') c1 hc h'
    have hjl : j < (strL X).length := by rw [strL_len]; exact c1
    generalize (bytesL X)[j] = b at *
    repeat (first
      | refine qv rfl (qp rfl) rfl rfl ?_ | refine TL_nil ?_ | refine T_seq ?_ | refine T_region ?_ | refine qcT rfl ?_ | refine qcF rfl ?_ | refine T_skip ?_
      | refine T_exit ?_ | refine T_ret ?_ | refine T_block ?_ | refine E_then ?_ | refine E_thenX ?_ | refine E_thenR ?_ | refine E_blockN ?_
      | refine E_blockR ?_ | refine E_blockX ?_ | refine E_blockO rfl ?_ | refine qv rfl (rr_idx1 (j := j) Und.eq TyC.ty rfl rfl hjl) rfl rfl ?_
      | refine qv rfl (rr_load1 TyC.ty rfl (at_wr (i := 6) rfl hcell)) rfl rfl ?_ | refine qv rfl (qlen Und.eq rfl) rfl rfl ?_
      | refine qv rfl (rr_lss rfl rfl (qT (by omega))) rfl rfl ?_ | refine qv rfl (rr_lss rfl rfl (qF (by omega))) rfl rfl ?_
      | refine qv rfl (rr_add64 rfl rfl (by omega) (by omega) rfl) rfl rfl ?_)
    (repeat refine T_seq ?_)
    refine T_ord ([blkO g5 (numC r k vk v).toArray 73]) (.calm 1 (.calm 2 (.calm 3 (.calm 4 (.two 0 (.one 5 (.calm 6 (.one 7 (.done)))) 5 (.one 0 (.calm 6 (.one 7 (.done))))))))) (sub_pick [3] (by decide) rfl) (by kernel_rfl) (by kernel_rfl) (by intro c a d v w h; cases d <;> exact h) ?_
    repeat (first
      | ((first | refine TW_plain rfl rfl ?_ | refine TW_gmet rfl rfl rfl rfl ?_); first | refine TN_val (qp rfl) rfl rfl ?_ | refine TN_val (rr_loadB (i := 0) TyC.ty rfl rfl rfl) rfl rfl ?_ | refine TN_val (rr_conv Und.eq Und.eq rfl (wrap_in (by omega) (by omega))) rfl rfl ?_ | refine TN_val (qlen Und.eq rfl) rfl rfl ?_ | refine TN_val (rr_lss rfl rfl (qT (by omega))) rfl rfl ?_ | refine TN_val (rr_lss rfl rfl (qF (by omega))) rfl rfl ?_ | refine TN_val (rr_add64 rfl rfl (by omega) (by omega) rfl) rfl rfl ?_)
      | refine TW_done ?_)
    refine TW_two rfl rfl ?_ ?_
    · refine TL_val (rr_loadB (i := 5) TyC.ty rfl rfl rfl) rfl rfl rfl (TW_on (sub_pick [3] (by decide) rfl) ?_)
      refine TW_one rfl (TL_callB [0, 1, 2] [3, 4, 5, 6] (by decide) rfl rfl (he3 EntersC.en rfl rfl rfl rfl) (fun w hm hb => hE b m n w _ hle hmk (ho.on hm (by intro o ho; simp at ho ⊢; rcases ho with h | h | h <;> simp [h])) hb) rfl rfl rfl ?_)
      rintro ⟨c', m', n'⟩ ⟨a1, a2⟩
      conv => arg 8; simp only [zA, zB, zC, zD, zE, zF, zG, zH, zI, rowS, ret, id_eq, endSp]
      refine TW_on (sub_pick [0] (by decide) rfl) ?_
      repeat (first
        | ((first | refine TW_plain rfl rfl ?_ | refine TW_gmet rfl rfl rfl rfl ?_); first | refine TN_val (qp rfl) rfl rfl ?_ | refine TN_val (qlen Und.eq rfl) rfl rfl ?_ | refine TN_val (rr_lss rfl rfl (qT (by omega))) rfl rfl ?_ | refine TN_val (rr_lss rfl rfl (qF (by omega))) rfl rfl ?_ | refine TN_val (rr_add64 rfl rfl (by omega) (by omega) rfl) rfl rfl ?_)
        | refine TW_done ?_)
      refine TW_call rfl (he2 EntersC.en rfl rfl rfl) (fun w hm => joinE c c' _) rfl rfl rfl ?_
      refine TW_one rfl (TL_storeB (i := 2) (cs' := (clsL (c.join c')).toArray) rfl rfl rfl rfl rfl rfl (TW_on (sub_pick [0] (by decide) rfl) ?_))
      repeat (first
        | ((first | refine TW_plain rfl rfl ?_ | refine TW_gmet rfl rfl rfl rfl ?_); first | refine TN_val (qp rfl) rfl rfl ?_ | refine TN_val (qlen Und.eq rfl) rfl rfl ?_ | refine TN_val (rr_lss rfl rfl (qT (by omega))) rfl rfl ?_ | refine TN_val (rr_lss rfl rfl (qF (by omega))) rfl rfl ?_ | refine TN_val (rr_add64 rfl rfl (by omega) (by omega) rfl) rfl rfl ?_)
        | refine TW_done ?_)
      repeat (first
        | refine qv rfl (qp rfl) rfl rfl ?_ | refine TL_nil ?_ | refine T_seq ?_ | refine T_region ?_ | refine qcT rfl ?_ | refine qcF rfl ?_ | refine T_skip ?_
        | refine T_exit ?_ | refine T_ret ?_ | refine T_block ?_ | refine E_then ?_ | refine E_thenX ?_ | refine E_thenR ?_ | refine E_blockN ?_
        | refine E_blockR ?_ | refine E_blockX ?_ | refine E_blockO rfl ?_ | refine qv rfl (qlen Und.eq rfl) rfl rfl ?_
        | refine qv rfl (rr_lss rfl rfl (qT (by omega))) rfl rfl ?_ | refine qv rfl (rr_lss rfl rfl (qF (by omega))) rfl rfl ?_
        | refine qv rfl (rr_add64 rfl rfl (by omega) (by omega) rfl) rfl rfl ?_)
      refine E_pick [4, 5, 6, 0, 1, 2, 3] (by decide) rfl ?_
      exact E_round (j + 1, c.join c', m', n') ⟨by show j + 1 ≤ (bytesL X).length; omega, hnx c' a1, a2⟩ (by show (bytesL X).length - (j + 1) < (bytesL X).length - j; omega) ⟨rfl, rfl, rfl, rfl, rfl, rfl, rfl, trivial⟩ rfl
    · refine TL_callB [0, 1, 2] [3, 4, 5, 6] (by decide) rfl rfl (he3 EntersC.en rfl rfl rfl rfl) (fun w hm hb => hE b m n w _ hle hmk (ho.on hm (by intro o ho; simp at ho ⊢; rcases ho with h | h | h <;> simp [h])) hb) rfl rfl rfl ?_
      rintro ⟨c', m', n'⟩ ⟨a1, a2⟩
      conv => arg 8; simp only [zA, zB, zC, zD, zE, zF, zG, zH, zI, rowS, ret, id_eq, endSp]
      refine TW_on (sub_pick [0] (by decide) rfl) ?_
      refine TW_one rfl (TL_val (rr_loadB (i := 2) TyC.ty rfl rfl rfl) rfl rfl rfl (TW_on (sub_pick [0] (by decide) rfl) ?_))
      repeat (first
        | ((first | refine TW_plain rfl rfl ?_ | refine TW_gmet rfl rfl rfl rfl ?_); first | refine TN_val (qp rfl) rfl rfl ?_ | refine TN_val (qlen Und.eq rfl) rfl rfl ?_ | refine TN_val (rr_lss rfl rfl (qT (by omega))) rfl rfl ?_ | refine TN_val (rr_lss rfl rfl (qF (by omega))) rfl rfl ?_ | refine TN_val (rr_add64 rfl rfl (by omega) (by omega) rfl) rfl rfl ?_)
        | refine TW_done ?_)
      refine TW_call rfl (he2 EntersC.en rfl rfl rfl) (fun w hm => joinE c c' _) rfl rfl rfl ?_
      refine TW_one rfl (TL_storeB (i := 2) (cs' := (clsL (c.join c')).toArray) rfl rfl rfl rfl rfl rfl (TW_on (sub_pick [0] (by decide) rfl) ?_))
      repeat (first
        | ((first | refine TW_plain rfl rfl ?_ | refine TW_gmet rfl rfl rfl rfl ?_); first | refine TN_val (qp rfl) rfl rfl ?_ | refine TN_val (qlen Und.eq rfl) rfl rfl ?_ | refine TN_val (rr_lss rfl rfl (qT (by omega))) rfl rfl ?_ | refine TN_val (rr_lss rfl rfl (qF (by omega))) rfl rfl ?_ | refine TN_val (rr_add64 rfl rfl (by omega) (by omega) rfl) rfl rfl ?_)
        | refine TW_done ?_)
      repeat (first
        | refine qv rfl (qp rfl) rfl rfl ?_ | refine TL_nil ?_ | refine T_seq ?_ | refine T_region ?_ | refine qcT rfl ?_ | refine qcF rfl ?_ | refine T_skip ?_
        | refine T_exit ?_ | refine T_ret ?_ | refine T_block ?_ | refine E_then ?_ | refine E_thenX ?_ | refine E_thenR ?_ | refine E_blockN ?_
        | refine E_blockR ?_ | refine E_blockX ?_ | refine E_blockO rfl ?_ | refine qv rfl (qlen Und.eq rfl) rfl rfl ?_
        | refine qv rfl (rr_lss rfl rfl (qT (by omega))) rfl rfl ?_ | refine qv rfl (rr_lss rfl rfl (qF (by omega))) rfl rfl ?_
        | refine qv rfl (rr_add64 rfl rfl (by omega) (by omega) rfl) rfl rfl ?_)
      refine E_pick [4, 5, 6, 0, 1, 2, 3] (by decide) rfl ?_
      exact E_round (j + 1, c.join c', m', n') ⟨by show j + 1 ≤ (bytesL X).length; omega, hnx c' a1, a2⟩ (by show (bytesL X).length - (j + 1) < (bytesL X).length - j; omega) ⟨rfl, rfl, rfl, rfl, rfl, rfl, rfl, trivial⟩ rfl
  · obtain rfl : j = (bytesL X).length := by omega
    repeat (first
      | refine qv rfl (qp rfl) rfl rfl ?_ | refine TL_nil ?_ | refine T_seq ?_ | refine T_region ?_ | refine qcT rfl ?_ | refine qcF rfl ?_ | refine T_skip ?_
      | refine T_exit ?_ | refine T_ret ?_ | refine T_block ?_ | refine E_then ?_ | refine E_thenX ?_ | refine E_thenR ?_ | refine E_blockN ?_
      | refine E_blockR ?_ | refine E_blockX ?_ | refine E_blockO rfl ?_ | refine qv rfl (rr_loadB (i := 5) TyC.ty rfl rfl rfl) rfl rfl ?_
      | refine qv rfl (qlen Und.eq rfl) rfl rfl ?_ | refine qv rfl (rr_lss rfl rfl (qT (by omega))) rfl rfl ?_
      | refine qv rfl (rr_lss rfl rfl (qF (by omega))) rfl rfl ?_ | refine qv rfl (rr_add64 rfl rfl (by omega) (by omega) rfl) rfl rfl ?_)
    refine TL_storeB (i := 4) (cs' := (clsL c).toArray) rfl rfl rfl rfl rfl rfl ?_
    conv => arg 8; simp only [zA, zB, zC, zD, zE, zF, zG, zH, zI, rowS, ret, id_eq]
    repeat (first
      | refine qv rfl (qp rfl) rfl rfl ?_ | refine TL_nil ?_ | refine T_seq ?_ | refine T_region ?_ | refine qcT rfl ?_ | refine qcF rfl ?_ | refine T_skip ?_
      | refine T_exit ?_ | refine T_ret ?_ | refine T_block ?_ | refine E_then ?_ | refine E_thenX ?_ | refine E_thenR ?_ | refine E_blockN ?_
      | refine E_blockR ?_ | refine E_blockX ?_ | refine E_blockO rfl ?_ | refine qv rfl (qlen Und.eq rfl) rfl rfl ?_
      | refine qv rfl (rr_lss rfl rfl (qT (by omega))) rfl rfl ?_ | refine qv rfl (rr_lss rfl rfl (qF (by omega))) rfl rfl ?_
      | refine qv rfl (rr_add64 rfl rfl (by omega) (by omega) rfl) rfl rfl ?_)
    refine E_retc1 (i := 4) rfl rfl rfl rfl fun w hm => ?_
    exact hm.meetsB (S := eachSp s N gs gm F w1 r X) (c, m, n) ⟨each_all hc, hmk⟩ [0, 1, 2] (by decide) rfl
end Go.Proofs.YtbiacehgfmgfdaaDoor.eng

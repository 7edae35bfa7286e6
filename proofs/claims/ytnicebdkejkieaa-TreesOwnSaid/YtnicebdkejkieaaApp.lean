/- Appending to a slice that is full: new memory, whatever holds the old; 's[:j:j]'. -/
import Derived.Test.YtnicebdkejkieaaMgB
namespace Go.Proofs.Ytnicebdkejkieaa.eng
open Go.RowKit kit mix
section
variable {P : Program} {n : Nat} {W : Base} {fr : Fr} {L : List Own} {Q : Exit → Act → World → Prop} {ops : Array Oper} {rest : List Oper} {d : Nat} {dst : Option Tmp} {ty : TypeId} {pos : String} {after : Array Edge} {guard : Option (Nat × Bool)}
theorem rr_sl3 {t e : TypeId} {x z z' : Operand} {agg : Bool} {c j len cap b off : Nat} {k k' : IntKind} (ht : P.underlying t = some (.slice e)) (he : Ty P e agg c) (hx : ev fr x = some (.slice (some ⟨b, off, none⟩) len cap)) (hz : ev fr z = some (.int k (j : Int))) (hz' : ev fr z' = some (.int k' (j : Int))) (h2 : j ≤ cap) :
    RR P n W ⟨dst, .slice t x none (some z) (some z'), ty, pos, after, guard⟩ fr L (.slice (some ⟨b, off, none⟩) j j) := .mk fun a w hr _ => by
  have hb : ∀ (k : IntKind) (p q : Nat) (cd : BoundsCode), p ≤ q → (Instr.sliceBound (.int k (p : Int)) q cd).run P w = .ok p w := fun k p q cd h => by
    have : (0 : Int) ≤ (p : Int) ∧ (p : Int) ≤ (q : Int) := by omega
    simp [Instr.sliceBound, asIntOf, this]
  have e1 : ((⟨b, off, none⟩ : Addr).add 0) = ⟨b, off, none⟩ := by rw [addr_add]; rfl
  simp [execOp, hr.ev hx, hr.ev hz, hr.ev hz', Instr.sliceAt, Instr.slice, run_underlying ht, Instr.sliceBounds, he.size, hb k' j cap _ h2, hb k j j _ (Nat.le_refl _), e1]
theorem rr_sl3n {t e : TypeId} {x z z' : Operand} {agg : Bool} {c : Nat} {k k' : IntKind} (ht : P.underlying t = some (.slice e)) (he : Ty P e agg c) (hx : ev fr x = some (.slice none 0 0)) (hz : ev fr z = some (.int k 0)) (hz' : ev fr z' = some (.int k' 0)) :
    RR P n W ⟨dst, .slice t x none (some z) (some z'), ty, pos, after, guard⟩ fr L (.slice none 0 0) := .mk fun a w hr _ => by
  have hb : ∀ (k : IntKind) (cd : BoundsCode), (Instr.sliceBound (.int k 0) 0 cd).run P w = .ok 0 w := fun k cd => by
    simp [Instr.sliceBound, asIntOf]
  simp [execOp, hr.ev hx, hr.ev hz, hr.ev hz', Instr.sliceAt, Instr.slice, run_underlying ht, Instr.sliceBounds, he.size, hb]
theorem TL_appFull {t e : TypeId} {s x : Operand} {q g b off size bytes m : Nat} {olds : List Value} {cs : Array Value} {T : TypeId} [hel : ElC P t e size bytes] (hs : ev fr s = some (.slice (some ⟨b, off, none⟩) m m)) (hold : ∀ j v, olds[j]? = some v → At W L ⟨b, off + j, none⟩ v) (hol : olds.length = m * size) (hq : L[q]? = some (blkO g cs T)) (hx : ev fr x = some (.slice (some ⟨g, 0, none⟩) 1 1))
    (hl : cs.size = size) (h63 : m + 1 ≤ 140737488355328) (hb : (m + 1) * bytes ≤ 140737488355328) (hn : Nat.blt d n = true)
    (h : ∀ v', TL P n W ops Q rest ((d, v') :: fr) (L ++ [rowO e size v' (m + 1) (olds ++ cs.toList)])) :
    TL P n W ops Q (⟨some d, .call { callee := .builtin .append, args := #[s, x], argTypes := #[t, t] }, ty, pos, after, none⟩ :: rest) fr L := TL_any rfl fun act w hr hm K hK => by
  obtain ⟨inf, z, ht, hinf, hz, hsize, hby, hzs, hsz⟩ := hel.el.ex
  subst hsize hby
  have hrun := run_append_grow (P := P) w t ty e inf z ht hinf hz ⟨b, off, none⟩ m m olds hol (fun j v hj => by rw [addr_add]; exact hold j v hj w hm) ⟨g, 0, none⟩ 1 1 cs.toList (by simpa using hl) (fun j v hj => by rw [addr_add, Nat.zero_add]; exact at_blk hq (by simpa using hj) w hm) (by omega) (by omega) (growslice_fits (by omega) hb)
  have e' : (execOp act.eval ⟨some d, .call { callee := .builtin .append, args := #[s, x], argTypes := #[t, t] }, ty, pos, after, none⟩).run P w = .ok (.value (.slice (some ⟨w.heap.size, 0, none⟩) (m + 1) (grownCap w (m + 1) m e))) (w.drew.alloc (.cells (olds.toArray ++ cs.toList.toArray ++ Builtin.zeroCells z.cells (grownCap w (m + 1) m e - (m + 1))) e)) := by
    simp only [BigFrame.execOp_builtin, BigFrame.builtin_append, List.map_toArray, List.map_cons, List.map_nil, hr.ev hs, hr.ev hx, Sem.run_bind, hrun, Result.andThen_ok, Sem.run_pure]
  unfold Oper.wp; rw [e']
  have hge := grownCap_ge w (m + 1) m e
  have hcm : grownCap w (m + 1) m e ≤ maxLen := grownCap_le_maxLen w (m + 1) m e (by unfold maxLen; omega)
  have hlen : (olds ++ cs.toList).length = (m + 1) * inf.size := by rw [List.length_append, hol, Array.length_toList, hl, Nat.succ_mul]
  refine hK _ _ ((h _).go _ _ (hr.put hn _) (hm.append ((Below.refl _ _).drew.alloc (Nat.le_refl _) _) (Owns.one ?_ ?_)))
  · refine (⟨hlen, .inr ⟨w.heap.size, _, _, rfl, Nat.zero_le _, heap_alloc_new w.drew _, hge, hcm, ?_, ?_⟩⟩ : World.ownsRow _ 0 e inf.size _ (m + 1) (olds ++ cs.toList))
    · simp only [Array.size_append, List.size_toArray, size_zeroCells, hzs, hol, Array.length_toList, hl]
      have : grownCap w (m + 1) m e = m + 1 + (grownCap w (m + 1) m e - (m + 1)) := by omega
      conv => rhs; rw [this, Nat.add_mul, Nat.add_mul, Nat.one_mul]
    · simp only [Array.toList_append]
      rw [← hlen]
      exact List.take_left
  · intro k hk
    have hk : Value.ownBlock (.slice (some ⟨w.heap.size, 0, none⟩) (m + 1) (grownCap w (m + 1) m e)) = some k := hk
    simp only [Value.ownBlock, Option.some.injEq] at hk
    omega
/-! ### a slice that may be nil -/
def gA (G : Option Nat) : Option Addr := G.map fun g => ⟨g, 0, none⟩
theorem row_form {w : World} {e : TypeId} {size m : Nat} {v : Value} {xs : List Value} (h : (rowO e size v m xs).holds w) : ∃ G cap, v = .slice (gA G) m cap ∧ m ≤ cap ∧ cap ≤ maxLen ∧ (G = none → cap = 0) := by
  have h : w.ownsRow 0 e size v m xs := h
  rcases h.2 with ⟨hv, h0⟩ | ⟨g, cap, cur, hv, _, _, h1, h2, _⟩
  · exact ⟨none, 0, by rw [hv, h0]; rfl, by omega, by decide, fun _ => rfl⟩
  · exact ⟨some g, cap, hv, h1, h2, fun h => by cases h⟩
theorem T_rowG {c : Code} {i size m : Nat} {e : TypeId} {v : Value} {xs : List Value} (hi : L[i]? = some (rowO e size v m xs)) (h : ∀ G cap, v = .slice (gA G) m cap → m ≤ cap → cap ≤ 9223372036854775807 → (G = none → cap = 0) → T P n W c Q fr L) : T P n W c Q fr L := .mk fun a w hr hm => by
  obtain ⟨G, cap, h1, h2, h3, h4⟩ := row_form (hm.get hi)
  exact (h G cap h1 h2 h3 h4).go a w hr hm
theorem rr_sl3a {t e : TypeId} {x z z' : Operand} {agg : Bool} {c j len cap : Nat} {G : Option Nat} {k k' : IntKind} (ht : P.underlying t = some (.slice e)) (he : Ty P e agg c) (hx : ev fr x = some (.slice (gA G) len cap)) (hz : ev fr z = some (.int k (j : Int))) (hz' : ev fr z' = some (.int k' (j : Int))) (h1 : len ≤ cap) (h2 : j ≤ cap) (hG : G = none → cap = 0) :
    RR P n W ⟨dst, .slice t x none (some z) (some z'), ty, pos, after, guard⟩ fr L (.slice (gA G) j j) := by
  cases G with
  | some g => exact rr_sl3 ht he hx hz hz' h2
  | none =>
    have := hG rfl
    obtain rfl : cap = 0 := this
    obtain rfl : len = 0 := by omega
    obtain rfl : j = 0 := by omega
    exact rr_sl3n ht he hx hz hz'
theorem TL_appAny {t e : TypeId} {s x : Operand} {q g size bytes m : Nat} {G : Option Nat} {olds : List Value} {cs : Array Value} {T : TypeId} [hel : ElC P t e size bytes] (hs : ev fr s = some (.slice (gA G) m m)) (hG : G = none → m = 0) (hold : ∀ b, G = some b → ∀ j v, olds[j]? = some v → At W L ⟨b, 0 + j, none⟩ v) (hol : olds.length = m * size) (hq : L[q]? = some (blkO g cs T)) (hx : ev fr x = some (.slice (some ⟨g, 0, none⟩) 1 1))
    (hl : cs.size = size) (h1 : cs.toList.all Value.oneCell' = true) (h63 : m + 1 ≤ 140737488355328) (hb : (m + 1) * bytes ≤ 140737488355328) (hn : Nat.blt d n = true)
    (h : ∀ v', TL P n W ops Q rest ((d, v') :: fr) (L ++ [rowO e size v' (m + 1) (olds ++ cs.toList)])) :
    TL P n W ops Q (⟨some d, .call { callee := .builtin .append, args := #[s, x], argTypes := #[t, t] }, ty, pos, after, none⟩ :: rest) fr L := by
  cases G with
  | some b => exact TL_appFull hs (hold b rfl) hol hq hx hl h63 hb hn h
  | none =>
    have hm := hG rfl
    subst hm
    have : olds = [] := List.eq_nil_of_length_eq_zero (by rw [hol, Nat.zero_mul])
    subst this
    refine TL_extra (rowO e size (.slice none 0 0) 0 []) (fun k hk => hk.elim (fun h => by cases h) id) (fun w => ⟨by simp, .inl ⟨rfl, rfl⟩⟩) ?_
    have hi : (L ++ [rowO e size (.slice none 0 0) 0 []])[L.length]? = some (rowO e size (.slice none 0 0) 0 []) := by simp
    have hq' : (L ++ [rowO e size (.slice none 0 0) 0 []])[q]? = some (blkO g cs T) := by
      rw [List.getElem?_append_left (List.getElem?_eq_some_iff.1 hq).1]; exact hq
    refine TL_append (k := 1) (c := 1) (ys := cs.toList) hel.el hi hs hx (fun j v hj => by
      rw [addr_add, Nat.zero_add]
      exact at_blk hq' (by simpa using hj)) (by simp [hl]) (List.all_eq_true.1 h1) (by omega) (by simpa using hb) hn fun v' => ?_
    have := h v'
    simpa using this
theorem rr_slfromE {t e : TypeId} {x z : Operand} {agg : Bool} {c i len cap : Nat} {base : Option Addr} {k : IntKind} {v : Value} (ht : P.underlying t = some (.slice e)) (he : Ty P e agg c) (hx : ev fr x = some (.slice base len cap)) (hz : ev fr z = some (.int k (i : Int))) (h1 : i ≤ len) (h2 : len ≤ cap) (hv : subV base cap c i len = v) :
    RR P n W ⟨dst, .slice t x (some z) none none, ty, pos, after, guard⟩ fr L v := hv ▸ rr_slfrom ht he hx hz h1 h2
theorem TL_rowN {i size m : Nat} {e : TypeId} {v : Value} {xs : List Value} (hi : L[i]? = some (rowO e size v m xs)) (h0 : 0 < m) (h : ∀ g cap, v = .slice (some ⟨g, 0, none⟩) m cap → m ≤ cap → cap ≤ 9223372036854775807 → TL P n W ops Q rest fr L) : TL P n W ops Q rest fr L := .mk fun a w hr hm => by
  obtain ⟨G, cap, h1, h2, h3, h4⟩ := row_form (hm.get hi)
  cases G with
  | none => have := h4 rfl; omega
  | some g => exact (h g cap h1 h2 h3).go a w hr hm
theorem T_rowN {c : Code} {i size m : Nat} {e : TypeId} {v : Value} {xs : List Value} (hi : L[i]? = some (rowO e size v m xs)) (h0 : 0 < m) (h : ∀ g cap, v = .slice (some ⟨g, 0, none⟩) m cap → m ≤ cap → cap ≤ 9223372036854775807 → T P n W c Q fr L) : T P n W c Q fr L := by
  refine T_rowG hi fun G cap hv h1 h2 h3 => ?_
  cases G with
  | none => have := h3 rfl; omega
  | some g => exact h g cap hv h1 h2
end
end Go.Proofs.Ytnicebdkejkieaa.eng

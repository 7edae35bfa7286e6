/- Slices with room behind them: made, appended to in place, read behind their end, written over whole. -/
import Derived.Test.YtnicebdkejkieaaSeq
import Derived.Test.YtnicebdkejkieaaMixW
import Derived.Laws.MakeOwn
import Derived.Laws.AppendOwn
namespace Go.Proofs.Ytnicebdkejkieaa.eng
open Go.RowKit kit mix
section
variable {P : Program} {n : Nat} {W : Base} {fr : Fr} {L : List Own} {Q : Exit → Act → World → Prop} {ops : Array Oper} {rest : List Oper} {d : Nat} {dst : Option Tmp} {ty : TypeId} {pos : String} {after : Array Edge} {guard : Option (Nat × Bool)}
theorem rr_cap {t e : TypeId} {x : Operand} {p : Option Addr} {m cap : Nat} (ht : P.underlying t = some (.slice e)) (hx : ev fr x = some (.slice p m cap)) : RR P n W ⟨dst, .call { callee := .builtin .cap, args := #[x], argTypes := #[t] }, ty, pos, after, guard⟩ fr L (.int .i64 cap) := .mk fun a w hr _ => by
  have hx' := hr.ev hx
  simp [BigFrame.execOp_builtin, BigFrame.builtin_cap, Builtin.cap_, hx', run_underlying ht, goInt]
/-- 'make([]T, m, cap)': a block that is known whole -/
theorem TL_makeB {t e : TypeId} {x y : Operand} {c bytes m cap : Nat} {k k' : IntKind} {zs : Array Value} [hel : ElC P t e c bytes] [hz0 : ZeroC P e zs] (hx : ev fr x = some (.int k (m : Int))) (hy : ev fr y = some (.int k' (cap : Int))) (hmc : m ≤ cap) (hb : bytes * cap ≤ 281474976710656) (h63 : cap ≤ 9223372036854775807) (hn : Nat.blt d n = true)
    (h : ∀ g, TL P n W ops Q rest ((d, .slice (some ⟨g, 0, none⟩) m cap) :: fr) (L ++ [blkO g (madeCells zs (cap * c)) e])) : TL P n W ops Q (⟨some d, .makeSlice t x y, ty, pos, after, none⟩ :: rest) fr L := TL_any rfl fun a w hr hm K hK => by
  obtain ⟨i, z, ht, hi, hz, hc, hby, hzc, h0⟩ := hel.el.ex
  obtain ⟨i2, z2, hi2, hz2, hz3⟩ := ZeroC.ex (P := P) (t := e)
  rw [hi] at hi2
  obtain rfl : i = i2 := Option.some.inj hi2
  rw [hz] at hz2
  obtain rfl : z = z2 := Option.some.inj hz2
  have hb2 : (i.bytes : Int) * (cap : Int) ≤ 281474976710656 := by
    rw [hby, ← Int.natCast_mul]; omega
  have hrun := run_make (P := P) w t e i z ht hi hz k k' (m : Int) (cap : Int) (by omega) (by omega) hb2 (by omega)
  rw [Int.toNat_natCast, Int.toNat_natCast, hc, hz3] at hrun
  have e' : (execOp a.eval ⟨some d, .makeSlice t x y, ty, pos, after, none⟩).run P w = .ok (.value (.slice (some ⟨w.heap.size, 0, none⟩) m cap)) (w.alloc (.cells (madeCells zs (cap * c)) e)) := by
    simp only [execOp, hr.ev hx, hr.ev hy, Sem.run_bind, hrun, Result.andThen_ok, Sem.run_pure]
  unfold Oper.wp; rw [e']
  exact hK _ _ ((h w.heap.size).go _ _ (hr.put hn _) (hm.append (gr_alloc w _) (Owns.one (heap_alloc_new w _) fun k hk => by simp only [blkO, Option.some.injEq] at hk; omega)))
/-- the same, as an own slice of zeros -/
theorem Mem.toRowN {w : World} {i g m cap size : Nat} {cs : Array Value} {e : TypeId} (h : Mem W L w) (hi : L[i]? = some (blkO g cs e)) (hc : cs.size = cap * size) (hmc : m ≤ cap) (hcap : cap ≤ 9223372036854775807) : Mem W (L.set i (rowO e size (.slice (some ⟨g, 0, none⟩) m cap) m (cs.toList.take (m * size)))) w :=
  h.turn hi ⟨rfl, rfl, rfl, Nat.le_refl _, fun _ _ _ => rfl⟩ ⟨by rw [List.length_take, Array.length_toList, hc, Nat.min_eq_left (Nat.mul_le_mul_right _ hmc)], .inr ⟨g, cap, cs, rfl, Nat.zero_le _, h.get hi, hmc, by unfold maxLen; omega, hc, rfl⟩⟩ fun k hk => .inl hk
theorem TL_toRowN {i g m cap : Nat} {cs : Array Value} {e : TypeId} (size : Nat) (hi : L[i]? = some (blkO g cs e)) (hc : cs.size = cap * size) (hmc : m ≤ cap) (hcap : cap ≤ 9223372036854775807) (h : TL P n W ops Q rest fr (L.set i (rowO e size (.slice (some ⟨g, 0, none⟩) m cap) m (cs.toList.take (m * size))))) : TL P n W ops Q rest fr L :=
  ⟨fun a w hr hmm => h.go a w hr (hmm.toRowN hi hc hmc hcap)⟩
theorem T_toRowN {c : Code} {i g m cap : Nat} {cs : Array Value} {e : TypeId} (size : Nat) (hi : L[i]? = some (blkO g cs e)) (hc : cs.size = cap * size) (hmc : m ≤ cap) (hcap : cap ≤ 9223372036854775807) (h : T P n W c Q fr (L.set i (rowO e size (.slice (some ⟨g, 0, none⟩) m cap) m (cs.toList.take (m * size))))) : T P n W c Q fr L :=
  ⟨fun a w hr hmm => h.go a w hr (hmm.toRowN hi hc hmc hcap)⟩
/-- an own slice's block, seen whole -/
theorem Mem.openRow {w : World} {i m size : Nat} {v : Value} {xs : List Value} {e : TypeId} (h : Mem W L w) (hi : L[i]? = some (rowO e size v m xs)) : (v = .slice none 0 0 ∧ m = 0) ∨ ∃ g cap cs, v = .slice (some ⟨g, 0, none⟩) m cap ∧ m ≤ cap ∧ cap ≤ 9223372036854775807 ∧ cs.size = cap * size ∧ cs.toList.take (m * size) = xs ∧ Mem W (L.set i (blkO g cs e)) w := by
  have h1 : w.ownsRow 0 e size v m xs := h.get hi
  rcases h1.2 with ⟨hv, h0⟩ | ⟨g, cap, cs, hv, hb, hg, hmc, hcm, hcs, htk⟩
  · exact .inl ⟨hv, h0⟩
  · refine .inr ⟨g, cap, cs, hv, hmc, by unfold maxLen at hcm; omega, hcs, htk, ?_⟩
    refine h.turn hi ⟨rfl, rfl, rfl, Nat.le_refl _, fun _ _ _ => rfl⟩ hg fun k hk => .inl ?_
    simp only [blkO, Option.some.injEq] at hk
    subst hk
    show v.ownBlock = some g
    rw [hv]; rfl
theorem TL_openRow {i m size : Nat} {v : Value} {xs : List Value} {e : TypeId} (hi : L[i]? = some (rowO e size v m xs)) (h0 : v = .slice none 0 0 → m = 0 → TL P n W ops Q rest fr L)
    (h : ∀ g cap cs, v = .slice (some ⟨g, 0, none⟩) m cap → m ≤ cap → cap ≤ 9223372036854775807 → cs.size = cap * size → cs.toList.take (m * size) = xs → TL P n W ops Q rest fr (L.set i (blkO g cs e))) : TL P n W ops Q rest fr L := ⟨fun a w hr hm => by
  rcases hm.openRow hi with ⟨a1, a2⟩ | ⟨g, cap, cs, a1, a2, a3, a4, a5, a6⟩
  · exact (h0 a1 a2).go a w hr hm
  · exact (h g cap cs a1 a2 a3 a4 a5).go a w hr a6⟩
theorem T_openRow {c : Code} {i m size : Nat} {v : Value} {xs : List Value} {e : TypeId} (hi : L[i]? = some (rowO e size v m xs)) (h0 : v = .slice none 0 0 → m = 0 → T P n W c Q fr L)
    (h : ∀ g cap cs, v = .slice (some ⟨g, 0, none⟩) m cap → m ≤ cap → cap ≤ 9223372036854775807 → cs.size = cap * size → cs.toList.take (m * size) = xs → T P n W c Q fr (L.set i (blkO g cs e))) : T P n W c Q fr L := ⟨fun a w hr hm => by
  rcases hm.openRow hi with ⟨a1, a2⟩ | ⟨g, cap, cs, a1, a2, a3, a4, a5, a6⟩
  · exact (h0 a1 a2).go a w hr hm
  · exact (h g cap cs a1 a2 a3 a4 a5).go a w hr a6⟩
/-- 'append(s, x...)' where there is room: into the block -/
theorem TL_appB {t e : TypeId} {s x : Operand} {i g size bytes m k c cap : Nat} {cs cs' : Array Value} {ys : List Value} {a : Addr} [hel : ElC P t e size bytes] (hi : L[i]? = some (blkO g cs e)) (hs : ev fr s = some (.slice (some ⟨g, 0, none⟩) m cap)) (hx : ev fr x = some (.slice (some a) k c))
    (hy : ∀ w, Mem W L w → ∀ j u, ys[j]? = some u → w.cell? (a.add j) = some u) (hl : ys.length = k * size) (h1 : ∀ u ∈ ys, u.oneCell' = true) (hroom : m + k ≤ cap) (hfit : m * size + ys.length ≤ cs.size) (hcs : cs' = (cs.toList.take (m * size) ++ ys ++ cs.toList.drop (m * size + ys.length)).toArray) (hn : Nat.blt d n = true)
    (h : TL P n W ops Q rest ((d, .slice (some ⟨g, 0, none⟩) (m + k) cap) :: fr) (L.set i (blkO g cs' e))) :
    TL P n W ops Q (⟨some d, .call { callee := .builtin .append, args := #[s, x], argTypes := #[t, t] }, ty, pos, after, none⟩ :: rest) fr L := TL_any rfl fun act w hr hm K hK => by
  obtain ⟨inf, z, ht, hinf, hz, hsize, hby, hzs, hsz⟩ := hel.el.ex
  subst hsize
  have hg : w.heap[g]? = some (.cells cs e (0, 0)) := hm.get hi
  have hrun := run_append_room (P := P) w t ty e inf ht hinf g m cap cs hg a k c ys hl (hy w hm) h1 hroom hfit
  rw [← hcs] at hrun
  have e' : (execOp act.eval ⟨some d, .call { callee := .builtin .append, args := #[s, x], argTypes := #[t, t] }, ty, pos, after, none⟩).run P w = .ok (.value (.slice (some ⟨g, 0, none⟩) (m + k) cap)) (w.setRow g cs') := by
    simp only [BigFrame.execOp_builtin, BigFrame.builtin_append, List.map_toArray, List.map_cons, List.map_nil, hr.ev hs, hr.ev hx, Sem.run_bind, hrun, Result.andThen_ok, Sem.run_pure]
  unfold Oper.wp; rw [e']
  exact hK _ _ (h.go _ _ (hr.put hn _) (hm.turn hi ⟨rfl, rfl, rfl, by simp, fun k _ hk => setRow_other w g k _ (fun e => hk (by subst e; rfl))⟩ (setRow_heap w g cs _ e _ hg) fun k hk => .inl hk))
/-- the same of nothing (nil) -/
theorem TL_appB0 {t e : TypeId} {s x : Operand} {i g size bytes m c cap : Nat} {cs : Array Value} [hel : ElC P t e size bytes] (hi : L[i]? = some (blkO g cs e)) (hs : ev fr s = some (.slice (some ⟨g, 0, none⟩) m cap)) (hx : ev fr x = some (.slice none 0 c)) (hm0 : m ≤ cap) (hn : Nat.blt d n = true)
    (h : TL P n W ops Q rest ((d, .slice (some ⟨g, 0, none⟩) m cap) :: fr) L) :
    TL P n W ops Q (⟨some d, .call { callee := .builtin .append, args := #[s, x], argTypes := #[t, t] }, ty, pos, after, none⟩ :: rest) fr L := TL_any rfl fun act w hr hm K hK => by
  obtain ⟨inf, z, ht, hinf, hz, hsize, hby, hzs, hsz⟩ := hel.el.ex
  have e' : (execOp act.eval ⟨some d, .call { callee := .builtin .append, args := #[s, x], argTypes := #[t, t] }, ty, pos, after, none⟩).run P w = .ok (.value (.slice (some ⟨g, 0, none⟩) m cap)) w := by
    simp [BigFrame.execOp_builtin, BigFrame.builtin_append, hr.ev hs, hr.ev hx, Builtin.append_, run_underlying ht, sizeOf, typeInfo, hinf, Builtin.lenOf, Builtin.firstCells, loadCells, loadCellsFrom, hm0, storeCells]
  unfold Oper.wp; rw [e']
  exact hK _ _ (h.go _ _ (hr.put hn _) hm)
/-- whatever slice that can be read -/
theorem TL_appBs {t e : TypeId} {s x : Operand} {i g size bytes m k cap : Nat} {v2 : Value} {cs cs' : Array Value} {ys : List Value} [hel : ElC P t e size bytes] (hi : L[i]? = some (blkO g cs e)) (hs : ev fr s = some (.slice (some ⟨g, 0, none⟩) m cap)) (hx : ev fr x = some v2) (hx2 : SlL W L v2 k ys)
    (hl : ys.length = k * size) (h1 : ∀ u ∈ ys, u.oneCell' = true) (hroom : m + k ≤ cap) (hfit : m * size + ys.length ≤ cs.size) (hcs : cs' = (cs.toList.take (m * size) ++ ys ++ cs.toList.drop (m * size + ys.length)).toArray) (hn : Nat.blt d n = true)
    (h : TL P n W ops Q rest ((d, .slice (some ⟨g, 0, none⟩) (m + k) cap) :: fr) (L.set i (blkO g cs' e))) :
    TL P n W ops Q (⟨some d, .call { callee := .builtin .append, args := #[s, x], argTypes := #[t, t] }, ty, pos, after, none⟩ :: rest) fr L := ⟨fun act w hr hm => by
  obtain ⟨base, c, rfl, hc1, hc2, hrd⟩ := hx2 w hm
  cases base with
  | none =>
    have hk0 : k = 0 := by
      rcases Nat.eq_zero_or_pos k with h | h
      · exact h
      · obtain ⟨b, off, h, _⟩ := hrd h; cases h
    subst hk0
    have hy : ys = [] := List.eq_nil_of_length_eq_zero (by rw [hl]; simp)
    subst hy
    have e0 : cs' = cs := by rw [hcs]; simp
    subst e0
    have hset : L.set i (blkO g cs' e) = L := by
      apply List.ext_getElem?
      intro q
      by_cases hq : i = q
      · subst hq
        rw [List.getElem?_set_self (List.getElem?_eq_some_iff.1 hi).1, hi]
      · rw [List.getElem?_set_ne hq]
    rw [hset] at h
    exact (TL_appB0 hi hs hx (by omega) hn h).go act w hr hm
  | some p =>
    refine (TL_appB (c := c) hi hs hx (fun w' hm' => ?_) hl h1 hroom hfit hcs hn h).go act w hr hm
    intro j u hj
    obtain ⟨base, c', he, _, _, hrd'⟩ := hx2 w' hm'
    simp only [Value.slice.injEq, true_and] at he
    obtain ⟨he, _⟩ := he
    have hk : 0 < k := by
      rcases Nat.eq_zero_or_pos k with h | h
      · subst h
        have := (List.getElem?_eq_some_iff.1 hj).1
        rw [hl] at this; simp at this
      · exact h
    obtain ⟨b, off, hb, hr'⟩ := hrd' hk
    rw [← he] at hb
    simp only [Option.some.injEq] at hb
    subst hb
    rw [addr_add]; exact hr' j u hj⟩
/-- a slice over a block that is known whole -/
theorem sl_blk {i g m cap : Nat} {cs : Array Value} {T : TypeId} {xs : List Value} (hi : L[i]? = some (blkO g cs T)) (hx : ∀ (j : Nat) (u : Value), xs[j]? = some u → cs[j]? = some u) (hmc : m ≤ cap) (hcap : cap ≤ 9223372036854775807) : SlL W L (.slice (some ⟨g, 0, none⟩) m cap) m xs := fun w hm =>
  ⟨_, cap, rfl, hmc, by unfold maxLen; omega, fun _ => ⟨g, 0, rfl, fun j u hj => by
    rw [Nat.zero_add]; exact at_blk hi (hx j u hj) w hm⟩⟩
end
theorem madeC {z : Array Value} {k m : Nat} (h : z.size = k) (h0 : 0 < k) : madeCells z (m * k) = ((List.replicate m z.toList).flatten).toArray := by
  subst h
  apply Array.ext_getElem?
  intro j
  unfold madeCells
  by_cases hj : j < m * z.size
  · have h2 : j / z.size < m := (Nat.div_lt_iff_lt_mul h0).2 hj
    have h3 := Nat.mod_lt j h0
    have key : ∀ (m j : Nat), j < m * z.size → ((List.replicate m z.toList).flatten)[j]? = z.toList[j % z.size]? := by
      intro m
      induction m with
      | zero => intro j hj; simp at hj
      | succ m ih =>
        intro j hj
        rw [List.replicate_succ, List.flatten_cons]
        by_cases hc : j < z.size
        · rw [List.getElem?_append_left (by simpa using hc), Nat.mod_eq_of_lt hc]
        · rw [List.getElem?_append_right (by simp; omega)]
          simp only [Array.length_toList]
          rw [ih (j - z.size) (by rw [Nat.succ_mul] at hj; omega)]
          congr 1
          exact (Nat.mod_eq_sub_mod (by omega)).symm
    simp only [List.getElem?_toArray, key m j hj]
    simp [hj, h3]
  · have : ((List.replicate m z.toList).flatten).length = m * z.size := by simp
    rw [Array.getElem?_eq_none (by simp; omega), List.getElem?_toArray, List.getElem?_eq_none (by omega)]
/-! ### literals of structs -/
theorem foldl_set : ∀ (xs : List Value) (acc : Array Value) (off k : Nat), off + k + xs.length ≤ acc.size → (xs.toArray.zipIdx k).foldl (fun cs (x : Value × Nat) => cs.setIfInBounds (off + x.2) x.1) acc = (acc.toList.take (off + k) ++ xs ++ acc.toList.drop (off + k + xs.length)).toArray
  | [], acc, off, k, _ => by
    have e0 : (([] : List Value).toArray.zipIdx k) = #[] := by apply Array.ext'; simp
    rw [e0]; simp
  | x :: xs, acc, off, k, h => by
    simp only [List.length_cons] at h
    have e : (x :: xs).toArray.zipIdx k = #[(x, k)] ++ xs.toArray.zipIdx (k + 1) := by
      apply Array.ext'
      simp [List.zipIdx_cons]
    rw [e, Array.foldl_append]
    have e2 : (#[(x, k)] : Array (Value × Nat)).foldl (fun cs (x : Value × Nat) => cs.setIfInBounds (off + x.2) x.1) acc = acc.setIfInBounds (off + k) x := by simp
    rw [e2, foldl_set xs _ off (k + 1) (by simp; omega)]
    congr 1
    have hA : (acc.toList.take (off + k)).length = off + k := by simp; omega
    have hA1 : (acc.toList.take (off + k) ++ [x]).length = off + k + 1 := by rw [List.length_append, hA]; rfl
    have e3 : acc.toList.set (off + k) x = (acc.toList.take (off + k) ++ [x]) ++ acc.toList.drop (off + k + 1) := by
      rw [List.set_eq_take_append_cons_drop, if_pos (by simp; omega)]; simp
    simp only [Array.toList_setIfInBounds, List.length_cons]
    rw [e3, show off + (k + 1) = off + k + 1 by omega, List.take_left' hA1, ← List.drop_drop, List.drop_left' hA1, List.drop_drop]
    simp only [List.append_assoc, List.cons_append, List.nil_append]
    rw [show off + k + 1 + xs.length = off + k + (xs.length + 1) by omega]
theorem fillN {c : Nat} (c0 : Nat → Option (Nat × Nat)) (hc0 : ∀ i, c0 i = some (i * c, c)) : ∀ (vs : List Value) (k : Nat) (acc : Array Value), (k + vs.length) * c ≤ acc.size → (∀ v ∈ vs, v.cells.size = c) →
    Instr.fill c0 acc ((vs.zipIdx k).map fun (v, i) => (i, v)) = some (acc.toList.take (k * c) ++ vs.flatMap (fun v => v.cells.toList) ++ acc.toList.drop ((k + vs.length) * c)).toArray
  | [], k, acc, h, _ => by simp [Instr.fill]
  | v :: vs, k, acc, h, h1 => by
    simp only [List.length_cons] at h
    have hv := h1 v (by simp)
    have hsz : k * c + c ≤ acc.size := by
      have : (k + 1) * c ≤ (k + (vs.length + 1)) * c := Nat.mul_le_mul_right _ (by omega)
      rw [Nat.add_mul, Nat.one_mul] at this; omega
    rw [List.zipIdx_cons, List.map_cons]
    simp only [Instr.fill, hc0]
    rw [if_neg (by simp [hv]; omega)]
    have hfold := foldl_set v.cells.toList acc (k * c) 0 (by simp [hv]; exact hsz)
    simp only [Array.toArray_toList, Nat.add_zero, Array.length_toList, hv] at hfold
    rw [hfold, fillN c0 hc0 vs (k + 1) _ (by simp [hv]; rw [Nat.add_mul, Nat.add_mul] at *; omega) (fun u hu => h1 u (by simp [hu]))]
    congr 2
    have hA : (acc.toList.take (k * c)).length = k * c := by simp; omega
    have hA1 : (acc.toList.take (k * c) ++ v.cells.toList).length = (k + 1) * c := by rw [List.length_append, hA, Array.length_toList, hv, Nat.add_mul, Nat.one_mul]
    simp only [List.flatMap_cons, List.length_cons]
    rw [List.take_left' hA1]
    have e5 : (k + 1 + vs.length) * c = (k + 1) * c + vs.length * c := Nat.add_mul _ _ _
    rw [e5, ← List.drop_drop, List.drop_left' hA1, List.drop_drop]
    simp only [List.append_assoc]
    rw [show k * c + c + vs.length * c = (k + (vs.length + 1)) * c by rw [Nat.add_mul, Nat.add_mul, Nat.one_mul]; omega]
theorem run_litN {P : Program} {t e : TypeId} {c bytes : Nat} (hel : El P t e c bytes) (vs : List Value) (h1 : ∀ v ∈ vs, v.cells.size = c) (h0 : 0 < vs.length) (hm : vs.length * c ≤ 16777216) (w : World) :
    (Instr.buildSlice t vs.length (vs.zipIdx.map fun (v, i) => (i, v)).toArray).run P w = .ok (.slice (some ⟨w.heap.size, 0, none⟩) vs.length vs.length) (w.alloc (.cells (vs.flatMap fun v => v.cells.toList).toArray e)) := by
  obtain ⟨i, z, ht, hi, hz, hc, _, hzc, hp⟩ := hel.ex
  have hfill := fillN (c := c) (fun i => some (i * c, c)) (by simp) vs 0 ((Array.range (vs.length * c)).map (z.cells[· % z.cells.size]!)) (by simp) h1
  simp only [Nat.zero_mul, List.take_zero, List.nil_append, Nat.zero_add] at hfill
  rw [List.drop_of_length_le (by simp)] at hfill
  simp only [List.append_nil] at hfill
  have hne : ¬ (vs.length * c > 2 ^ 24) := by omega
  have hne2 : ¬ (vs.length * c = 0) := by
    have := Nat.mul_pos h0 hp; omega
  simp only [Instr.buildSlice, Sem.run_bind, run_underlying ht, Result.andThen_ok, sizeOf, typeInfo, run_program, hi, Sem.run_pure, hc, zeroValue, hz, if_neg hne, if_neg hne2]
  simp only [hfill, newRow]
  simp
section
variable {P : Program} {n : Nat} {W : Base} {fr : Fr} {L : List Own} {Q : Exit → Act → World → Prop} {ops : Array Oper} {rest : List Oper} {d : Nat} {dst : Option Tmp} {ty : TypeId} {pos : String} {after : Array Edge} {guard : Option (Nat × Bool)}
theorem TL_litN {t e : TypeId} {c bytes m : Nat} {parts : Array (Nat × Operand)} {cs : Array Value} (vs : List Value) [hel : ElC P t e c bytes] (hp : partsEv fr parts.toList = some (vs.zipIdx.map fun (v, i) => (i, v))) (hm : vs.length = m) (h0 : Nat.blt 0 m = true) (h1 : ∀ v ∈ vs, v.cells.size = c) (hs : Nat.ble (m * c) 16777216 = true) (hcs : cs = (vs.flatMap fun v => v.cells.toList).toArray) (hn : Nat.blt d n = true)
    (h : ∀ g, TL P n W ops Q rest ((d, .slice (some ⟨g, 0, none⟩) m m) :: fr) (L ++ [blkO g cs e])) : TL P n W ops Q (⟨some d, .buildSlice t m parts, ty, pos, after, none⟩ :: rest) fr L := by
  subst hm hcs
  refine TL_lit (fun a w hr => ?_) hn h
  have e : (parts.map fun (i, x) => (i, a.eval x)) = (vs.zipIdx.map fun (v, i) => (i, v)).toArray := by
    rw [← partsEv_of hr _ _ hp, ← Array.toList_map, Array.toArray_toList]
  rw [e]
  exact run_litN hel.el vs h1 (Nat.le_of_ble_eq_true h0) (Nat.le_of_ble_eq_true hs) w
/-- 's[:k]' of a slice -/
theorem rr_slpre {t e : TypeId} {x z : Operand} {agg : Bool} {c j len cap : Nat} {base : Option Addr} {k : IntKind} (ht : P.underlying t = some (.slice e)) (he : Ty P e agg c) (hx : ev fr x = some (.slice base len cap)) (hz : ev fr z = some (.int k (j : Int))) (h : j ≤ cap) : RR P n W ⟨dst, .slice t x none (some z) none, ty, pos, after, guard⟩ fr L (.slice base j cap) := .mk fun a w hr hm => by
  have h1 := (rr_slupto (P := P) (n := n) (W := W) (L := L) (dst := dst) (ty := ty) (pos := pos) (after := after) (guard := guard) ht he hx hz h).go a w hr hm
  have e1 : subV base cap c 0 j = .slice base j cap := by
    unfold subV
    cases base with
    | none => simp
    | some q => simp [Addr.add]
  rw [e1] at h1; exact h1
/-- nothing is handed back -/
theorem E_ret0 {fn : Func} {R : Ending → World → Prop} (hres : fn.results = #[]) (h : ∀ w, Mem W L w → R (.returned (.tuple #[])) w) : E n W .ret (bodyPost P fn R) fr L :=
  E_ret fun a w hr hm => ⟨.tuple #[], by simp [results, hres], h w hm⟩
/-- the text's end is come to -/
theorem E_end0 {fn : Func} {R : Ending → World → Prop} (hres : fn.results = #[]) (h : ∀ w, Mem W L w → R (.returned (.tuple #[])) w) : E n W .normal (bodyPost P fn R) fr L :=
  ⟨fun a w hr hm => ⟨hr.defers, .tuple #[], by simp [results, hres], h w hm⟩⟩
end
end Go.Proofs.Ytnicebdkejkieaa.eng

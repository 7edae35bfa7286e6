/- Operations that touch memory, and calls. -/
import Derived.Test.YtnicebdkejkieaaOps
import Derived.Test.YtnicebdkejkieaaOpen
import Derived.Laws.BytesString
namespace Go.Proofs.Ytnicebdkejkieaa.eng
open Go.RowKit kit mix

section
variable {P : Program} {n : Nat} {W : Base} {fr : Fr} {L : List Own} {dst : Option Tmp} {ty : TypeId} {pos : String} {after : Array Edge} {guard : Option (Nat × Bool)}
/-! ### reading -/
/-- a cell that holds v whenever L is known -/
def At (W : Base) (L : List Own) (p : Addr) (v : Value) : Prop := ∀ w, Mem W L w → w.cell? p = some v
theorem at_old {W : World} {p : Addr} {v : Value} (h : W.cell? p = some v) : At W L p v := fun _ hm => hm.cell h
theorem at_old0 {W0 : World} {p : Addr} {v : Value} (ho : Old W0 W) (h : W0.cell? p = some v) : At W L p v := fun _ hm => ho.cell hm h
theorem at_blk {i g off : Nat} {cs : Array Value} {T : TypeId} {v : Value} (hi : L[i]? = some (blkO g cs T)) (hv : cs[off]? = some v) : At W L ⟨g, off, none⟩ v := fun w hm => by
  rw [cell_of_row w g off cs T (0, 0) (hm.get hi)]; exact hv
theorem at_row {i g off size cap m k : Nat} {e : TypeId} {xs : List Value} {v : Value} (hi : L[i]? = some (rowO e size (.slice (some ⟨g, 0, none⟩) m cap) k xs)) (hv : xs[off]? = some v) : At W L ⟨g, off, none⟩ v := fun w hm => by
  have h : w.ownsRow 0 e size (.slice (some ⟨g, 0, none⟩) m cap) k xs := hm.get hi
  have := h.cells (g := g) rfl off v hv
  rwa [addr_add, Nat.zero_add] at this
theorem at_wr {i g off : Nat} {xs : List Value} {v : Value} (hi : L[i]? = some (wrO g xs)) (hv : xs[off]? = some v) : At W L ⟨g, off, none⟩ v := fun w hm => by
  have h : g < w.heap.size ∧ Wr w g 0 xs := hm.get hi
  have := (h.2 off v hv).1
  rwa [Nat.zero_add] at this
/-- reading cells of a slice that came in -/
theorem at_rd {W : World} {b off j : Nat} {xs : List Value} {v : Value} (h : Rd W b off xs) (hv : xs[j]? = some v) : At W L ⟨b, off + j, none⟩ v := at_old (h j v hv)
theorem rr_load1 {t : TypeId} {x : Operand} {p : Addr} {c : Nat} {v : Value} (hT : Ty P t false c) (hx : ev fr x = some (.pointer (some p))) (h : At W L p v) : RR P n W ⟨dst, .load t x, ty, pos, after, guard⟩ fr L v := .mk fun a w hr hm => by
  simp [execOp, hr.ev hx, Instr.loadAt, Instr.sureAddr, loadVar, hT.agg, h w hm]
theorem rr_loadN {t : TypeId} {x : Operand} {b off c : Nat} {cs : List Value} (hT : Ty P t true c) (hx : ev fr x = some (.pointer (some ⟨b, off, none⟩))) (hl : cs.length = c) (h : ∀ j v, cs[j]? = some v → At W L ⟨b, off + j, none⟩ v) : RR P n W ⟨dst, .load t x, ty, pos, after, guard⟩ fr L (.agg cs.toArray) := .mk fun a w hr hm => by
  subst hl
  have := run_loadCells_list (P := P) w ⟨b, off, none⟩ cs fun j v hj => by rw [addr_add]; exact h j v hj w hm
  simp [execOp, hr.ev hx, Instr.loadAt, Instr.sureAddr, loadVar, hT.agg, hT.size, this]
/-- a block that is known whole, read whole -/
theorem rr_loadB {t : TypeId} {x : Operand} {i g c : Nat} {cs : Array Value} {T : TypeId} (hT : Ty P t true c) (hx : ev fr x = some (.pointer (some ⟨g, 0, none⟩))) (hi : L[i]? = some (blkO g cs T)) (hl : cs.size = c) : RR P n W ⟨dst, .load t x, ty, pos, after, guard⟩ fr L (.agg cs) := by
  have := rr_loadN (P := P) (n := n) (W := W) (L := L) (dst := dst) (ty := ty) (pos := pos) (after := after) (guard := guard) (cs := cs.toList) hT hx (by simpa using hl) fun j v hj => by rw [Nat.zero_add]; exact at_blk hi (by simpa using hj)
  simpa using this
theorem at_rdm {W : World} {α : Type} {f : α → Value} {b off j : Nat} {l : List α} (h : Rd W b off (l.map f)) (hj : j < l.length) : At W L ⟨b, off + j, none⟩ (f l[j]) := at_rd h (by simp [hj])
/-! ### addresses -/
structure Fld (P : Program) (s : TypeId) (f o : Nat) : Prop where
  run : ∀ (a : Addr) w, (Instr.fieldAt s (.pointer (some a)) f).run P w = .ok (.pointer (some (a.add o))) w
def fldB (P : Program) (s : TypeId) (f o : Nat) : Bool :=
  match P.underlying s with
  | some (.struct fs) => (match fs[f]? with | some d => Nat.beq d.offset o && (match P.info? d.type with | some i => !(Nat.beq i.size 0) | none => false) | none => false)
  | _ => false
theorem Fld.of {P : Program} {s : TypeId} {f o : Nat} (h : fldB P s f o = true) : Fld P s f o := by
  unfold fldB at h
  cases e : P.underlying s with
  | none => rw [e] at h; cases h
  | some d =>
    rw [e] at h
    cases d <;> try (cases h; done)
    rename_i fs
    simp only at h
    cases e2 : fs[f]? with
    | none => rw [e2] at h; cases h
    | some d =>
      rw [e2] at h
      simp only [Bool.and_eq_true] at h
      obtain ⟨h1, h2⟩ := h
      obtain rfl := Nat.eq_of_beq_eq_true h1
      cases e3 : P.info? d.type with
      | none => rw [e3] at h2; cases h2
      | some i =>
        rw [e3] at h2
        simp only [Bool.not_eq_true'] at h2
        have := Nat.ne_of_beq_eq_false h2
        exact ⟨fun a w => by simp [Instr.fieldAt, run_underlying e, e2, Instr.sureAddr, fieldPlace, sizeOf, typeInfo, e3, this]⟩
theorem rr_field {s : TypeId} {x : Operand} {f o b off r : Nat} (hf : Fld P s f o) (hx : ev fr x = some (.pointer (some ⟨b, off, none⟩))) (hr : off + o = r) : RR P n W ⟨dst, .fieldAddr s x f, ty, pos, after, guard⟩ fr L (.pointer (some ⟨b, r, none⟩)) := .mk fun a w h _ => by
  subst hr
  simp [execOp, h.ev hx, hf.run, addr_add]
theorem rr_idx {t e : TypeId} {x y : Operand} {agg : Bool} {c b off len cap r : Nat} {k : IntKind} {i : Int} (ht : P.underlying t = some (.slice e)) (he : Ty P e agg c) (hx : ev fr x = some (.slice (some ⟨b, off, none⟩) len cap)) (hy : ev fr y = some (.int k i)) (h0 : 0 ≤ i) (h1 : i < len) (hr : off + i.toNat * c = r) :
    RR P n W ⟨dst, .indexAddr t x y, ty, pos, after, guard⟩ fr L (.pointer (some ⟨b, r, none⟩)) := .mk fun a w h _ => by
  subst hr
  simp [execOp, h.ev hx, h.ev hy, Instr.indexAt, asIntOf, run_underlying ht, he.size, h0, h1, addr_add]
/-- an index that is a number of Nat's -/
theorem rr_idx1 {t e : TypeId} {x y : Operand} {agg : Bool} {b off len cap j : Nat} {k : IntKind} (ht : P.underlying t = some (.slice e)) (he : Ty P e agg 1) (hx : ev fr x = some (.slice (some ⟨b, off, none⟩) len cap)) (hy : ev fr y = some (.int k (j : Int))) (h1 : j < len) :
    RR P n W ⟨dst, .indexAddr t x y, ty, pos, after, guard⟩ fr L (.pointer (some ⟨b, off + j, none⟩)) := rr_idx ht he hx hy (by omega) (by omega) (by simp)
theorem rr_idxc {t e : TypeId} {x y : Operand} {agg : Bool} {c b off len cap j : Nat} {k : IntKind} (ht : P.underlying t = some (.slice e)) (he : Ty P e agg c) (hx : ev fr x = some (.slice (some ⟨b, off, none⟩) len cap)) (hy : ev fr y = some (.int k (j : Int))) (h1 : j < len) :
    RR P n W ⟨dst, .indexAddr t x y, ty, pos, after, guard⟩ fr L (.pointer (some ⟨b, off + j * c, none⟩)) := rr_idx ht he hx hy (by omega) (by omega) (by simp)
theorem rr_aidx {t e : TypeId} {x y : Operand} {agg : Bool} {c b off len r : Nat} {k : IntKind} {i : Int} (ht : P.underlying t = some (.array len e)) (he : Ty P e agg c) (hx : ev fr x = some (.pointer (some ⟨b, off, none⟩))) (hy : ev fr y = some (.int k i)) (h0 : 0 ≤ i) (h1 : i < len) (hr : off + i.toNat * c = r) :
    RR P n W ⟨dst, .indexAddr t x y, ty, pos, after, guard⟩ fr L (.pointer (some ⟨b, r, none⟩)) := .mk fun a w h _ => by
  subst hr
  simp [execOp, h.ev hx, h.ev hy, Instr.indexAt, asIntOf, run_underlying ht, he.size, h0, h1, addr_add, Instr.sureAddr]
theorem rr_aidxc {t e : TypeId} {x y : Operand} {agg : Bool} {c b off len j : Nat} {k : IntKind} (ht : P.underlying t = some (.array len e)) (he : Ty P e agg c) (hx : ev fr x = some (.pointer (some ⟨b, off, none⟩))) (hy : ev fr y = some (.int k (j : Int))) (h1 : j < len) :
    RR P n W ⟨dst, .indexAddr t x y, ty, pos, after, guard⟩ fr L (.pointer (some ⟨b, off + j * c, none⟩)) := rr_aidx ht he hx hy (by omega) (by omega) (by simp)
theorem rr_aidx1 {t e : TypeId} {x y : Operand} {agg : Bool} {b off len j : Nat} {k : IntKind} (ht : P.underlying t = some (.array len e)) (he : Ty P e agg 1) (hx : ev fr x = some (.pointer (some ⟨b, off, none⟩))) (hy : ev fr y = some (.int k (j : Int))) (h1 : j < len) :
    RR P n W ⟨dst, .indexAddr t x y, ty, pos, after, guard⟩ fr L (.pointer (some ⟨b, off + j, none⟩)) := rr_aidx ht he hx hy (by omega) (by omega) (by simp)
/-- an array's element, the array being a value -/
theorem rr_arridx {t e : TypeId} {x y : Operand} {len j : Nat} {k : IntKind} {cs : Array Value} {v : Value} (ht : P.underlying t = some (.array len e)) (he : Ty P e false 1) (hx : ev fr x = some (.agg cs)) (hy : ev fr y = some (.int k (j : Int))) (h1 : j < len) (hv : cs[j]? = some v) :
    RR P n W ⟨dst, .index t x y, ty, pos, after, guard⟩ fr L v := .mk fun a w h _ => by
  have h0 : (0 : Int) ≤ (j : Int) ∧ (j : Int) < (len : Int) := by omega
  simp [execOp, h.ev hx, h.ev hy, Instr.index, asIntOf, run_underlying ht, he.size, h1, part, he.agg, hv]
theorem rr_len {t e : TypeId} {x : Operand} {p : Option Addr} {m cap : Nat} (ht : P.underlying t = some (.slice e)) (hx : ev fr x = some (.slice p m cap)) : RR P n W ⟨dst, .call { callee := .builtin .len, args := #[x], argTypes := #[t] }, ty, pos, after, guard⟩ fr L (.int .i64 m) := .mk fun a w hr _ => by
  have hx' := hr.ev hx
  simp [BigFrame.execOp_builtin, BigFrame.builtin_len, Builtin.len_, hx', run_underlying ht, goInt]
theorem rr_rowlen {t e e' : TypeId} {x : Operand} {i size m : Nat} {v : Value} {xs : List Value} (ht : P.underlying t = some (.slice e)) (hi : L[i]? = some (rowO e' size v m xs)) (hx : ev fr x = some v) : RR P n W ⟨dst, .call { callee := .builtin .len, args := #[x], argTypes := #[t] }, ty, pos, after, guard⟩ fr L (.int .i64 m) := .mk fun a w hr hm => by
  have h : w.ownsRow 0 e' size v m xs := hm.get hi
  rcases h.2 with ⟨rfl, rfl⟩ | ⟨g, cap, cur, rfl, _⟩
  · exact (rr_len (P := P) (W := W) (L := L) ht hx).go a w hr hm
  · exact (rr_len (P := P) (W := W) (L := L) ht hx).go a w hr hm
/-- the array behind an own slice that isn't empty -/
theorem T_row {c : Code} {Q : Exit → Act → World → Prop} {i size m : Nat} {e : TypeId} {v : Value} {xs : List Value} (hi : L[i]? = some (rowO e size v m xs)) (h0 : 0 < m) (h : ∀ g cap, v = .slice (some ⟨g, 0, none⟩) m cap → T P n W c Q fr L) : T P n W c Q fr L := .mk fun a w hr hm => by
  have h1 : w.ownsRow 0 e size v m xs := hm.get hi
  rcases h1.2 with ⟨_, rfl⟩ | ⟨g, cap, cur, hv, _⟩
  · omega
  · exact (h g cap hv).go a w hr hm
/-- what an own slice is: nothing, or an array's beginning -/
theorem T_rowc {c : Code} {Q : Exit → Act → World → Prop} {i size m : Nat} {e : TypeId} {v : Value} {xs : List Value} (hi : L[i]? = some (rowO e size v m xs)) (h0 : v = .slice none 0 0 → m = 0 → T P n W c Q fr L) (h : ∀ g cap, v = .slice (some ⟨g, 0, none⟩) m cap → T P n W c Q fr L) : T P n W c Q fr L := .mk fun a w hr hm => by
  have h1 : w.ownsRow 0 e size v m xs := hm.get hi
  rcases h1.2 with ⟨hv, rfl⟩ | ⟨g, cap, cur, hv, _⟩
  · exact (h0 hv rfl).go a w hr hm
  · exact (h g cap hv).go a w hr hm
theorem T_len {c : Code} {Q : Exit → Act → World → Prop} {i size m : Nat} {e : TypeId} {v : Value} {xs : List Value} (hi : L[i]? = some (rowO e size v m xs)) (h : xs.length = m * size → T P n W c Q fr L) : T P n W c Q fr L := .mk fun a w hr hm => by
  have h1 : w.ownsRow 0 e size v m xs := hm.get hi
  exact (h h1.1).go a w hr hm
/-- a slice as a whole: cells that can be read as long as L is known -/
def SlL (W : Base) (L : List Own) (v : Value) (m : Nat) (xs : List Value) : Prop := ∀ w, Mem W L w → Sl w v m xs
theorem sl_old {W : World} {v : Value} {m : Nat} {xs : List Value} (h : Sl W v m xs) : SlL W L v m xs := fun w hm => by
  obtain ⟨base, cap, h1, h2, h3, h4⟩ := h
  exact ⟨base, cap, h1, h2, h3, fun hn => let ⟨b, off, h5, h6⟩ := h4 hn; ⟨b, off, h5, fun j u hj => hm.cell (h6 j u hj)⟩⟩
theorem sl_row {i size m : Nat} {e : TypeId} {v : Value} {xs : List Value} (hi : L[i]? = some (rowO e size v m xs)) : SlL W L v m xs := fun _ hm => Sl.of_own (hm.get hi)

/-! ### writing and making -/
section
variable {Q : Exit → Act → World → Prop} {ops : Array Oper} {rest : List Oper} {d : Nat}
/-- a new block with these cells -/
theorem TL_box {t : TypeId} {x : Operand} {v : Value} {cs : Array Value} (hx : ev fr x = some v) (hv : v.cells = cs) (hn : Nat.blt d n = true) (h : ∀ g, TL P n W ops Q rest ((d, .pointer (some ⟨g, 0, none⟩)) :: fr) (L ++ [blkO g cs t])) :
    TL P n W ops Q (⟨some d, .box t x, ty, pos, after, none⟩ :: rest) fr L := TL_any rfl fun a w hr hm K hK => by
  subst hv
  have e : (execOp a.eval ⟨some d, .box t x, ty, pos, after, none⟩).run P w = .ok (.value (.pointer (some ⟨w.heap.size, 0, none⟩))) (w.alloc (.cells v.cells t)) := by
    simp [execOp, hr.ev hx, Instr.box, newVar, newRow]
  unfold Oper.wp; rw [e]
  exact hK _ _ ((h w.heap.size).go _ _ (hr.put hn _) (hm.append (gr_alloc' w _) (Owns.one (heap_alloc_new w _) fun k hk => by simp only [blkO, Option.some.injEq] at hk; omega)))
where
  gr_alloc' (w : World) (o : Obj) : Gr w (w.alloc o) := (Below.refl _ _).alloc (Nat.le_refl _) _
theorem gr_alloc (w : World) (o : Obj) : Gr w (w.alloc o) := (Below.refl _ _).alloc (Nat.le_refl _) _
theorem TL_alloc {t : TypeId} {i : TypeInfo} {z : Value} {cs : Array Value} (hi : P.info? t = some i) (hz : i.zero = some z) (hv : z.cells = cs) (hn : Nat.blt d n = true) (h : ∀ g, TL P n W ops Q rest ((d, .pointer (some ⟨g, 0, none⟩)) :: fr) (L ++ [blkO g cs t])) :
    TL P n W ops Q (⟨some d, .alloc t, ty, pos, after, none⟩ :: rest) fr L := TL_any rfl fun a w hr hm K hK => by
  subst hv
  have e : (execOp a.eval ⟨some d, .alloc t, ty, pos, after, none⟩).run P w = .ok (.value (.pointer (some ⟨w.heap.size, 0, none⟩))) (w.alloc (.cells z.cells t)) := by
    simp [execOp, Instr.alloc, zeroValue, typeInfo, hi, hz, newVar, newRow]
  unfold Oper.wp; rw [e]
  exact hK _ _ ((h w.heap.size).go _ _ (hr.put hn _) (hm.append (gr_alloc w _) (Owns.one (heap_alloc_new w _) fun k hk => by simp only [blkO, Option.some.injEq] at hk; omega)))
/-- a slice literal: its run is given -/
theorem TL_lit {t e : TypeId} {m : Nat} {parts : Array (Nat × Operand)} {cs : Array Value} (hrun : ∀ a w, Rep n a fr → (Instr.buildSlice t m (parts.map fun (i, x) => (i, a.eval x))).run P w = .ok (.slice (some ⟨w.heap.size, 0, none⟩) m m) (w.alloc (.cells cs e))) (hn : Nat.blt d n = true)
    (h : ∀ g, TL P n W ops Q rest ((d, .slice (some ⟨g, 0, none⟩) m m) :: fr) (L ++ [blkO g cs e])) :
    TL P n W ops Q (⟨some d, .buildSlice t m parts, ty, pos, after, none⟩ :: rest) fr L := TL_any rfl fun a w hr hm K hK => by
  have e' : (execOp a.eval ⟨some d, .buildSlice t m parts, ty, pos, after, none⟩).run P w = .ok (.value (.slice (some ⟨w.heap.size, 0, none⟩) m m)) (w.alloc (.cells cs e)) := by
    simp only [execOp, Sem.run_bind, hrun a w hr, Result.andThen_ok, Sem.run_pure]
  unfold Oper.wp; rw [e']
  exact hK _ _ ((h w.heap.size).go _ _ (hr.put hn _) (hm.append (gr_alloc w _) (Owns.one (heap_alloc_new w _) fun k hk => by simp only [blkO, Option.some.injEq] at hk; omega)))
/-- a slice literal of one element -/
theorem run_lit1 {t e : TypeId} {i : TypeInfo} {z v : Value} {c : Nat} (ht : P.underlying t = some (.slice e)) (hi : P.info? e = some i) (hz : i.zero = some z) (hc : i.size = c) (hzc : z.cells.size = c) (hv : v.cells.size = c) (h0 : 0 < c) (hs : c ≤ 16777216) (w : World) :
    (Instr.buildSlice t 1 #[(0, v)]).run P w = .ok (.slice (some ⟨w.heap.size, 0, none⟩) 1 1) (w.alloc (.cells v.cells e)) := by
  have hfill : Instr.fill (fun i => some (i * c, c)) ((Array.range (1 * c)).map (z.cells[· % z.cells.size]!)) [(0, v)] = some v.cells := by
    simp only [Instr.fill, hv, Nat.zero_mul, Nat.zero_add, Array.size_map, Array.size_range, Nat.one_mul]
    rw [if_neg (by simp)]
    congr 1
    have key : ∀ (l : List Value) (k : Nat) (acc : Array Value), k + l.length = acc.size → (l.zipIdx k).foldl (fun cs (x : Value × Nat) => cs.setIfInBounds (0 + x.2) x.1) acc = (acc.toList.take k ++ l).toArray := by
      intro l
      induction l with
      | nil =>
        intro k acc h
        simp at h
        simp only [List.zipIdx_nil, List.foldl_nil, List.append_nil]
        rw [List.take_of_length_le (by simp; omega)]
      | cons x l ih =>
        intro k acc h
        simp only [List.length_cons] at h
        rw [List.zipIdx_cons, List.foldl_cons, ih (k + 1) _ (by simp; omega)]
        simp only [Nat.zero_add, Array.toList_setIfInBounds]
        congr 1
        rw [List.take_succ_eq_append_getElem (by simp; omega)]
        simp [List.take_set]
        rw [List.set_eq_of_length_le (by simp; omega)]
    have := key v.cells.toList 0 ((Array.range c).map (z.cells[· % z.cells.size]!)) (by simp [hv])
    simp only [List.take_zero, List.nil_append, Array.toArray_toList] at this
    rw [← Array.foldl_toList]
    simpa [Array.toList_zipIdx] using this
  have hne : ¬ (1 * c > 2 ^ 24) := by omega
  have hne2 : ¬ (1 * c = 0) := by omega
  simp only [Instr.buildSlice, Sem.run_bind, run_underlying ht, Result.andThen_ok, sizeOf, typeInfo, run_program, hi, Sem.run_pure, hc, zeroValue, hz, if_neg hne, if_neg hne2, hfill, newRow]
  simp [newRow, hfill]
theorem TL_lit1 {t e : TypeId} {x : Operand} {i : TypeInfo} {z v : Value} {c : Nat} {cs : Array Value} (ht : P.underlying t = some (.slice e)) (hi : P.info? e = some i) (hz : i.zero = some z) (hc : i.size = c) (hzc : z.cells.size = c) (hx : ev fr x = some v) (hcs : v.cells = cs) (hv : cs.size = c) (h0 : 0 < c) (hs : c ≤ 16777216) (hn : Nat.blt d n = true)
    (h : ∀ g, TL P n W ops Q rest ((d, .slice (some ⟨g, 0, none⟩) 1 1) :: fr) (L ++ [blkO g cs e])) : TL P n W ops Q (⟨some d, .buildSlice t 1 #[(0, x)], ty, pos, after, none⟩ :: rest) fr L := by
  subst hcs
  exact TL_lit (fun a w hr => by simpa [hr.ev hx] using run_lit1 ht hi hz hc hzc hv h0 hs w) hn h
/-- append onto an own slice: where it comes to lie -/
theorem run_append_turn {t ty e : TypeId} {i : TypeInfo} {z : Value} {size bytes : Nat} (ht : P.underlying t = some (.slice e)) (hi : P.info? e = some i) (hz : i.zero = some z) (hsize : i.size = size) (hby : i.bytes = bytes) (hzs : z.cells.size = size) (hsz : 0 < size) (w : World)
    {v : Value} {m : Nat} {xs : List Value} (hown : w.ownsRow 0 e size v m xs) {a : Addr} {k c : Nat} {news : List Value} (hl : news.length = k * size) (hnews : ∀ j u, news[j]? = some u → w.cell? (a.add j) = some u) (h1 : ∀ u ∈ news, u.oneCell' = true)
    (h63 : m + k ≤ maxLen) (hbytes : (m + k) * bytes ≤ 140737488355328) :
    ∃ v' w', (Builtin.append_ #[t, t] ty #[v, .slice (some a) k c]).run P w = .ok v' w' ∧ w'.ownsRow 0 e size v' (m + k) (xs ++ news) ∧ w.grownBy w' v.ownBlock ∧ (∀ q, v'.ownBlock = some q → v.ownBlock = some q ∨ w.heap.size ≤ q) := by
  obtain ⟨v', w', hr, h2, h3, h4⟩ := run_append_own (P := P) w 0 t ty e i z size bytes ht hi hz hsize hby hzs hsz v m xs hown a k c news hl hnews h1 h63 hbytes (Nat.zero_le _)
  refine ⟨v', w', hr, h2, h3, fun q hq => ?_⟩
  have h63' : ((m + k : Nat) : Int) ≤ 9223372036854775807 := by simp only [maxLen] at h63; omega
  rcases hown.2 with ⟨rfl, rfl⟩ | ⟨g, cap, cur, rfl, hbg, hg, hnc, hcm, hcs, htake⟩
  · by_cases hk : k = 0
    · rw [h4.2 ⟨rfl, hk⟩] at hq; cases hq
    · have hr2 := run_append_nil (P := P) w t ty e i z ht hi hz a k c news (by rw [hsize]; exact hl) hnews (by omega) (by omega) (by rw [hby]; have hb := hbytes; simp only [Nat.zero_add] at hb; omega)
      rw [hr] at hr2
      injection hr2 with e1 _
      subst e1
      simp only [Value.ownBlock, Option.some.injEq] at hq
      exact .inr (by omega)
  · by_cases hroom : m + k ≤ cap
    · have hfit : m * i.size + news.length ≤ cur.size := by rw [hl, hcs, hsize, ← Nat.add_mul]; exact Nat.mul_le_mul_right _ hroom
      have hr2 := run_append_room (P := P) w t ty e i ht hi g m cap cur hg a k c news (by rw [hsize]; exact hl) hnews h1 hroom hfit
      rw [hr] at hr2
      injection hr2 with e1 _
      subst e1
      exact .inl hq
    · have holds : ∀ j u, xs[j]? = some u → w.cell? ((⟨g, 0, none⟩ : Addr).add j) = some u := hown.cells (g := g) rfl
      have hr2 := run_append_grow (P := P) w t ty e i z ht hi hz ⟨g, 0, none⟩ m cap xs (by rw [hsize]; exact hown.1) holds a k c news (by rw [hsize]; exact hl) hnews (by omega) (by omega) (growslice_fits (by omega) (by rw [hby]; exact hbytes))
      rw [hr] at hr2
      injection hr2 with e1 _
      subst e1
      simp only [Value.ownBlock, Option.some.injEq] at hq
      exact .inr (by omega)
/-- a slice type's element type, as append wants it -/
structure El (P : Program) (t e : TypeId) (size bytes : Nat) : Prop where
  ex : ∃ i z, P.underlying t = some (.slice e) ∧ P.info? e = some i ∧ i.zero = some z ∧ i.size = size ∧ i.bytes = bytes ∧ z.cells.size = size ∧ 0 < size
def elB (P : Program) (t e : TypeId) (size bytes : Nat) : Bool :=
  (match P.underlying t with | some (.slice e') => Nat.beq e' e | _ => false) && (match P.info? e with | some i => Nat.beq i.size size && Nat.beq i.bytes bytes && (match i.zero with | some z => Nat.beq z.cells.size size | none => false) | none => false) && Nat.blt 0 size
theorem El.of {t e : TypeId} {size bytes : Nat} (h : elB P t e size bytes = true) : El P t e size bytes := by
  unfold elB at h
  simp only [Bool.and_eq_true] at h
  obtain ⟨⟨h1, h2⟩, h3⟩ := h
  cases e1 : P.underlying t with
  | none => rw [e1] at h1; cases h1
  | some d =>
    rw [e1] at h1
    cases d <;> try (cases h1; done)
    rename_i e'
    obtain rfl := Nat.eq_of_beq_eq_true h1
    cases e2 : P.info? e' with
    | none => rw [e2] at h2; cases h2
    | some i =>
      rw [e2] at h2
      simp only [Bool.and_eq_true] at h2
      obtain ⟨⟨h4, h5⟩, h6⟩ := h2
      cases e3 : i.zero with
      | none => rw [e3] at h6; cases h6
      | some z =>
        rw [e3] at h6
        exact ⟨i, z, e1, e2, e3, Nat.eq_of_beq_eq_true h4, Nat.eq_of_beq_eq_true h5, Nat.eq_of_beq_eq_true h6, Nat.le_of_ble_eq_true h3⟩
/-- 'append(s, x...)' onto an own slice, of whatever can be read -/
theorem TL_append {t e : TypeId} {s x : Operand} {i size bytes m k c : Nat} {v : Value} {xs ys : List Value} {a : Addr} (hel : El P t e size bytes) (hi : L[i]? = some (rowO e size v m xs)) (hs : ev fr s = some v) (hx : ev fr x = some (.slice (some a) k c))
    (hy : ∀ j u, ys[j]? = some u → At W L (a.add j) u) (hl : ys.length = k * size) (h1 : ∀ u ∈ ys, u.oneCell' = true) (h63 : m + k ≤ 140737488355328) (hb : (m + k) * bytes ≤ 140737488355328) (hn : Nat.blt d n = true)
    (h : ∀ v', TL P n W ops Q rest ((d, v') :: fr) (L.set i (rowO e size v' (m + k) (xs ++ ys)))) :
    TL P n W ops Q (⟨some d, .call { callee := .builtin .append, args := #[s, x], argTypes := #[t, t] }, ty, pos, after, none⟩ :: rest) fr L := TL_any rfl fun act w hr hm K hK => by
  obtain ⟨inf, z, ht, hinf, hz, hsize, hby, hzs, hsz⟩ := hel.ex
  obtain ⟨v', w', hrun, h2, h3, h4⟩ := run_append_turn (ty := ty) (c := c) ht hinf hz hsize hby hzs hsz w (hm.get hi : w.ownsRow 0 e size v m xs) hl (fun j u hj => hy j u hj w hm) h1 (by unfold maxLen; omega) hb
  have e' : (execOp act.eval ⟨some d, .call { callee := .builtin .append, args := #[s, x], argTypes := #[t, t] }, ty, pos, after, none⟩).run P w = .ok (.value v') w' := by
    simp only [BigFrame.execOp_builtin, BigFrame.builtin_append, List.map_toArray, List.map_cons, List.map_nil, hr.ev hs, hr.ev hx, Sem.run_bind, hrun, Result.andThen_ok, Sem.run_pure]
  unfold Oper.wp; rw [e']
  exact hK _ _ ((h v').go _ _ (hr.put hn _) (hm.turn hi h3 h2 h4))
theorem TL_append_at {t e : TypeId} {s x : Operand} {i size bytes m k c : Nat} {v : Value} {xs ys : List Value} {p : Addr} {act : Act} {w : World} (hel : El P t e size bytes) (hi : L[i]? = some (rowO e size v m xs)) (hs : ev fr s = some v) (hx : ev fr x = some (.slice (some p) k c))
    (hy : ∀ j u, ys[j]? = some u → w.cell? (p.add j) = some u) (hl : ys.length = k * size) (h1 : ∀ u ∈ ys, u.oneCell' = true) (h63 : m + k ≤ 140737488355328) (hb : (m + k) * bytes ≤ 140737488355328) (hn : Nat.blt d n = true)
    (h : ∀ v', TL P n W ops Q rest ((d, v') :: fr) (L.set i (rowO e size v' (m + k) (xs ++ ys)))) (hr : Rep n act fr) (hm : Mem W L w) :
    wpList P ops Q (⟨some d, .call { callee := .builtin .append, args := #[s, x], argTypes := #[t, t] }, ty, pos, after, none⟩ :: rest) act w := by
  refine wpList_plain rfl fun K hK => ?_
  obtain ⟨inf, z, ht, hinf, hz, hsize, hby, hzs, hsz⟩ := hel.ex
  obtain ⟨v', w', hrun, h2, h3, h4⟩ := run_append_turn (ty := ty) (c := c) ht hinf hz hsize hby hzs hsz w (hm.get hi : w.ownsRow 0 e size v m xs) hl hy h1 (by unfold maxLen; omega) hb
  have e' : (execOp act.eval ⟨some d, .call { callee := .builtin .append, args := #[s, x], argTypes := #[t, t] }, ty, pos, after, none⟩).run P w = .ok (.value v') w' := by
    simp only [BigFrame.execOp_builtin, BigFrame.builtin_append, List.map_toArray, List.map_cons, List.map_nil, hr.ev hs, hr.ev hx, Sem.run_bind, hrun, Result.andThen_ok, Sem.run_pure]
  unfold Oper.wp; rw [e']
  exact hK _ _ ((h v').go _ _ (hr.put hn _) (hm.turn hi h3 h2 h4))
/-- the same of nothing -/
theorem TL_append0 {t e : TypeId} {s x : Operand} {i size bytes m c : Nat} {v : Value} {xs : List Value} (hel : El P t e size bytes) (hi : L[i]? = some (rowO e size v m xs)) (hs : ev fr s = some v) (hx : ev fr x = some (.slice none 0 c)) (hn : Nat.blt d n = true)
    (h : TL P n W ops Q rest ((d, v) :: fr) L) :
    TL P n W ops Q (⟨some d, .call { callee := .builtin .append, args := #[s, x], argTypes := #[t, t] }, ty, pos, after, none⟩ :: rest) fr L := TL_any rfl fun act w hr hm K hK => by
  obtain ⟨inf, z, ht, hinf, hz, hsize, hby, hzs, hsz⟩ := hel.ex
  have hown : w.ownsRow 0 e size v m xs := hm.get hi
  have e' : (execOp act.eval ⟨some d, .call { callee := .builtin .append, args := #[s, x], argTypes := #[t, t] }, ty, pos, after, none⟩).run P w = .ok (.value v) w := by
    rcases hown.2 with ⟨rfl, rfl⟩ | ⟨g, cap, cur, rfl, hbg, hg, hnc, hcm, hcs, htake⟩
    · simp [BigFrame.execOp_builtin, BigFrame.builtin_append, hr.ev hs, hr.ev hx, Builtin.append_, run_underlying ht, sizeOf, typeInfo, hinf, Builtin.lenOf, Builtin.firstCells, loadCells, loadCellsFrom]
    · simp [BigFrame.execOp_builtin, BigFrame.builtin_append, hr.ev hs, hr.ev hx, Builtin.append_, run_underlying ht, sizeOf, typeInfo, hinf, Builtin.lenOf, Builtin.firstCells, loadCells, loadCellsFrom, hnc, storeCells]
  unfold Oper.wp; rw [e']
  exact hK _ _ (h.go _ _ (hr.put hn _) hm)
/-- a store into a block that is known whole -/
theorem TL_store {t : TypeId} {p x : Operand} {i g off c : Nat} {cs cs' : Array Value} {T : TypeId} {agg : Bool} {v : Value} (hT : Ty P t agg c) (hi : L[i]? = some (blkO g cs T)) (hp : ev fr p = some (.pointer (some ⟨g, off, none⟩))) (hx : ev fr x = some v) (hv : v.cells.size = c) (h1 : v.cells.toList.all Value.oneCell' = true)
    (hfit : off + c ≤ cs.size) (hcs : cs' = (cs.toList.take off ++ v.cells.toList ++ cs.toList.drop (off + c)).toArray) (h : TL P n W ops Q rest fr (L.set i (blkO g cs' T))) :
    TL P n W ops Q (⟨none, .store t p x, ty, pos, after, none⟩ :: rest) fr L := TL_any rfl fun act w hr hm K hK => by
  have hg : w.heap[g]? = some (.cells cs T (0, 0)) := hm.get hi
  have hst := run_storeCells_at P g off T v.cells.toList 0 cs w hg (by simp [hv]; omega) (List.all_eq_true.1 h1)
  simp only [Nat.add_zero, Array.length_toList, hv] at hst
  rw [← hcs] at hst
  have e' : (execOp act.eval ⟨none, .store t p x, ty, pos, after, none⟩).run P w = .ok .skip (w.setRow g cs') := by
    simp [execOp, hr.ev hp, hr.ev hx, Instr.storeAt, Instr.sureAddr, storeVar, hT.size, hv, hst]
  unfold Oper.wp; rw [e']
  exact hK _ _ (h.go _ _ (hr.put_none undef) (hm.turn hi ⟨rfl, rfl, rfl, by simp, fun k _ hk => setRow_other w g k _ (fun e => hk (by subst e; rfl))⟩ (setRow_heap w g cs _ T _ hg) fun k hk => .inl hk))
/-- one cell of an own slice -/
theorem TL_storeRow {t : TypeId} {p x : Operand} {i g off c size cap m k : Nat} {xs : List Value} {e : TypeId} {v : Value} (hT : Ty P t false c) (hi : L[i]? = some (rowO e size (.slice (some ⟨g, 0, none⟩) m cap) k xs)) (hp : ev fr p = some (.pointer (some ⟨g, off, none⟩))) (hx : ev fr x = some v) (hv : v.cells = #[v]) (hc : c = 1) (h1 : v.oneCell' = true)
    (hfit : off < xs.length) (h : TL P n W ops Q rest fr (L.set i (rowO e size (.slice (some ⟨g, 0, none⟩) m cap) k (xs.set off v)))) :
    TL P n W ops Q (⟨none, .store t p x, ty, pos, after, none⟩ :: rest) fr L := TL_any rfl fun act w hr hm K hK => by
  subst hc
  have hown : w.ownsRow 0 e size (.slice (some ⟨g, 0, none⟩) m cap) k xs := hm.get hi
  have hown' := hown
  rcases hown.2 with ⟨h0, _⟩ | ⟨g', cap', cur, he, hbg, hg, hnc, hcm, hcs, htake⟩
  · cases h0
  simp only [Value.slice.injEq, Option.some.injEq, Addr.mk.injEq, and_true] at he
  obtain ⟨rfl, rfl, rfl⟩ := he
  have hlen : xs.length = m * size := hown.1
  have hoff : off < cur.size := by rw [hcs]; exact Nat.lt_of_lt_of_le (by omega) (Nat.mul_le_mul_right size hnc)
  have hst := run_storeCells_at P g off e [v] 0 cur w hg (by simp; omega) (by simpa using h1)
  simp only [Nat.add_zero, List.length_singleton] at hst
  have hset : cur.toList.take off ++ [v] ++ cur.toList.drop (off + 1) = cur.toList.set off v := by
    rw [List.set_eq_take_append_cons_drop, if_pos (by simpa using hoff)]; simp
  rw [hset] at hst
  have e' : (execOp act.eval ⟨none, .store t p x, ty, pos, after, none⟩).run P w = .ok .skip (w.setRow g (cur.toList.set off v).toArray) := by
    simp [execOp, hr.ev hp, hr.ev hx, Instr.storeAt, Instr.sureAddr, storeVar, hT.size, hv, hst]
  unfold Oper.wp; rw [e']
  refine hK _ _ (h.go _ _ (hr.put_none undef) (hm.turn hi ⟨rfl, rfl, rfl, by simp, fun k _ hk => setRow_other w g k _ (fun e => hk (by subst e; rfl))⟩ ?_ fun k hk => .inl hk))
  refine ⟨by rw [List.length_set]; exact hown.1, .inr ⟨g, cap, _, rfl, hbg, setRow_heap w g cur _ e _ hg, hnc, hcm, by simp [hcs], ?_⟩⟩
  simp only [List.take_set]
  rw [htake]
/-- one cell of cells that may be written -/
theorem TL_storeWr {t : TypeId} {p x : Operand} {i g off c : Nat} {xs : List Value} {v : Value} (hT : Ty P t false c) (hi : L[i]? = some (wrO g xs)) (hp : ev fr p = some (.pointer (some ⟨g, off, none⟩))) (hx : ev fr x = some v) (hv : v.cells = #[v]) (hc : c = 1) (h1 : v.oneCell' = true)
    (hfit : off < xs.length) (h : TL P n W ops Q rest fr (L.set i (wrO g (xs.set off v)))) :
    TL P n W ops Q (⟨none, .store t p x, ty, pos, after, none⟩ :: rest) fr L := TL_any rfl fun act w hr hm K hK => by
  subst hc
  have hw : g < w.heap.size ∧ Wr w g 0 xs := hm.get hi
  have hc := hw.2.at off hfit
  rw [Nat.zero_add] at hc
  have hst := run_store P w ⟨g, off, none⟩ v .plain h1
  rw [hc.1, hc.2] at hst
  have e' : (execOp act.eval ⟨none, .store t p x, ty, pos, after, none⟩).run P w = .ok .skip (w.setCell ⟨g, off, none⟩ v) := by
    have : (⟨g, off, none⟩ : Addr).add 0 = ⟨g, off, none⟩ := rfl
    simp only [execOp, hr.ev hp, hr.ev hx, Instr.storeAt, Instr.sureAddr, storeVar, Sem.run_bind, Sem.run_pure, Result.andThen_ok, hT.size, hv, storeCells, this]
    simp [hst]
  unfold Oper.wp; rw [e']
  refine hK _ _ (h.go _ _ (hr.put_none undef) (hm.turn hi ⟨rfl, rfl, rfl, by simp [World.setCell], fun k _ hk => Below.heap_setCell _ _ _ _ (fun e => hk (by subst e; rfl))⟩ ⟨by rw [size_set]; exact hw.1, ?_⟩ fun k hk => .inl hk))
  have := hw.2.set off hfit v
  rwa [Nat.zero_add] at this
/-- '[]byte(s)' -/
theorem TL_bytes {t u e : TypeId} {x : Operand} {l : List UInt8} (ht : P.underlying t = some .string) (hu : P.underlying u = some (.slice e)) (he : P.underlying e = some (.int .u8)) (hx : ev fr x = some (str l)) (hn : Nat.blt d n = true)
    (h : ∀ g cap, l.length ≤ cap → TL P n W ops Q rest ((d, .slice (some ⟨g, 0, none⟩) l.length cap) :: fr) (L ++ [wrO g (l.map u8v)])) : TL P n W ops Q (⟨some d, .convert t u x, ty, pos, after, none⟩ :: rest) fr L := TL_any rfl fun act w hr hm K hK => by
  obtain ⟨cap, w', h1, h2, h3, h4, h5⟩ := conv_bytes (P := P) ht hu he w ⟨l.toArray⟩
  have hx' := hr.ev hx
  unfold str at hx'
  have hs : (ByteArray.mk l.toArray).size = l.length := List.size_toArray
  rw [hs] at h1 h4
  have e' : (execOp act.eval ⟨some d, .convert t u x, ty, pos, after, none⟩).run P w = .ok (.value (.slice (some ⟨w.heap.size, 0, none⟩) l.length cap)) w' := by
    simp only [execOp, hx', Sem.run_bind, h1, Result.andThen_ok, Sem.run_pure]
  unfold Oper.wp; rw [e']
  exact hK _ _ ((h w.heap.size cap h4).go _ _ (hr.put hn _) (hm.append h2 (Owns.one (o := wrO w.heap.size (l.map u8v)) ⟨h3, by simpa using h5⟩ fun k hk => by simp only [wrO, Option.some.injEq] at hk; omega)))
/-- 'string(b)' -/
theorem rr_string {t u e : TypeId} {x : Operand} {m : Nat} {v : Value} {l : List UInt8} (ht : P.underlying t = some (.slice e)) (he : P.underlying e = some (.int .u8)) (hu : P.underlying u = some .string) (hx : ev fr x = some v) (hm : m = l.length) (h : SlL W L v m (l.map u8v)) : RR P n W ⟨dst, .convert t u x, ty, pos, after, guard⟩ fr L (str l) := .mk fun a w hr hmm => by
  subst hm
  have hx' := hr.ev hx
  obtain ⟨base, cap, rfl, _, _, hrd⟩ := h w hmm
  have e' : (convert t u (.slice base l.length cap)).run P w = .ok (str l) w := by
    cases l with
    | nil =>
      cases base with
      | none => simp [convert, run_underlying ht, run_underlying hu, run_underlying he, Conv.bytesToString, str]; rfl
      | some p => simp [convert, run_underlying ht, run_underlying hu, run_underlying he, Conv.bytesToString, str, loadCells, loadCellsFrom]; rfl
    | cons b l =>
      obtain ⟨g, off, rfl, hh⟩ := hrd (by simp)
      exact conv_string ht he hu rfl hh
  simp only [execOp, hx', Sem.run_bind, e', Result.andThen_ok, Sem.run_pure]
end
/-! ### calls -/
def Enters (P : Program) (f : FuncId) : Prop := ∀ args w, (callFunc f args).run P w = .ok (.enter f args) w
def entersB (P : Program) (f : FuncId) : Bool := match P.funcs[f]? with | some fn => fn.body.isSome && !(fn.name == "runtime.NumGoroutine") | none => false
theorem Enters.of {f : FuncId} (h : entersB P f = true) : Enters P f := by
  unfold entersB at h
  cases e : P.funcs[f]? with
  | none => rw [e] at h; cases h
  | some fn =>
    rw [e] at h
    simp only [Bool.and_eq_true, Bool.not_eq_true'] at h
    intro args w
    have h1 : ¬ fn.body = none := fun hb => by rw [hb] at h; simp at h
    have h2 : ¬ fn.name = "runtime.NumGoroutine" := by simpa using h.2
    simp [callFunc, e, h2, h1]
section
variable {f : FuncId} {ts : Array TypeId} {cl x1 x2 x3 x4 x5 : Operand} {v1 v2 v3 v4 v5 : Value} {first cap : Array Value}
theorem he0 (hf : Enters P f) (hc : ev fr cl = some (.func (.func f) #[] #[])) : ∀ a w, Rep n a fr → (execOp a.eval ⟨dst, .call { callee := .value cl, args := #[], argTypes := ts }, ty, pos, after, guard⟩).run P w = .ok (.enter f #[]) w := fun a w hr => by
  have hf' : ∀ args w, (callFunc f args).run P w = .ok (.enter f args) w := hf
  simp [execOp, resolve, hr.ev hc, Deferred.ofValue, invoke, hf']
theorem he1 (hf : Enters P f) (hc : ev fr cl = some (.func (.func f) #[] #[])) (h1 : ev fr x1 = some v1) : ∀ a w, Rep n a fr → (execOp a.eval ⟨dst, .call { callee := .value cl, args := #[x1], argTypes := ts }, ty, pos, after, guard⟩).run P w = .ok (.enter f #[v1]) w := fun a w hr => by
  have hf' : ∀ args w, (callFunc f args).run P w = .ok (.enter f args) w := hf
  simp [execOp, resolve, hr.ev hc, hr.ev h1, Deferred.ofValue, invoke, hf']
theorem he2 (hf : Enters P f) (hc : ev fr cl = some (.func (.func f) #[] #[])) (h1 : ev fr x1 = some v1) (h2 : ev fr x2 = some v2) : ∀ a w, Rep n a fr → (execOp a.eval ⟨dst, .call { callee := .value cl, args := #[x1, x2], argTypes := ts }, ty, pos, after, guard⟩).run P w = .ok (.enter f #[v1, v2]) w := fun a w hr => by
  have hf' : ∀ args w, (callFunc f args).run P w = .ok (.enter f args) w := hf
  simp [execOp, resolve, hr.ev hc, hr.ev h1, hr.ev h2, Deferred.ofValue, invoke, hf']
theorem he3 (hf : Enters P f) (hc : ev fr cl = some (.func (.func f) #[] #[])) (h1 : ev fr x1 = some v1) (h2 : ev fr x2 = some v2) (h3 : ev fr x3 = some v3) : ∀ a w, Rep n a fr → (execOp a.eval ⟨dst, .call { callee := .value cl, args := #[x1, x2, x3], argTypes := ts }, ty, pos, after, guard⟩).run P w = .ok (.enter f #[v1, v2, v3]) w := fun a w hr => by
  have hf' : ∀ args w, (callFunc f args).run P w = .ok (.enter f args) w := hf
  simp [execOp, resolve, hr.ev hc, hr.ev h1, hr.ev h2, hr.ev h3, Deferred.ofValue, invoke, hf']
theorem he4 (hf : Enters P f) (hc : ev fr cl = some (.func (.func f) #[] #[])) (h1 : ev fr x1 = some v1) (h2 : ev fr x2 = some v2) (h3 : ev fr x3 = some v3) (h4 : ev fr x4 = some v4) : ∀ a w, Rep n a fr → (execOp a.eval ⟨dst, .call { callee := .value cl, args := #[x1, x2, x3, x4], argTypes := ts }, ty, pos, after, guard⟩).run P w = .ok (.enter f #[v1, v2, v3, v4]) w := fun a w hr => by
  have hf' : ∀ args w, (callFunc f args).run P w = .ok (.enter f args) w := hf
  simp [execOp, resolve, hr.ev hc, hr.ev h1, hr.ev h2, hr.ev h3, hr.ev h4, Deferred.ofValue, invoke, hf']
/-- a closure: what it has captured comes behind -/
theorem he1c (hf : Enters P f) (hc : ev fr cl = some (.func (.func f) first cap)) (h1 : ev fr x1 = some v1) : ∀ a w, Rep n a fr → (execOp a.eval ⟨dst, .call { callee := .value cl, args := #[x1], argTypes := ts }, ty, pos, after, guard⟩).run P w = .ok (.enter f (first ++ #[v1] ++ cap)) w := fun a w hr => by
  have hf' : ∀ args w, (callFunc f args).run P w = .ok (.enter f args) w := hf
  simp [execOp, resolve, hr.ev hc, hr.ev h1, Deferred.ofValue, invoke, hf']
end
end
end Go.Proofs.Ytnicebdkejkieaa.eng

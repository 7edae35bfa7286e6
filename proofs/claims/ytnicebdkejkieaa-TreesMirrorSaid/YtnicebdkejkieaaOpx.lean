/- More operations: literals of several elements, texts appended, structs built and held against each other, results that lie in memory. -/
import Derived.Test.YtnicebdkejkieaaCls
import Derived.Laws.StructEq
namespace Go.Proofs.Ytnicebdkejkieaa.eng
open Go.RowKit kit mix
section
variable {P : Program} {n : Nat} {W : Base} {fr : Fr} {L : List Own} {Q : Exit → Act → World → Prop} {ops : Array Oper} {rest : List Oper} {d : Nat} {dst : Option Tmp} {ty : TypeId} {pos : String} {after : Array Edge} {guard : Option (Nat × Bool)}
def partsEv (fr : Fr) : List (Nat × Operand) → Option (List (Nat × Value))
  | [] => some []
  | (i, x) :: r => match ev fr x, partsEv fr r with | some v, some l => some ((i, v) :: l) | _, _ => none
theorem partsEv_of {a : Act} (hr : Rep n a fr) : ∀ (l : List (Nat × Operand)) (vs : List (Nat × Value)), partsEv fr l = some vs → l.map (fun (i, x) => (i, a.eval x)) = vs
  | [], vs, h => by simp only [partsEv, Option.some.injEq] at h; subst h; rfl
  | (i, x) :: r, vs, h => by
    simp only [partsEv] at h
    split at h
    · rename_i v l h1 h2
      simp only [Option.some.injEq] at h; subst h
      simp [hr.ev h1, partsEv_of hr r l h2]
    · cases h
theorem rr_build {t : TypeId} {parts : Array (Nat × Operand)} {ps : List (Nat × Value)} {cs : Array Value} (hp : partsEv fr parts.toList = some ps) (hrun : ∀ w, (Instr.build t ps.toArray).run P w = .ok (.agg cs) w) : RR P n W ⟨dst, .build t parts, ty, pos, after, guard⟩ fr L (.agg cs) := .mk fun a w hr _ => by
  have e : (parts.map fun (i, x) => (i, a.eval x)) = ps.toArray := by
    rw [← partsEv_of hr _ _ hp, ← Array.toList_map, Array.toArray_toList]
  simp only [execOp, Sem.run_bind]
  rw [e, hrun w]; rfl
/-- a literal's cells, one an element -/
theorem fill_seq (c0 : Nat → Option (Nat × Nat)) (hc0 : ∀ i, c0 i = some (i, 1)) : ∀ (vs : List Value) (k : Nat) (acc : Array Value), k + vs.length ≤ acc.size → (∀ v ∈ vs, v.cells = #[v]) → Instr.fill c0 acc ((vs.zipIdx k).map fun (v, i) => (i, v)) = some (acc.toList.take k ++ vs ++ acc.toList.drop (k + vs.length)).toArray
  | [], k, acc, h, _ => by simp [Instr.fill]
  | v :: vs, k, acc, h, h1 => by
    simp only [List.length_cons] at h
    have hv := h1 v (by simp)
    rw [List.zipIdx_cons, List.map_cons]
    simp only [Instr.fill, hc0, hv]
    rw [if_neg (by simp; omega)]
    have e : ((#[v] : Array Value).zipIdx.foldl (fun cs (x : Value × Nat) => cs.setIfInBounds (k + x.2) x.1) acc) = acc.setIfInBounds k v := by simp
    rw [e, fill_seq c0 hc0 vs (k + 1) _ (by simp; omega) (fun u hu => h1 u (by simp [hu]))]
    congr 2
    have hA : (acc.toList.take k).length = k := by simp; omega
    have hA1 : (acc.toList.take k ++ [v]).length = k + 1 := by rw [List.length_append, hA]; rfl
    have e2 : acc.toList.set k v = (acc.toList.take k ++ [v]) ++ acc.toList.drop (k + 1) := by
      rw [List.set_eq_take_append_cons_drop, if_pos (by simp; omega)]; simp
    simp only [Array.toList_setIfInBounds, List.length_cons]
    rw [e2, List.take_left' hA1, ← List.drop_drop, List.drop_left' hA1, List.drop_drop]
    simp only [List.append_assoc, List.singleton_append, List.cons_append, List.nil_append]
    rw [show k + 1 + vs.length = k + (vs.length + 1) by omega]
theorem run_litV {t e : TypeId} {bytes : Nat} (hel : El P t e 1 bytes) (vs : List Value) (h1 : ∀ v ∈ vs, v.cells = #[v]) (h0 : 0 < vs.length) (hm : vs.length ≤ 16777216) (w : World) :
    (Instr.buildSlice t vs.length (vs.zipIdx.map fun (v, i) => (i, v)).toArray).run P w = .ok (.slice (some ⟨w.heap.size, 0, none⟩) vs.length vs.length) (w.alloc (.cells vs.toArray e)) := by
  obtain ⟨i, z, ht, hi, hz, hc, _, hzc, _⟩ := hel.ex
  have hfill := fill_seq (fun i => some (i * 1, 1)) (by simp) vs 0 ((Array.range (vs.length * 1)).map (z.cells[· % z.cells.size]!)) (by simp) h1
  simp only [List.take_zero, List.nil_append, Nat.zero_add] at hfill
  rw [List.drop_of_length_le (by simp)] at hfill
  simp only [List.append_nil] at hfill
  have hne : ¬ (vs.length * 1 > 2 ^ 24) := by omega
  have hne2 : ¬ (vs.length * 1 = 0) := by omega
  simp only [Instr.buildSlice, Sem.run_bind, run_underlying ht, Result.andThen_ok, sizeOf, typeInfo, run_program, hi, Sem.run_pure, hc, zeroValue, hz, if_neg hne, if_neg hne2]
  simp only [hfill, newRow]
  simp
theorem TL_litV {t e : TypeId} {bytes m : Nat} {parts : Array (Nat × Operand)} (vs : List Value) [hel : ElC P t e 1 bytes] (hp : partsEv fr parts.toList = some (vs.zipIdx.map fun (v, i) => (i, v))) (hm : vs.length = m) (h0 : Nat.blt 0 m = true) (h1 : ∀ v ∈ vs, v.cells = #[v]) (hs : Nat.ble m 16777216 = true) (hn : Nat.blt d n = true)
    (h : ∀ g, TL P n W ops Q rest ((d, .slice (some ⟨g, 0, none⟩) m m) :: fr) (L ++ [blkO g vs.toArray e])) : TL P n W ops Q (⟨some d, .buildSlice t m parts, ty, pos, after, none⟩ :: rest) fr L := by
  subst hm
  refine TL_lit (fun a w hr => ?_) hn h
  have e : (parts.map fun (i, x) => (i, a.eval x)) = (vs.zipIdx.map fun (v, i) => (i, v)).toArray := by
    rw [← partsEv_of hr _ _ hp, ← Array.toList_map, Array.toArray_toList]
  rw [e]
  exact run_litV hel.el vs h1 (Nat.le_of_ble_eq_true h0) (Nat.le_of_ble_eq_true hs) w
/-- a literal's block, as an own slice -/
theorem Mem.toRow {w : World} {i g m size : Nat} {cs : Array Value} {e : TypeId} (h : Mem W L w) (hi : L[i]? = some (blkO g cs e)) (hc : cs.size = m * size) (hm : m ≤ 140737488355328) : Mem W (L.set i (rowO e size (.slice (some ⟨g, 0, none⟩) m m) m cs.toList)) w :=
  h.turn hi ⟨rfl, rfl, rfl, Nat.le_refl _, fun _ _ _ => rfl⟩ ⟨by simp [hc], .inr ⟨g, m, cs, rfl, Nat.zero_le _, h.get hi, Nat.le_refl _, by unfold maxLen; omega, hc, by rw [List.take_of_length_le (by simp [hc])]⟩⟩ fun k hk => .inl hk
theorem TL_toRow {i g m : Nat} {cs : Array Value} {e : TypeId} (size : Nat) (hi : L[i]? = some (blkO g cs e)) (hc : cs.size = m * size) (hm : m ≤ 140737488355328) (h : TL P n W ops Q rest fr (L.set i (rowO e size (.slice (some ⟨g, 0, none⟩) m m) m cs.toList))) : TL P n W ops Q rest fr L :=
  ⟨fun a w hr hmm => h.go a w hr (hmm.toRow hi hc hm)⟩
/-- 'append(b, s...)' of a text onto own bytes -/
theorem run_append_str {t u ty e : TypeId} (hel : El P t e 1 1) (hu : P.underlying u = some .string) (w : World) {v : Value} {m : Nat} {xs : List Value} (hown : w.ownsRow 0 e 1 v m xs) (l : List UInt8) (hb : m + l.length ≤ 140737488355328) :
    ∃ v' w', (Builtin.append_ #[t, u] ty #[v, str l]).run P w = .ok v' w' ∧ w'.ownsRow 0 e 1 v' (m + l.length) (xs ++ l.map u8v) ∧ w.grownBy w' v.ownBlock ∧ (∀ q, v'.ownBlock = some q → v.ownBlock = some q ∨ w.heap.size ≤ q) := by
  obtain ⟨i, z, ht, hi, hz, hsize, hby, hzs, _⟩ := hel.ex
  have hlen : (ByteArray.mk l.toArray).size = l.length := List.size_toArray
  have hcells : ((ByteArray.mk l.toArray).extract 0 l.length).data.map (fun b => Value.int .u8 b.toNat) = (l.map u8v).toArray := by
    have e1 : (ByteArray.mk l.toArray).extract 0 l.length = ⟨l.toArray⟩ := by apply ByteArray.ext; simp [ByteArray.data_extract]
    rw [e1]; simp [u8v]
  have hfc : ∀ w, (Builtin.firstCells 1 l.length (str l)).run P w = .ok (l.map u8v).toArray w := fun w => by
    simp only [str, Builtin.firstCells, Sem.run_pure, hcells]
  have htk : List.take l.length (List.map (fun b : UInt8 => Value.int IntKind.u8 (b.toNat : Int)) l) = l.map u8v := by rw [List.take_of_length_le (by simp)]; rfl
  have h1 : ∀ x ∈ l.map u8v, x.oneCell' = true := fun x hx => by obtain ⟨b, _, rfl⟩ := List.mem_map.1 hx; rfl
  have hxl : xs.length = m := by have := hown.1; omega
  have grown : ∀ (old : Nat), old < m + l.length → ∀ (row : Option Nat),
      (w.drew.alloc (.cells (xs.toArray ++ (l.map u8v).toArray ++ Builtin.zeroCells z.cells (grownCap w (m + l.length) old e - (m + l.length))) e)).ownsRow 0 e 1
        (.slice (some ⟨w.heap.size, 0, none⟩) (m + l.length) (grownCap w (m + l.length) old e)) (m + l.length) (xs ++ l.map u8v) ∧
      w.grownBy (w.drew.alloc (.cells (xs.toArray ++ (l.map u8v).toArray ++ Builtin.zeroCells z.cells (grownCap w (m + l.length) old e - (m + l.length))) e)) row := by
    intro old ho row
    have hge := grownCap_ge w (m + l.length) old e
    have hcm : grownCap w (m + l.length) old e ≤ maxLen := grownCap_le_maxLen w (m + l.length) old e (by unfold maxLen; omega)
    refine ⟨⟨by simp [hxl], .inr ⟨w.heap.size, _, _, rfl, Nat.zero_le _, heap_alloc_new w.drew _, hge, hcm, ?_, ?_⟩⟩, ⟨rfl, rfl, rfl, by simp, fun k hk _ => Below.heap_alloc w.drew _ k hk⟩⟩
    · simp only [Array.size_append, List.size_toArray, size_zeroCells, hzs, List.length_map, hxl]; omega
    · simp only [Array.toList_append, List.append_assoc]
      rw [← List.append_assoc, Nat.mul_one]
      have : m + l.length = (xs ++ l.map u8v).length := by simp [hxl]
      rw [this]; exact List.take_left
  have h63 : ¬ (9223372036854775807 < ((m : Int) + (l.length : Int))) := by omega
  rcases hown.2 with ⟨rfl, rfl⟩ | ⟨g, cap, cur, rfl, hbg, hg, hnc, hcm, hcs, htake⟩
  · have hx : xs = [] := List.eq_nil_of_length_eq_zero hxl
    subst hx
    by_cases hl0 : l.length = 0
    · have hl : l = [] := List.eq_nil_of_length_eq_zero hl0
      subst hl
      refine ⟨.slice none 0 0, w, ?_, World.ownsRow_nil w 0 e 1, ⟨rfl, rfl, rfl, Nat.le_refl _, fun _ _ _ => rfl⟩, by simp [Value.ownBlock]⟩
      have hz0 : (ByteArray.mk (#[] : Array UInt8)).size = 0 := rfl
      simp [Builtin.append_, run_underlying ht, run_underlying hu, sizeOf, typeInfo, hi, hsize, Builtin.lenOf, str, Builtin.firstCells, hz0]
    · have h48 : ¬ (281474976710656 < Builtin.nextslicecap l.length 0 * i.bytes) := by rw [nextslicecap_zero (by omega), hby]; omega
      have hgr := grown 0 (by omega) (Value.ownBlock (.slice none 0 0))
      simp only [Nat.zero_add, List.nil_append] at hgr
      refine ⟨_, _, ?_, by simpa using hgr.1, hgr.2, fun q hq => .inr (by simp only [Value.ownBlock, Option.some.injEq] at hq; omega)⟩
      have hfc' := hfc w.drew
      unfold str at hfc' ⊢
      have h63' : ¬ (9223372036854775807 < (l.length : Int)) := by omega
      have h48n : Builtin.nextslicecap l.length 0 * i.bytes ≤ 281474976710656 := by omega
      simp [Builtin.append_, run_underlying ht, run_underlying hu, sizeOf, typeInfo, zeroValue, hi, hz, hsize, Builtin.lenOf, hlen, hl0, h63', h48, Question.forced, hfc', newRow, grownCap, Builtin.firstCells, htk]
  · have hst := run_storeCells_at P g m e (l.map u8v) 0 cur w hg
    by_cases hroom : m + l.length ≤ cap
    · have hst := hst (by simp; omega) h1
      simp only [Nat.add_zero, List.length_map] at hst
      refine ⟨_, w.setRow g (cur.toList.take m ++ l.map u8v ++ cur.toList.drop (m + l.length)).toArray, ?_, ⟨by simp [hxl], .inr ⟨g, cap, _, rfl, hbg, setRow_heap w g cur _ e _ hg, hroom, hcm, ?_, ?_⟩⟩, ⟨rfl, rfl, rfl, by simp, fun k _ hk => setRow_other w g k _ (fun e => hk (by simp [Value.ownBlock, e]))⟩, fun q hq => .inl hq⟩
      · have hfc' := hfc w
        unfold str at hfc' ⊢
        simp [Builtin.append_, run_underlying ht, run_underlying hu, sizeOf, typeInfo, hi, hsize, Builtin.lenOf, hlen, hroom, hfc', addr_add, hst, htk]
      · simp; omega
      · rw [Nat.mul_one] at htake
        rw [htake, Nat.mul_one]
        have : m + l.length = (xs ++ l.map u8v).length := by simp [hxl]
        rw [this]; exact List.take_left
    · have holds : ∀ j u, xs[j]? = some u → w.drew.cell? ((⟨g, 0, none⟩ : Addr).add j) = some u := fun j u hj => by
        have := hown.cells (g := g) rfl j u hj
        simpa using this
      have hfo := run_firstCells_some (P := P) w.drew 1 m ⟨g, 0, none⟩ m cap xs (by omega) holds
      have hgr := grown cap (by omega) (Value.ownBlock (.slice (some ⟨g, 0, none⟩) m cap))
      have h48 : ¬ (281474976710656 < Builtin.nextslicecap (m + l.length) cap * i.bytes) := by have := growslice_fits (bytes := 1) (show cap < m + l.length by omega) (by omega); rw [hby]; omega
      refine ⟨_, _, ?_, hgr.1, hgr.2, fun q hq => .inr (by simp only [Value.ownBlock, Option.some.injEq] at hq; omega)⟩
      have hfc' := hfc w.drew
      unfold str at hfc' ⊢
      simp [Builtin.append_, run_underlying ht, run_underlying hu, sizeOf, typeInfo, zeroValue, hi, hz, hsize, Builtin.lenOf, hlen, hroom, h63, h48, Question.forced, hfc', hfo, newRow, grownCap, htk]
      congr 2
      apply Array.ext'
      simp
theorem TL_appstr {t u e : TypeId} {s x : Operand} {i m : Nat} {v : Value} {xs : List Value} {l : List UInt8} [hel : ElC P t e 1 1] [hu : Und P u .string] (hi : L[i]? = some (rowO e 1 v m xs)) (hs : ev fr s = some v) (hx : ev fr x = some (str l)) (hb : m + l.length ≤ 140737488355328) (hn : Nat.blt d n = true)
    (h : ∀ v', TL P n W ops Q rest ((d, v') :: fr) (L.set i (rowO e 1 v' (m + l.length) (xs ++ l.map u8v)))) :
    TL P n W ops Q (⟨some d, .call { callee := .builtin .append, args := #[s, x], argTypes := #[t, u] }, ty, pos, after, none⟩ :: rest) fr L := TL_any rfl fun act w hr hm K hK => by
  obtain ⟨v', w', hrun, h2, h3, h4⟩ := run_append_str (ty := ty) hel.el hu.eq w (hm.get hi : w.ownsRow 0 e 1 v m xs) l hb
  have e' : (execOp act.eval ⟨some d, .call { callee := .builtin .append, args := #[s, x], argTypes := #[t, u] }, ty, pos, after, none⟩).run P w = .ok (.value v') w' := by
    simp only [BigFrame.execOp_builtin, BigFrame.builtin_append, List.map_toArray, List.map_cons, List.map_nil, hr.ev hs, hr.ev hx, Sem.run_bind, hrun, Result.andThen_ok, Sem.run_pure]
  unfold Oper.wp; rw [e']
  exact hK _ _ ((h v').go _ _ (hr.put hn _) (hm.turn hi h3 h2 h4))
/-- a whole block is stored anew -/
theorem TL_storeB {t : TypeId} {p x : Operand} {i g c : Nat} {cs cs' : Array Value} {T : TypeId} {agg : Bool} [hT : TyC P t agg c] (hi : L[i]? = some (blkO g cs T)) (hp : ev fr p = some (.pointer (some ⟨g, 0, none⟩))) (hx : ev fr x = some (.agg cs')) (hv : cs'.size = c) (h1 : cs'.toList.all Value.oneCell' = true)
    (hc : cs.size = c) (h : TL P n W ops Q rest fr (L.set i (blkO g cs' T))) :
    TL P n W ops Q (⟨none, .store t p x, ty, pos, after, none⟩ :: rest) fr L :=
  TL_store hT.ty hi hp hx hv h1 (by omega) (by
    show cs' = (cs.toList.take 0 ++ cs'.toList ++ cs.toList.drop (0 + c)).toArray
    rw [List.drop_of_length_le (by simp [hc])]; simp) h
/-- one cell of a block -/
theorem TL_store1 {t : TypeId} {p x : Operand} {i g off : Nat} {cs : Array Value} {T : TypeId} {agg : Bool} {v : Value} [hT : TyC P t agg 1] (hi : L[i]? = some (blkO g cs T)) (hp : ev fr p = some (.pointer (some ⟨g, off, none⟩))) (hx : ev fr x = some v) (hv : v.cells = #[v]) (h1 : v.oneCell' = true)
    (hc : Nat.blt off cs.size = true) (h : TL P n W ops Q rest fr (L.set i (blkO g (cs.setIfInBounds off v) T))) :
    TL P n W ops Q (⟨none, .store t p x, ty, pos, after, none⟩ :: rest) fr L := by
  have hlt : off < cs.size := Nat.le_of_ble_eq_true hc
  refine TL_store hT.ty hi hp hx (by rw [hv]; rfl) (by rw [hv]; simp [h1]) (by omega) ?_ h
  rw [hv]
  apply Array.ext'
  simp only [Array.toList_setIfInBounds]
  rw [List.set_eq_take_append_cons_drop, if_pos (by simpa using hlt)]; simp
/-- structs held against each other -/
theorem rr_aggeq {t u : TypeId} {x y : Operand} {xs ys : Array Value} {b : Bool} (hx : ev fr x = some (.agg xs)) (hy : ev fr y = some (.agg ys)) (hg : P.eqGuardType P.depth t = false) (h : ∀ w, (Op.equalIn 10000 t (.agg xs) (.agg ys)).run P w = .ok b w) : RR P n W ⟨dst, .binOp .eql t x y u, ty, pos, after, guard⟩ fr L (.bool b) := .mk fun a w hr _ => by
  simp only [execOp, hr.ev hx, hr.ev hy, Sem.run_bind, run_eqGuard_agg w .eql t x y xs ys hg, Result.andThen_ok, run_eql_struct, h w]; rfl
theorem rr_aggne {t u : TypeId} {x y : Operand} {xs ys : Array Value} {b c : Bool} (hx : ev fr x = some (.agg xs)) (hy : ev fr y = some (.agg ys)) (hg : P.eqGuardType P.depth t = false) (h : ∀ w, (Op.equalIn 10000 t (.agg xs) (.agg ys)).run P w = .ok b w) (hc : (!b) = c) : RR P n W ⟨dst, .binOp .neq t x y u, ty, pos, after, guard⟩ fr L (.bool c) := .mk fun a w hr _ => by
  subst hc
  simp only [execOp, hr.ev hx, hr.ev hy, Sem.run_bind, run_eqGuard_agg w .neq t x y xs ys hg, Result.andThen_ok, run_neq_struct, h w]; rfl
/-- results, the first of which lies in memory -/
theorem E_retc2 {fn : Func} {R : Ending → World → Prop} {t u : Tmp} {T : TypeId} {i g c : Nat} {cs : Array Value} {T' : TypeId} {z : Value} [hT : TyC P T true c] (hres : fn.results = #[.cell t T, .tmp u]) (hp : look fr t = some (.pointer (some ⟨g, 0, none⟩))) (hi : L[i]? = some (blkO g cs T')) (hc : cs.size = c) (hz : look fr u = some z)
    (h : ∀ w, Mem W L w → R (.returned (.tuple #[.agg cs, z])) w) : E n W .ret (bodyPost P fn R) fr L :=
  E_ret fun a w hr hmm => ⟨_, by
    have hload := run_loadCells_list (P := P) w ⟨g, 0, none⟩ cs.toList fun j v hj => by rw [addr_add, Nat.zero_add]; exact at_blk hi (by simpa using hj) w hmm
    have hl : (loadCells ⟨g, 0, none⟩ c).run P w = .ok cs w := by rw [← hc]; simpa using hload
    have hv : (loadVar T ⟨g, 0, none⟩).run P w = .ok (.agg cs) w := by simp [loadVar, hT.ty.agg, hT.ty.size, hl]
    simp [results, hres, Array.getD_eq_getD_getElem?, hr.get t _ hp, hr.get u z hz, asAddr, hv], h w hmm⟩
theorem E_retc3 {fn : Func} {R : Ending → World → Prop} {t u s : Tmp} {T : TypeId} {i g c : Nat} {cs : Array Value} {T' : TypeId} {z y : Value} [hT : TyC P T true c] (hres : fn.results = #[.cell t T, .tmp u, .tmp s]) (hp : look fr t = some (.pointer (some ⟨g, 0, none⟩))) (hi : L[i]? = some (blkO g cs T')) (hc : cs.size = c) (hz : look fr u = some z) (hy : look fr s = some y)
    (h : ∀ w, Mem W L w → R (.returned (.tuple #[.agg cs, z, y])) w) : E n W .ret (bodyPost P fn R) fr L :=
  E_ret fun a w hr hmm => ⟨_, by
    have hload := run_loadCells_list (P := P) w ⟨g, 0, none⟩ cs.toList fun j v hj => by rw [addr_add, Nat.zero_add]; exact at_blk hi (by simpa using hj) w hmm
    have hl : (loadCells ⟨g, 0, none⟩ c).run P w = .ok cs w := by rw [← hc]; simpa using hload
    have hv : (loadVar T ⟨g, 0, none⟩).run P w = .ok (.agg cs) w := by simp [loadVar, hT.ty.agg, hT.ty.size, hl]
    simp [results, hres, Array.getD_eq_getD_getElem?, hr.get t _ hp, hr.get u z hz, hr.get s y hy, asAddr, hv], h w hmm⟩
theorem E_retc1 {fn : Func} {R : Ending → World → Prop} {t : Tmp} {T : TypeId} {i g c : Nat} {cs : Array Value} {T' : TypeId} [hT : TyC P T true c] (hres : fn.results = #[.cell t T]) (hp : look fr t = some (.pointer (some ⟨g, 0, none⟩))) (hi : L[i]? = some (blkO g cs T')) (hc : cs.size = c)
    (h : ∀ w, Mem W L w → R (.returned (.agg cs)) w) : E n W .ret (bodyPost P fn R) fr L :=
  E_ret fun a w hr hmm => ⟨_, by
    have hload := run_loadCells_list (P := P) w ⟨g, 0, none⟩ cs.toList fun j v hj => by rw [addr_add, Nat.zero_add]; exact at_blk hi (by simpa using hj) w hmm
    have hl : (loadCells ⟨g, 0, none⟩ c).run P w = .ok cs w := by rw [← hc]; simpa using hload
    have hv : (loadVar T ⟨g, 0, none⟩).run P w = .ok (.agg cs) w := by simp [loadVar, hT.ty.agg, hT.ty.size, hl]
    simp [results, hres, Array.getD_eq_getD_getElem?, hr.get t _ hp, asAddr, hv], h w hmm⟩
end
end Go.Proofs.Ytnicebdkejkieaa.eng

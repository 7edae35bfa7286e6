/- Part 2 of what ItemsWalk needs: Opx, MixV, Seq, MixW, Room, Shp, GramL, Sym, GramI, SymS, Gram, FactsL, FactsA, FactsB, FactsC, FactsM. -/
import Derived.Test.YtmcclhddjielnaaMgA
import Derived.WalkKit
import Derived.WalkSpells
import Derived.WalkLawsBesides
import Derived.Deep.RegionLaw
import Derived.Deep.AppendLies
import Derived.Deep.QuietTactic
import Derived.BigQuiet
import Derived.Deep.DeepCutAuto
import Derived.Lib.Hide
import Derived.Test.YtmcclhddjielnaaRows
import Derived.ProofKit
import Derived.OpenShut
import Derived.ShutString
import Derived.SizedLaws
import Derived.JoinedCond
import Derived.Deep.CondSized
import Derived.Deep.Quiet
import Derived.StillTail
import Derived.Deep.LoopGhost
import Derived.Laws.BitsLemmas
import Derived.Laws.BytesString
import Derived.Test.YtmcclhddjielnaaProg
import Derived.Laws.StructEq
import Derived.Laws.MakeOwn
import Derived.Laws.AppendOwn
import Derived.Laws.Entries
/- Opx -/
namespace Go.Proofs.Ytmcclhddjielnaa.eng
open Go.RowKit kit mix
section
variable {P : Program} {n : Nat} {W : Base} {fr : Fr} {L : List Own} {Q : Exit → Act → World → Prop} {ops : Array Oper} {rest : List Oper} {d : Nat} {dst : Option Tmp} {ty : TypeId} {pos : String} {after : Array Edge} {guard : Option (Nat × Bool)}
def partsEv (fr : Fr) : List (Nat × Operand) → Option (List (Nat × Value))
  | [] => some []
  | (i, x) :: r => match ev fr x, partsEv fr r with | some v, some l => some ((i, v) :: l) | _, _ => none
theorem partsEv_of {a : Act} (hr : Rep n a fr) : ∀ (l : List (Nat × Operand)) (vs : List (Nat × Value)), partsEv fr l = some vs → l.map (fun (i, x) => (i, a.eval x)) = vs
  | [], vs, h => by simp only [partsEv, Option.some.injEq] at h; subst h; rfl
  | (i, x) :: r, vs, h => by
    simp only [partsEv] at h
    split at h
    · rename_i v l h1 h2
      simp only [Option.some.injEq] at h; subst h
      simp [hr.ev h1, partsEv_of hr r l h2]
    · cases h
theorem rr_build {t : TypeId} {parts : Array (Nat × Operand)} {ps : List (Nat × Value)} {cs : Array Value} (hp : partsEv fr parts.toList = some ps) (hrun : ∀ w, (Instr.build t ps.toArray).run P w = .ok (.agg cs) w) : RR P n W ⟨dst, .build t parts, ty, pos, after, guard⟩ fr L (.agg cs) := .mk fun a w hr _ => by
  have e : (parts.map fun (i, x) => (i, a.eval x)) = ps.toArray := by
    rw [← partsEv_of hr _ _ hp, ← Array.toList_map, Array.toArray_toList]
  simp only [execOp, Sem.run_bind]
  rw [e, hrun w]; rfl
/-- a literal's cells, one an element -/
theorem fill_seq (c0 : Nat → Option (Nat × Nat)) (hc0 : ∀ i, c0 i = some (i, 1)) : ∀ (vs : List Value) (k : Nat) (acc : Array Value), k + vs.length ≤ acc.size → (∀ v ∈ vs, v.cells = #[v]) → Instr.fill c0 acc ((vs.zipIdx k).map fun (v, i) => (i, v)) = some (acc.toList.take k ++ vs ++ acc.toList.drop (k + vs.length)).toArray
  | [], k, acc, h, _ => by simp [Instr.fill]
  | v :: vs, k, acc, h, h1 => by
    simp only [List.length_cons] at h
    have hv := h1 v (by simp)
    rw [List.zipIdx_cons, List.map_cons]
    simp only [Instr.fill, hc0, hv]
    rw [if_neg (by simp; omega)]
    have e : ((#[v] : Array Value).zipIdx.foldl (fun cs (x : Value × Nat) => cs.setIfInBounds (k + x.2) x.1) acc) = acc.setIfInBounds k v := by simp
    rw [e, fill_seq c0 hc0 vs (k + 1) _ (by simp; omega) (fun u hu => h1 u (by simp [hu]))]
    congr 2
    have hA : (acc.toList.take k).length = k := by simp; omega
    have hA1 : (acc.toList.take k ++ [v]).length = k + 1 := by rw [List.length_append, hA]; rfl
    have e2 : acc.toList.set k v = (acc.toList.take k ++ [v]) ++ acc.toList.drop (k + 1) := by
      rw [List.set_eq_take_append_cons_drop, if_pos (by simp; omega)]; simp
    simp only [Array.toList_setIfInBounds, List.length_cons]
    rw [e2, List.take_left' hA1, ← List.drop_drop, List.drop_left' hA1, List.drop_drop]
    simp only [List.append_assoc, List.singleton_append, List.cons_append, List.nil_append]
    rw [show k + 1 + vs.length = k + (vs.length + 1) by omega]
theorem run_litV {t e : TypeId} {bytes : Nat} (hel : El P t e 1 bytes) (vs : List Value) (h1 : ∀ v ∈ vs, v.cells = #[v]) (h0 : 0 < vs.length) (hm : vs.length ≤ 16777216) (w : World) :
    (Instr.buildSlice t vs.length (vs.zipIdx.map fun (v, i) => (i, v)).toArray).run P w = .ok (.slice (some ⟨w.heap.size, 0, none⟩) vs.length vs.length) (w.alloc (.cells vs.toArray e)) := by
  obtain ⟨i, z, ht, hi, hz, hc, _, hzc, _⟩ := hel.ex
  have hfill := fill_seq (fun i => some (i * 1, 1)) (by simp) vs 0 ((Array.range (vs.length * 1)).map (z.cells[· % z.cells.size]!)) (by simp) h1
  simp only [List.take_zero, List.nil_append, Nat.zero_add] at hfill
  rw [List.drop_of_length_le (by simp)] at hfill
  simp only [List.append_nil] at hfill
  have hne : ¬ (vs.length * 1 > 2 ^ 24) := by omega
  have hne2 : ¬ (vs.length * 1 = 0) := by omega
  simp only [Instr.buildSlice, Sem.run_bind, run_underlying ht, Result.andThen_ok, sizeOf, typeInfo, run_program, hi, Sem.run_pure, hc, zeroValue, hz, if_neg hne, if_neg hne2]
  simp only [hfill, newRow]
  simp
theorem TL_litV {t e : TypeId} {bytes m : Nat} {parts : Array (Nat × Operand)} (vs : List Value) [hel : ElC P t e 1 bytes] (hp : partsEv fr parts.toList = some (vs.zipIdx.map fun (v, i) => (i, v))) (hm : vs.length = m) (h0 : Nat.blt 0 m = true) (h1 : ∀ v ∈ vs, v.cells = #[v]) (hs : Nat.ble m 16777216 = true) (hn : Nat.blt d n = true)
    (h : ∀ g, TL P n W ops Q rest ((d, .slice (some ⟨g, 0, none⟩) m m) :: fr) (L ++ [blkO g vs.toArray e])) : TL P n W ops Q (⟨some d, .buildSlice t m parts, ty, pos, after, none⟩ :: rest) fr L := by
  subst hm
  refine TL_lit (fun a w hr => ?_) hn h
  have e : (parts.map fun (i, x) => (i, a.eval x)) = (vs.zipIdx.map fun (v, i) => (i, v)).toArray := by
    rw [← partsEv_of hr _ _ hp, ← Array.toList_map, Array.toArray_toList]
  rw [e]
  exact run_litV hel.el vs h1 (Nat.le_of_ble_eq_true h0) (Nat.le_of_ble_eq_true hs) w
/-- a literal's block, as an own slice -/
theorem Mem.toRow {w : World} {i g m size : Nat} {cs : Array Value} {e : TypeId} (h : Mem W L w) (hi : L[i]? = some (blkO g cs e)) (hc : cs.size = m * size) (hm : m ≤ 140737488355328) : Mem W (L.set i (rowO e size (.slice (some ⟨g, 0, none⟩) m m) m cs.toList)) w :=
  h.turn hi ⟨rfl, rfl, rfl, Nat.le_refl _, fun _ _ _ => rfl⟩ ⟨by simp [hc], .inr ⟨g, m, cs, rfl, Nat.zero_le _, h.get hi, Nat.le_refl _, by unfold maxLen; omega, hc, by rw [List.take_of_length_le (by simp [hc])]⟩⟩ fun k hk => .inl hk
theorem TL_toRow {i g m : Nat} {cs : Array Value} {e : TypeId} (size : Nat) (hi : L[i]? = some (blkO g cs e)) (hc : cs.size = m * size) (hm : m ≤ 140737488355328) (h : TL P n W ops Q rest fr (L.set i (rowO e size (.slice (some ⟨g, 0, none⟩) m m) m cs.toList))) : TL P n W ops Q rest fr L :=
  ⟨fun a w hr hmm => h.go a w hr (hmm.toRow hi hc hm)⟩
/-- 'append(b, s...)' of a text onto own bytes -/
theorem run_append_str {t u ty e : TypeId} (hel : El P t e 1 1) (hu : P.underlying u = some .string) (w : World) {v : Value} {m : Nat} {xs : List Value} (hown : w.ownsRow 0 e 1 v m xs) (l : List UInt8) (hb : m + l.length ≤ 140737488355328) :
    ∃ v' w', (Builtin.append_ #[t, u] ty #[v, str l]).run P w = .ok v' w' ∧ w'.ownsRow 0 e 1 v' (m + l.length) (xs ++ l.map u8v) ∧ w.grownBy w' v.ownBlock ∧ (∀ q, v'.ownBlock = some q → v.ownBlock = some q ∨ w.heap.size ≤ q) := by
  obtain ⟨i, z, ht, hi, hz, hsize, hby, hzs, _⟩ := hel.ex
  have hlen : (ByteArray.mk l.toArray).size = l.length := List.size_toArray
  have hcells : ((ByteArray.mk l.toArray).extract 0 l.length).data.map (fun b => Value.int .u8 b.toNat) = (l.map u8v).toArray := by
    have e1 : (ByteArray.mk l.toArray).extract 0 l.length = ⟨l.toArray⟩ := by apply ByteArray.ext; simp [ByteArray.data_extract]
    rw [e1]; simp [u8v]
  have hfc : ∀ w, (Builtin.firstCells 1 l.length (str l)).run P w = .ok (l.map u8v).toArray w := fun w => by
    simp only [str, Builtin.firstCells, Sem.run_pure, hcells]
  have htk : List.take l.length (List.map (fun b : UInt8 => Value.int IntKind.u8 (b.toNat : Int)) l) = l.map u8v := by rw [List.take_of_length_le (by simp)]; rfl
  have h1 : ∀ x ∈ l.map u8v, x.oneCell' = true := fun x hx => by obtain ⟨b, _, rfl⟩ := List.mem_map.1 hx; rfl
  have hxl : xs.length = m := by have := hown.1; omega
  have grown : ∀ (old : Nat), old < m + l.length → ∀ (row : Option Nat),
      (w.drew.alloc (.cells (xs.toArray ++ (l.map u8v).toArray ++ Builtin.zeroCells z.cells (grownCap w (m + l.length) old e - (m + l.length))) e)).ownsRow 0 e 1
        (.slice (some ⟨w.heap.size, 0, none⟩) (m + l.length) (grownCap w (m + l.length) old e)) (m + l.length) (xs ++ l.map u8v) ∧
      w.grownBy (w.drew.alloc (.cells (xs.toArray ++ (l.map u8v).toArray ++ Builtin.zeroCells z.cells (grownCap w (m + l.length) old e - (m + l.length))) e)) row := by
    intro old ho row
    have hge := grownCap_ge w (m + l.length) old e
    have hcm : grownCap w (m + l.length) old e ≤ maxLen := grownCap_le_maxLen w (m + l.length) old e (by unfold maxLen; omega)
    refine ⟨⟨by simp [hxl], .inr ⟨w.heap.size, _, _, rfl, Nat.zero_le _, heap_alloc_new w.drew _, hge, hcm, ?_, ?_⟩⟩, ⟨rfl, rfl, rfl, by simp, fun k hk _ => Below.heap_alloc w.drew _ k hk⟩⟩
    · simp only [Array.size_append, List.size_toArray, size_zeroCells, hzs, List.length_map, hxl]; omega
    · simp only [Array.toList_append, List.append_assoc]
      rw [← List.append_assoc, Nat.mul_one]
      have : m + l.length = (xs ++ l.map u8v).length := by simp [hxl]
      rw [this]; exact List.take_left
  have h63 : ¬ (9223372036854775807 < ((m : Int) + (l.length : Int))) := by omega
  rcases hown.2 with ⟨rfl, rfl⟩ | ⟨g, cap, cur, rfl, hbg, hg, hnc, hcm, hcs, htake⟩
  · have hx : xs = [] := List.eq_nil_of_length_eq_zero hxl
    subst hx
    by_cases hl0 : l.length = 0
    · have hl : l = [] := List.eq_nil_of_length_eq_zero hl0
      subst hl
      refine ⟨.slice none 0 0, w, ?_, World.ownsRow_nil w 0 e 1, ⟨rfl, rfl, rfl, Nat.le_refl _, fun _ _ _ => rfl⟩, by simp [Value.ownBlock]⟩
      have hz0 : (ByteArray.mk (#[] : Array UInt8)).size = 0 := rfl
      simp [Builtin.append_, run_underlying ht, run_underlying hu, sizeOf, typeInfo, hi, hsize, Builtin.lenOf, str, Builtin.firstCells, hz0]
    · have h48 : ¬ (281474976710656 < Builtin.nextslicecap l.length 0 * i.bytes) := by rw [nextslicecap_zero (by omega), hby]; omega
      have hgr := grown 0 (by omega) (Value.ownBlock (.slice none 0 0))
      simp only [Nat.zero_add, List.nil_append] at hgr
      refine ⟨_, _, ?_, by simpa using hgr.1, hgr.2, fun q hq => .inr (by simp only [Value.ownBlock, Option.some.injEq] at hq; omega)⟩
      have hfc' := hfc w.drew
      unfold str at hfc' ⊢
      have h63' : ¬ (9223372036854775807 < (l.length : Int)) := by omega
      have h48n : Builtin.nextslicecap l.length 0 * i.bytes ≤ 281474976710656 := by omega
      simp [Builtin.append_, run_underlying ht, run_underlying hu, sizeOf, typeInfo, zeroValue, hi, hz, hsize, Builtin.lenOf, hlen, hl0, h63', h48, Question.forced, hfc', newRow, grownCap, Builtin.firstCells, htk]
  · have hst := run_storeCells_at P g m e (l.map u8v) 0 cur w hg
    by_cases hroom : m + l.length ≤ cap
    · have hst := hst (by simp; omega) h1
      simp only [Nat.add_zero, List.length_map] at hst
      refine ⟨_, w.setRow g (cur.toList.take m ++ l.map u8v ++ cur.toList.drop (m + l.length)).toArray, ?_, ⟨by simp [hxl], .inr ⟨g, cap, _, rfl, hbg, setRow_heap w g cur _ e _ hg, hroom, hcm, ?_, ?_⟩⟩, ⟨rfl, rfl, rfl, by simp, fun k _ hk => setRow_other w g k _ (fun e => hk (by simp [Value.ownBlock, e]))⟩, fun q hq => .inl hq⟩
      · have hfc' := hfc w
        unfold str at hfc' ⊢
        simp [Builtin.append_, run_underlying ht, run_underlying hu, sizeOf, typeInfo, hi, hsize, Builtin.lenOf, hlen, hroom, hfc', addr_add, hst, htk]
      · simp; omega
      · rw [Nat.mul_one] at htake
        rw [htake, Nat.mul_one]
        have : m + l.length = (xs ++ l.map u8v).length := by simp [hxl]
        rw [this]; exact List.take_left
    · have holds : ∀ j u, xs[j]? = some u → w.drew.cell? ((⟨g, 0, none⟩ : Addr).add j) = some u := fun j u hj => by
        have := hown.cells (g := g) rfl j u hj
        simpa using this
      have hfo := run_firstCells_some (P := P) w.drew 1 m ⟨g, 0, none⟩ m cap xs (by omega) holds
      have hgr := grown cap (by omega) (Value.ownBlock (.slice (some ⟨g, 0, none⟩) m cap))
      have h48 : ¬ (281474976710656 < Builtin.nextslicecap (m + l.length) cap * i.bytes) := by have := growslice_fits (bytes := 1) (show cap < m + l.length by omega) (by omega); rw [hby]; omega
      refine ⟨_, _, ?_, hgr.1, hgr.2, fun q hq => .inr (by simp only [Value.ownBlock, Option.some.injEq] at hq; omega)⟩
      have hfc' := hfc w.drew
      unfold str at hfc' ⊢
      simp [Builtin.append_, run_underlying ht, run_underlying hu, sizeOf, typeInfo, zeroValue, hi, hz, hsize, Builtin.lenOf, hlen, hroom, h63, h48, Question.forced, hfc', hfo, newRow, grownCap, htk]
      congr 2
      apply Array.ext'
      simp
theorem TL_appstr {t u e : TypeId} {s x : Operand} {i m : Nat} {v : Value} {xs : List Value} {l : List UInt8} [hel : ElC P t e 1 1] [hu : Und P u .string] (hi : L[i]? = some (rowO e 1 v m xs)) (hs : ev fr s = some v) (hx : ev fr x = some (str l)) (hb : m + l.length ≤ 140737488355328) (hn : Nat.blt d n = true)
    (h : ∀ v', TL P n W ops Q rest ((d, v') :: fr) (L.set i (rowO e 1 v' (m + l.length) (xs ++ l.map u8v)))) :
    TL P n W ops Q (⟨some d, .call { callee := .builtin .append, args := #[s, x], argTypes := #[t, u] }, ty, pos, after, none⟩ :: rest) fr L := TL_any rfl fun act w hr hm K hK => by
  obtain ⟨v', w', hrun, h2, h3, h4⟩ := run_append_str (ty := ty) hel.el hu.eq w (hm.get hi : w.ownsRow 0 e 1 v m xs) l hb
  have e' : (execOp act.eval ⟨some d, .call { callee := .builtin .append, args := #[s, x], argTypes := #[t, u] }, ty, pos, after, none⟩).run P w = .ok (.value v') w' := by
    simp only [BigFrame.execOp_builtin, BigFrame.builtin_append, List.map_toArray, List.map_cons, List.map_nil, hr.ev hs, hr.ev hx, Sem.run_bind, hrun, Result.andThen_ok, Sem.run_pure]
  unfold Oper.wp; rw [e']
  exact hK _ _ ((h v').go _ _ (hr.put hn _) (hm.turn hi h3 h2 h4))
/-- a whole block is stored anew -/
theorem TL_storeB {t : TypeId} {p x : Operand} {i g c : Nat} {cs cs' : Array Value} {T : TypeId} {agg : Bool} [hT : TyC P t agg c] (hi : L[i]? = some (blkO g cs T)) (hp : ev fr p = some (.pointer (some ⟨g, 0, none⟩))) (hx : ev fr x = some (.agg cs')) (hv : cs'.size = c) (h1 : cs'.toList.all Value.oneCell' = true)
    (hc : cs.size = c) (h : TL P n W ops Q rest fr (L.set i (blkO g cs' T))) :
    TL P n W ops Q (⟨none, .store t p x, ty, pos, after, none⟩ :: rest) fr L :=
  TL_store hT.ty hi hp hx hv h1 (by omega) (by
    show cs' = (cs.toList.take 0 ++ cs'.toList ++ cs.toList.drop (0 + c)).toArray
    rw [List.drop_of_length_le (by simp [hc])]; simp) h
/-- one cell of a block -/
theorem TL_store1 {t : TypeId} {p x : Operand} {i g off : Nat} {cs : Array Value} {T : TypeId} {agg : Bool} {v : Value} [hT : TyC P t agg 1] (hi : L[i]? = some (blkO g cs T)) (hp : ev fr p = some (.pointer (some ⟨g, off, none⟩))) (hx : ev fr x = some v) (hv : v.cells = #[v]) (h1 : v.oneCell' = true)
    (hc : Nat.blt off cs.size = true) (h : TL P n W ops Q rest fr (L.set i (blkO g (cs.setIfInBounds off v) T))) :
    TL P n W ops Q (⟨none, .store t p x, ty, pos, after, none⟩ :: rest) fr L := by
  have hlt : off < cs.size := Nat.le_of_ble_eq_true hc
  refine TL_store hT.ty hi hp hx (by rw [hv]; rfl) (by rw [hv]; simp [h1]) (by omega) ?_ h
  rw [hv]
  apply Array.ext'
  simp only [Array.toList_setIfInBounds]
  rw [List.set_eq_take_append_cons_drop, if_pos (by simpa using hlt)]; simp
/-- structs held against each other -/
theorem rr_aggeq {t u : TypeId} {x y : Operand} {xs ys : Array Value} {b : Bool} (hx : ev fr x = some (.agg xs)) (hy : ev fr y = some (.agg ys)) (hg : P.eqGuardType P.depth t = false) (h : ∀ w, (Op.equalIn 10000 t (.agg xs) (.agg ys)).run P w = .ok b w) : RR P n W ⟨dst, .binOp .eql t x y u, ty, pos, after, guard⟩ fr L (.bool b) := .mk fun a w hr _ => by
  simp only [execOp, hr.ev hx, hr.ev hy, Sem.run_bind, run_eqGuard_agg w .eql t x y xs ys hg, Result.andThen_ok, run_eql_struct, h w]; rfl
theorem rr_aggne {t u : TypeId} {x y : Operand} {xs ys : Array Value} {b c : Bool} (hx : ev fr x = some (.agg xs)) (hy : ev fr y = some (.agg ys)) (hg : P.eqGuardType P.depth t = false) (h : ∀ w, (Op.equalIn 10000 t (.agg xs) (.agg ys)).run P w = .ok b w) (hc : (!b) = c) : RR P n W ⟨dst, .binOp .neq t x y u, ty, pos, after, guard⟩ fr L (.bool c) := .mk fun a w hr _ => by
  subst hc
  simp only [execOp, hr.ev hx, hr.ev hy, Sem.run_bind, run_eqGuard_agg w .neq t x y xs ys hg, Result.andThen_ok, run_neq_struct, h w]; rfl
/-- results, the first of which lies in memory -/
theorem E_retc2 {fn : Func} {R : Ending → World → Prop} {t u : Tmp} {T : TypeId} {i g c : Nat} {cs : Array Value} {T' : TypeId} {z : Value} [hT : TyC P T true c] (hres : fn.results = #[.cell t T, .tmp u]) (hp : look fr t = some (.pointer (some ⟨g, 0, none⟩))) (hi : L[i]? = some (blkO g cs T')) (hc : cs.size = c) (hz : look fr u = some z)
    (h : ∀ w, Mem W L w → R (.returned (.tuple #[.agg cs, z])) w) : E n W .ret (bodyPost P fn R) fr L :=
  E_ret fun a w hr hmm => ⟨_, by
    have hload := run_loadCells_list (P := P) w ⟨g, 0, none⟩ cs.toList fun j v hj => by rw [addr_add, Nat.zero_add]; exact at_blk hi (by simpa using hj) w hmm
    have hl : (loadCells ⟨g, 0, none⟩ c).run P w = .ok cs w := by rw [← hc]; simpa using hload
    have hv : (loadVar T ⟨g, 0, none⟩).run P w = .ok (.agg cs) w := by simp [loadVar, hT.ty.agg, hT.ty.size, hl]
    simp [results, hres, Array.getD_eq_getD_getElem?, hr.get t _ hp, hr.get u z hz, asAddr, hv], h w hmm⟩
theorem E_retc3 {fn : Func} {R : Ending → World → Prop} {t u s : Tmp} {T : TypeId} {i g c : Nat} {cs : Array Value} {T' : TypeId} {z y : Value} [hT : TyC P T true c] (hres : fn.results = #[.cell t T, .tmp u, .tmp s]) (hp : look fr t = some (.pointer (some ⟨g, 0, none⟩))) (hi : L[i]? = some (blkO g cs T')) (hc : cs.size = c) (hz : look fr u = some z) (hy : look fr s = some y)
    (h : ∀ w, Mem W L w → R (.returned (.tuple #[.agg cs, z, y])) w) : E n W .ret (bodyPost P fn R) fr L :=
  E_ret fun a w hr hmm => ⟨_, by
    have hload := run_loadCells_list (P := P) w ⟨g, 0, none⟩ cs.toList fun j v hj => by rw [addr_add, Nat.zero_add]; exact at_blk hi (by simpa using hj) w hmm
    have hl : (loadCells ⟨g, 0, none⟩ c).run P w = .ok cs w := by rw [← hc]; simpa using hload
    have hv : (loadVar T ⟨g, 0, none⟩).run P w = .ok (.agg cs) w := by simp [loadVar, hT.ty.agg, hT.ty.size, hl]
    simp [results, hres, Array.getD_eq_getD_getElem?, hr.get t _ hp, hr.get u z hz, hr.get s y hy, asAddr, hv], h w hmm⟩
theorem E_retc1 {fn : Func} {R : Ending → World → Prop} {t : Tmp} {T : TypeId} {i g c : Nat} {cs : Array Value} {T' : TypeId} [hT : TyC P T true c] (hres : fn.results = #[.cell t T]) (hp : look fr t = some (.pointer (some ⟨g, 0, none⟩))) (hi : L[i]? = some (blkO g cs T')) (hc : cs.size = c)
    (h : ∀ w, Mem W L w → R (.returned (.agg cs)) w) : E n W .ret (bodyPost P fn R) fr L :=
  E_ret fun a w hr hmm => ⟨_, by
    have hload := run_loadCells_list (P := P) w ⟨g, 0, none⟩ cs.toList fun j v hj => by rw [addr_add, Nat.zero_add]; exact at_blk hi (by simpa using hj) w hmm
    have hl : (loadCells ⟨g, 0, none⟩ c).run P w = .ok cs w := by rw [← hc]; simpa using hload
    have hv : (loadVar T ⟨g, 0, none⟩).run P w = .ok (.agg cs) w := by simp [loadVar, hT.ty.agg, hT.ty.size, hl]
    simp [results, hres, Array.getD_eq_getD_getElem?, hr.get t _ hp, asAddr, hv], h w hmm⟩
end
end Go.Proofs.Ytmcclhddjielnaa.eng

/- MixV -/
namespace Go.Proofs.Ytmcclhddjielnaa.eng
open Go.RowKit kit mix
section
variable {P : Program} {ops : Array Oper} {md : Region.Mode} {Q : Exit → Act → World → Prop} {U : World → Prop}
/-- one operation, in whatever form it is walked -/
theorem wpOp_of_list {K : Act → World → Prop} {i : Nat} {o : Oper} {a : Act} {w : World} (hi : ops[i]? = some o) (h : wpList P ops (Exit.then K Q) [o] a w) : wpOp P ops Q i K a w := by
  have key : ∀ r, o.upon P a (wpList P ops (Exit.then K Q) []) (Exit.then K Q) r → o.upon P a K Q r := fun r hr => by
    cases r with
    | ok x w' =>
      cases x <;> first
        | exact hr
        | (refine Calls.mono hr fun e w'' he => ?_; cases e <;> exact he)
        | exact Rows.mono hr fun v w'' he => he
    | halt x w' => cases x <;> exact hr
  unfold wpList at h
  unfold wpOp
  rw [hi]
  simp only
  split
  · rename_i hw
    rw [if_pos hw] at h
    rcases h with h | h
    · exact .inl (key _ h)
    · exact .inr h
  · rename_i hw
    rw [if_neg hw] at h
    exact h
def wpAnyV (P : Program) (md : Region.Mode) (ops : Array Oper) (Q : Exit → Act → World → Prop) (U : World → Prop) : Nat → Array Bool → Act → (World → Prop) → Prop
  | 0, listed, a, S => Region.ready md ops listed = [] ∧ ∀ w, S w → Q .normal a w
  | f + 1, listed, a, S => (Region.ready md ops listed = [] → ∀ w, S w → Q .normal a w) ∧
    ∀ i ∈ Region.ready md ops listed, ∀ w, S w → wpOp P ops Q i (fun a' w' => ∃ S', Closed S' ∧ (∀ x, S' x → U x) ∧ S' w' ∧ wpAnyV P md ops Q U f (listed.setIfInBounds i true) a' S') a w
theorem wpAny_of_V : ∀ (f : Nat) (listed : Array Bool) (a : Act) (S : World → Prop) (w : World), S w → wpAnyV P md ops Q U f listed a S → wpAny P md ops Q f listed a w
  | 0, _, _, _, w, hw, h => ⟨h.1, h.2 w hw⟩
  | f + 1, _, _, _, w, hw, h => ⟨fun h0 => h.1 h0 w hw, fun i hi => wpOp_mono (fun a' w' ⟨S', _, _, hw', h'⟩ => wpAny_of_V f _ a' S' w' hw' h') (h.2 i hi w hw)⟩
theorem wpAnyV_first {i : Nat} {oi : Oper} {v : Value} (hi : ops[i]? = some oi) (hsel : ∀ (j : Nat) (o : Oper) cs b, ops[j]? = some o → o.op ≠ .select cs b)
    (hQ : ∀ c a w, Q (.panic c) (a.put oi.dst v) w → Q (.panic c) a w) :
    ∀ (f : Nat) (listed : Array Bool) (a : Act) (S : World → Prop), Closed S → (∀ x, S x → U x) →
      (∀ j oj, ops[j]? = some oj → j ≠ i → listed.getD j true = false → (∀ e ∈ oj.after, Region.binds md e = true → e.on ≠ i) → oi.apart ops oj = true) →
      i ∈ Region.ready md ops listed → CalmIn P ops U oi v a →
      wpAnyV P md ops Q U f (listed.setIfInBounds i true) (a.put oi.dst v) S → wpAnyV P md ops Q U (f + 1) listed a S := by
  intro f
  induction f with
  | zero =>
    intro listed a S hcl hsu _ hr hy H
    refine ⟨fun h => (by rw [h] at hr; cases hr), fun j hj w hw => ?_⟩
    by_cases hji : j = i
    · subst hji; exact (hy.mono hsu).wpOp hi hcl hw fun w' hw' => ⟨S, hcl, hsu, hw', H⟩
    · have := ready_mono (md := md) hj hji
      rw [H.1] at this; cases this
  | succ f ih =>
    intro listed a S hcl hsu hfree hr hy H
    have hun := (mem_ready.1 hr).1
    refine ⟨fun h => (by rw [h] at hr; cases hr), fun j hj w hw => ?_⟩
    by_cases hji : j = i
    · subst hji; exact (hy.mono hsu).wpOp hi hcl hw fun w' hw' => ⟨S, hcl, hsu, hw', H⟩
    · have h1 := H.2 j (ready_mono hj hji) w hw
      obtain ⟨hjun, oj, hoj, hall⟩ := mem_ready.1 hj
      have hnot : ∀ e ∈ oj.after, Region.binds md e = true → e.on ≠ i := fun e he hb heq => by
        have h1 := hall e he hb
        rw [heq, getD_both hun] at h1
        cases h1
      have h2 := wpOp_calm hoj (hfree j oj hoj hji hjun hnot) (fun cs b => hsel i oi cs b hi) (fun cs b => hsel j oj cs b hoj) hQ hy h1
      have hfree' : ∀ k ok, ops[k]? = some ok → k ≠ i → (listed.setIfInBounds j true).getD k true = false →
          (∀ e ∈ ok.after, Region.binds md e = true → e.on ≠ i) → oi.apart ops ok = true := fun k ok hk hki hun hno => by
        refine hfree k ok hk hki ?_ hno
        by_cases hjk : j = k
        · subst hjk; exact hjun
        · rw [getD_set_ne true hjk] at hun; exact hun
      refine wpOp_mono (fun a' w' h3 => ?_) h2
      obtain ⟨h3, S', hcl', hsub, hw', h4⟩ := h3
      refine ⟨S', hcl', hsub, hw', ih (listed.setIfInBounds j true) a' S' hcl' hsub hfree' (ready_mono hr (Ne.symm hji)) h3 ?_⟩
      rw [Array.setIfInBounds_comm _ _ hji]
      exact h4
/-- the walk, in the chosen order: 'true': a calm operation -/
def wpV (P : Program) (ops : Array Oper) (Q : Exit → Act → World → Prop) (U : World → Prop) : List Bool → List Oper → Act → (World → Prop) → Prop
  | true :: ks, o :: rest, a, S => ∃ v, (if Region.wanted o (yielded ops a.tmps) then ∀ w, U w → calmAt P o a w v else v = undef) ∧ wpV P ops Q U ks rest (a.put o.dst v) S
  | false :: ks, o :: rest, a, S => ∀ w, S w → wpList P ops (Exit.then (fun a' w' => ∃ S', Closed S' ∧ (∀ x, S' x → U x) ∧ S' w' ∧ wpV P ops Q U ks rest a' S') Q) [o] a w
  | _, _, a, S => ∀ w, S w → Q .normal a w
def orderV (md : Region.Mode) (ops : Array Oper) : List (Nat × Bool) → Array Bool → Bool
  | (i, true) :: r, listed => (Region.ready md ops listed).contains i && Region.free md ops listed i && orderV md ops r (listed.setIfInBounds i true)
  | (i, false) :: r, listed => decide (Region.ready md ops listed = [i]) && orderV md ops r (listed.setIfInBounds i true)
  | [], listed => decide (Region.ready md ops listed = [])
theorem wpAnyV_lex (hsel : Region.noSelect ops = true) (hQ : ∀ c a d v w, Q (.panic c) (Act.put a d v) w → Q (.panic c) a w) :
    ∀ (is : List (Nat × Bool)) (l : List Oper) (listed : Array Bool) (a : Act) (S : World → Prop), Closed S → (∀ x, S x → U x) → (∀ (j : Nat), (l[j]? : Option Oper) = (is[j]?).bind fun (p : Nat × Bool) => ops[p.1]?) → l.length = is.length → orderV md ops is listed = true →
    wpV P ops Q U (is.map (·.2)) l a S → wpAnyV P md ops Q U is.length listed a S
  | [], l, listed, a, S, _, _, _, hl, ho, h => by
    have hl0 : l = [] := List.eq_nil_of_length_eq_zero (by simpa using hl)
    subst hl0
    exact ⟨by simpa [orderV] using ho, h⟩
  | (i, b) :: is, [], _, _, _, _, _, _, hl, _, _ => by simp at hl
  | (i, true) :: is, o :: l, listed, a, S, hcl, hsu, hget, hl, ho, h => by
    have h0 : ops[i]? = some o := by have := hget 0; simpa using this.symm
    simp only [orderV, Bool.and_eq_true] at ho
    obtain ⟨⟨hr, hf⟩, ho'⟩ := ho
    have hr' : i ∈ Region.ready md ops listed := by simpa using hr
    obtain ⟨v, hy, hK⟩ := h
    have hy' : CalmIn P ops U o v a := by
      by_cases hw : Region.wanted o (yielded ops a.tmps) = true
      · rw [if_pos hw] at hy; exact .inl ⟨hw, hy⟩
      · rw [if_neg hw] at hy; exact .inr ⟨by simpa using hw, hy⟩
    exact wpAnyV_first h0 (Region.noSelect_spec hsel) (fun c a w => hQ c a o.dst v w) is.length listed a S hcl hsu (Region.free_spec h0 hf) hr' hy'
      (wpAnyV_lex hsel hQ is l _ _ S hcl hsu (fun j => by have := hget (j + 1); simpa using this) (by simpa using hl) ho' hK)
  | (i, false) :: is, o :: l, listed, a, S, hcl, hsu, hget, hl, ho, h => by
    have h0 : ops[i]? = some o := by have := hget 0; simpa using this.symm
    simp only [orderV, Bool.and_eq_true, decide_eq_true_eq] at ho
    obtain ⟨hr, ho'⟩ := ho
    refine ⟨fun h' => (by rw [hr] at h'; cases h'), fun j hj w hw => ?_⟩
    obtain rfl : j = i := by rw [hr] at hj; simpa using hj
    refine wpOp_mono (fun a' w' ⟨S', hcl', hsu', hw', hK⟩ => ⟨S', hcl', hsu', hw', ?_⟩) (wpOp_of_list h0 (h w hw))
    exact wpAnyV_lex hsel hQ is l _ _ S' hcl' hsu' (fun j => by have := hget (j + 1); simpa using this) (by simpa using hl) ho' hK
end
/-- a region's operations in the chosen order -/
structure TV (P : Program) (n : Nat) (W : Base) (ops : Array Oper) (Q : Exit → Act → World → Prop) (L0 : List Own) (ks : List Bool) (l : List Oper) (fr : Fr) (L : List Own) : Prop where
  go : ∀ a, Rep n a fr → wpV P ops Q (Mem W L0) ks l a (Mem W L)
section
variable {P : Program} {n : Nat} {W : Base} {Q : Exit → Act → World → Prop} {fr : Fr} {L L0 : List Own} {ops : Array Oper} {ks : List Bool} {o : Oper} {rest : List Oper} {v : Value} {d : Nat}
def orderB (l : List Oper) (is : List (Nat × Bool)) : Bool := Nat.beq is.length l.length && Region.noSelect l.toArray && orderV .any l.toArray is (Array.replicate l.toArray.size false) && is.all fun p => Nat.blt p.1 l.length
theorem T_order {id : Nat} {l : List Oper} (L0 : List Own) (is : List (Nat × Bool)) (hsub : ∀ w, Mem W L w → Mem W L0 w) (hm : P.follows .mixedOrders = true) (hB : orderB l is = true)
    (hQ : ∀ c a d v w, Q (.panic c) (Act.put a d v) w → Q (.panic c) a w)
    (h : TV P n W l.toArray Q L0 (is.map (·.2)) (is.filterMap fun p => l[p.1]?) fr L) : T P n W (.region id l.toArray true) Q fr L := ⟨fun a w hr hmm => by
  simp only [orderB, Bool.and_eq_true] at hB
  obtain ⟨⟨⟨h1, h2⟩, h3⟩, h4⟩ := hB
  have hlen := Nat.eq_of_beq_eq_true h1
  refine wp_region_any hm ?_
  have hall : ∀ p ∈ is, p.1 < l.length := fun p hp => Nat.le_of_ble_eq_true (List.all_eq_true.1 h4 p hp)
  have hget : ∀ (is : List (Nat × Bool)), (∀ p ∈ is, p.1 < l.length) → ∀ (j : Nat), ((is.filterMap fun p => l[p.1]?)[j]? : Option Oper) = (is[j]?).bind fun (p : Nat × Bool) => l.toArray[p.1]? := by
    intro is
    induction is with
    | nil => intro _ j; simp
    | cons p is ih =>
      intro hp j
      have hp0 := hp p (by simp)
      have e0 : (fun (p : Nat × Bool) => l[p.1]?) p = some l[p.1] := List.getElem?_eq_getElem hp0
      rw [List.filterMap_cons_some (f := fun (p : Nat × Bool) => l[p.1]?) e0]
      cases j with
      | zero => simp [hp0]
      | succ j => simpa using ih (fun q hq => hp q (by simp [hq])) j
  have hlen2 : ∀ (is : List (Nat × Bool)), (∀ p ∈ is, p.1 < l.length) → (is.filterMap fun p => l[p.1]?).length = is.length := by
    intro is
    induction is with
    | nil => intro _; simp
    | cons p is ih =>
      intro hp
      have e0 : (fun (p : Nat × Bool) => l[p.1]?) p = some (l[p.1]'(hp p (by simp))) := List.getElem?_eq_getElem (hp p (by simp))
      rw [List.filterMap_cons_some (f := fun (p : Nat × Bool) => l[p.1]?) e0]
      simp [ih (fun q hq => hp q (by simp [hq]))]
  have hsz : l.toArray.size = is.length := by rw [hlen]; simp
  have := wpAny_of_V (U := Mem W L0) is.length (Array.replicate l.toArray.size false) a (Mem W L) w.drew hmm.drew
    (wpAnyV_lex h2 hQ is _ _ a (Mem W L) (closed_mem W L) hsub (hget is hall) (hlen2 is hall) h3 (h.go a hr))
  rw [← hsz] at this
  exact this⟩
theorem TV_val (hr : RR P n W o fr L0 v) (hg : o.guard = none) (hd : o.dst = some d) (hn : Nat.blt d n = true) (h : TV P n W ops Q L0 ks rest ((d, v) :: fr) L) : TV P n W ops Q L0 (true :: ks) (o :: rest) fr L := ⟨fun a hrep =>
  ⟨v, by rw [if_pos (wanted_none hg)]; intro w hw; unfold calmAt; rw [hr.go a w hrep hw]; exact ⟨rfl, Gr.refl _⟩, by rw [hd]; exact h.go _ (hrep.put hn v)⟩⟩
theorem TV_gval {j e : Nat} {b : Bool} (hr : RR P n W o fr L0 v) (hg : o.guard = some (j, b)) (hj : (ops[j]?).bind (·.dst) = some e) (hl : look fr e = some (.bool b)) (hd : o.dst = some d) (hn : Nat.blt d n = true) (h : TV P n W ops Q L0 ks rest ((d, v) :: fr) L) : TV P n W ops Q L0 (true :: ks) (o :: rest) fr L := ⟨fun a hrep =>
  ⟨v, by rw [if_pos (wanted_yes hrep hg hj hl)]; intro w hw; unfold calmAt; rw [hr.go a w hrep hw]; exact ⟨rfl, Gr.refl _⟩, by rw [hd]; exact h.go _ (hrep.put hn v)⟩⟩
theorem TV_skip {j e : Nat} {b : Bool} {u : Value} (hg : o.guard = some (j, b)) (hj : (ops[j]?).bind (·.dst) = some e) (hl : look fr e = some u) (hu : notB b u = true) (hd : o.dst = some d) (hn : Nat.blt d n = true) (h : TV P n W ops Q L0 ks rest ((d, undef) :: fr) L) : TV P n W ops Q L0 (true :: ks) (o :: rest) fr L := ⟨fun a hrep =>
  ⟨undef, by rw [wanted_no hrep hg hj hl hu]; rfl, by rw [hd]; exact h.go _ (hrep.put hn undef)⟩⟩
theorem TV_call {f : FuncId} {args : Array Value} (he : ∀ a w, Rep n a fr → (execOp a.eval o).run P w = .ok (.enter f args) w) (hc : ∀ w, Mem W L0 w → Calls P f args w (Meets (ret v) w)) (hg : o.guard = none) (hd : o.dst = some d) (hn : Nat.blt d n = true)
    (h : TV P n W ops Q L0 ks rest ((d, v) :: fr) L) : TV P n W ops Q L0 (true :: ks) (o :: rest) fr L := ⟨fun a hrep =>
  ⟨v, by rw [if_pos (wanted_none hg)]; intro w hw; unfold calmAt; rw [he a w hrep]; exact ⟨Gr.refl _, (hc w hw).mono fun _ _ h => of_meets h⟩, by rw [hd]; exact h.go _ (hrep.put hn v)⟩⟩
/-- an operation of any kind, walked as in the text's order -/
theorem TV_do (h : TL P n W ops (Exit.then (fun a' w' => ∃ S', Closed S' ∧ (∀ x, S' x → Mem W L0 x) ∧ S' w' ∧ wpV P ops Q (Mem W L0) ks rest a' S') Q) [o] fr L) : TV P n W ops Q L0 (false :: ks) (o :: rest) fr L := ⟨fun a hrep w hw => h.go a w hrep hw⟩
theorem TV_on {Q' : Exit → Act → World → Prop} {L' : List Own} {fr' : Fr} (hsub : ∀ w, Mem W L' w → Mem W L0 w) (h : TV P n W ops Q L0 ks rest fr' L') : TL P n W ops (Exit.then (fun a' w' => ∃ S', Closed S' ∧ (∀ x, S' x → Mem W L0 x) ∧ S' w' ∧ wpV P ops Q (Mem W L0) ks rest a' S') Q') [] fr' L' :=
  TL_nil ⟨fun a w hr hm => ⟨Mem W L', closed_mem _ _, hsub, hm, h.go a hr⟩⟩
theorem TV_nil (h : E n W .normal Q fr L) : TV P n W ops Q L0 [] [] fr L := ⟨fun a hr w hw => h.go a w hr hw⟩
theorem sub_pick {L' : List Own} (is : List Nat) (hn : is.Nodup) (hl : L' = is.filterMap fun i => L[i]?) : ∀ w, Mem W L w → Mem W L' w := fun w h => h.pick is hn hl
theorem sub_nil : ∀ w, Mem W L w → Mem W [] w := fun w h => ⟨h.low, OwnsP.nil _⟩
theorem TV_valg (hg : o.guard = none) (hr : RR P n W o fr L0 v) (hd : o.dst = some d) (hn : Nat.blt d n = true) (h : TV P n W ops Q L0 ks rest ((d, v) :: fr) L) : TV P n W ops Q L0 (true :: ks) (o :: rest) fr L := TV_val hr hg hd hn h
theorem TV_gvalg {j e : Nat} {b : Bool} (hg : o.guard = some (j, b)) (hj : (ops[j]?).bind (·.dst) = some e) (hl : look fr e = some (.bool b)) (hr : RR P n W o fr L0 v) (hd : o.dst = some d) (hn : Nat.blt d n = true) (h : TV P n W ops Q L0 ks rest ((d, v) :: fr) L) : TV P n W ops Q L0 (true :: ks) (o :: rest) fr L := TV_gval hr hg hj hl hd hn h
end
end Go.Proofs.Ytmcclhddjielnaa.eng

/- Seq -/
namespace Go.Proofs.Ytmcclhddjielnaa.eng
open Go.RowKit kit mix
section
variable {α : Type} {f : α → List Value} {c : Nat}
theorem get_el (hc : ∀ a, (f a).length = c) : ∀ (l : List α) (k j : Nat) (h : k < l.length), j < c → (l.flatMap f)[k * c + j]? = (f l[k])[j]?
  | a :: r, 0, j, h, hj => by
    rw [List.flatMap_cons, List.getElem?_append_left (by rw [hc]; omega)]
    simp
  | a :: r, k + 1, j, h, hj => by
    have ih := get_el hc r k j (by simpa using h) hj
    rw [List.flatMap_cons, List.getElem?_append_right (by rw [hc, Nat.succ_mul]; omega), hc]
    simp only [List.getElem_cons_succ]
    rw [← ih, Nat.succ_mul]
    congr 1
    omega
theorem len_el (hc : ∀ a, (f a).length = c) : ∀ (l : List α), (l.flatMap f).length = l.length * c
  | [] => by simp
  | a :: r => by rw [List.flatMap_cons, List.length_append, hc, len_el hc r, List.length_cons, Nat.succ_mul, Nat.add_comm]
theorem at_el (hc : ∀ a, (f a).length = c) {W : World} {L : List Own} {b off : Nat} {l : List α} (h : Rd W b off (l.flatMap f)) {k : Nat} (hk : k < l.length) (j : Nat) (u : Value) (hu : (f l[k])[j]? = some u) : At W L ⟨b, off + k * c + j, none⟩ u := by
  have hj : j < c := by rw [← hc l[k]]; exact (List.getElem?_eq_some_iff.1 hu).1
  rw [Nat.add_assoc]
  exact at_rd h (by rw [get_el hc l k j hk hj]; exact hu)
/-- the same of cells that are known as long as L is -/
theorem at_elL (hc : ∀ a, (f a).length = c) {W : Base} {L : List Own} {b off : Nat} {l : List α} (h : ∀ j u, (l.flatMap f)[j]? = some u → At W L ⟨b, off + j, none⟩ u) {k : Nat} (hk : k < l.length) (j : Nat) (u : Value) (hu : (f l[k])[j]? = some u) : At W L ⟨b, off + k * c + j, none⟩ u := by
  have hj : j < c := by rw [← hc l[k]]; exact (List.getElem?_eq_some_iff.1 hu).1
  rw [Nat.add_assoc]
  exact h _ _ (by rw [get_el hc l k j hk hj]; exact hu)
theorem at_rowel (hc : ∀ a, (f a).length = c) {W : Base} {L : List Own} {i g m cap n size : Nat} {e : TypeId} {l : List α} (hi : L[i]? = some (rowO e size (.slice (some ⟨g, 0, none⟩) m cap) n (l.flatMap f))) {k : Nat} (hk : k < l.length) (j : Nat) (u : Value) (hu : (f l[k])[j]? = some u) : At W L ⟨g, 0 + k * c + j, none⟩ u :=
  at_elL hc (off := 0) (fun q x hq => by rw [Nat.zero_add]; exact at_row hi hq) hk j u hu
end
/-- the place of the first one that is wanted, or -1 -/
def idxF {α : Type} (p : α → Bool) (l : List α) : Int := match l.findIdx? p with | some i => i | none => -1
theorem idxF_some {α : Type} {p : α → Bool} {l : List α} {i : Nat} (hi : i < l.length) (h : p l[i] = true) (hb : ∀ j (hj : j < l.length), j < i → p l[j] = false) : idxF p l = i := by
  have : l.findIdx? p = some i := List.findIdx?_eq_some_iff_getElem.2 ⟨hi, h, fun j hji => by simpa using hb j (by omega) hji⟩
  simp [idxF, this]
theorem idxF_none {α : Type} {p : α → Bool} {l : List α} (hb : ∀ j (hj : j < l.length), p l[j] = false) : idxF p l = -1 := by
  have : l.findIdx? p = none := List.findIdx?_eq_none_iff.2 fun x hx => by
    obtain ⟨j, hj, rfl⟩ := List.mem_iff_getElem.1 hx
    exact hb j hj
  simp [idxF, this]
theorem idxF_any {α : Type} (p : α → Bool) (l : List α) : decide (0 ≤ idxF p l) = l.any p := by
  unfold idxF
  cases e : l.findIdx? p with
  | none =>
    have := List.findIdx?_eq_none_iff.1 e
    have h2 : l.any p = false := by
      rw [List.any_eq_false]; intro x hx; simp [this x hx]
    rw [h2]; rfl
  | some i =>
    obtain ⟨h1, h2, _⟩ := List.findIdx?_eq_some_iff_getElem.1 e
    have h3 : l.any p = true := List.any_eq_true.2 ⟨l[i], List.getElem_mem h1, h2⟩
    rw [h3]
    simp
theorem idxF_range {α : Type} (p : α → Bool) (l : List α) : -1 ≤ idxF p l ∧ idxF p l < l.length ∨ idxF p l = -1 := by
  unfold idxF
  cases e : l.findIdx? p with
  | none => right; rfl
  | some i =>
    obtain ⟨h1, h2, _⟩ := List.findIdx?_eq_some_iff_getElem.1 e
    left; simp only; omega
section
variable {P : Program} {n : Nat} {W : Base} {fr : Fr} {L : List Own} {Q : Exit → Act → World → Prop} {ops : Array Oper} {rest : List Oper} {d : Nat} {dst : Option Tmp} {ty : TypeId} {pos : String} {after : Array Edge} {guard : Option (Nat × Bool)}
/-- a slice held against nil -/
theorem rr_slnil {t e u : TypeId} {x y : Operand} {a : Option Addr} {m c : Nat} {b : Bool} (ht : P.underlying t = some (.slice e)) (hx : ev fr x = some (.slice a m c)) (hy : ev fr y = some (.slice none 0 0)) (hb : a.isNone = b) : RR P n W ⟨dst, .binOp .eql t x y u, ty, pos, after, guard⟩ fr L (.bool b) := .mk fun ac w hr _ => by
  subst hb
  have e1 : (eqGuard .eql t x y (.slice a m c) (.slice none 0 0)).run P w = .ok () w := rfl
  simp [execOp, hr.ev hx, hr.ev hy, e1, Go.Lib.run_eql_slice_nil w t e a m c 0 0 ht]
/-- a literal of no elements -/
theorem TL_lit0 {t e : TypeId} {c bytes : Nat} [hel : ElC P t e c bytes] (hn : Nat.blt d n = true)
    (h : ∀ g, TL P n W ops Q rest ((d, .slice (some ⟨g, 0, none⟩) 0 0) :: fr) (L ++ [rowO e c (.slice (some ⟨g, 0, none⟩) 0 0) 0 []])) : TL P n W ops Q (⟨some d, .buildSlice t 0 #[], ty, pos, after, none⟩ :: rest) fr L := TL_any rfl fun a w hr hm K hK => by
  obtain ⟨i, z, ht, hi, hz, hc, _, hzc, h0⟩ := hel.el.ex
  have e' : (execOp a.eval ⟨some d, .buildSlice t 0 #[], ty, pos, after, none⟩).run P w = .ok (.value (.slice (some ⟨w.heap.size, 0, none⟩) 0 0)) (w.alloc (.cells #[] e)) := by
    have hne : ¬ (0 * c > 2 ^ 24) := by omega
    simp [execOp, Instr.buildSlice, run_underlying ht, sizeOf, typeInfo, hi, hc, zeroValue, hz, Instr.fill, newRow]
    have e0 : Array.range 0 = #[] := by simp
    rw [e0, Array.map_empty]
  unfold Oper.wp; rw [e']
  exact hK _ _ ((h w.heap.size).go _ _ (hr.put hn _) (hm.append (gr_alloc w _) (Owns.one (World.ownsRow_made w #[] 0 (Nat.zero_le _) (by decide) (by simp)) fun k hk => by
    have : w.heap.size = k := Option.some.inj hk
    omega)))
/-- what is read as a slice is appended to an own one -/
theorem TL_appSl {t e : TypeId} {s x : Operand} {i size bytes m k : Nat} {v v2 : Value} {xs ys : List Value} [hel : ElC P t e size bytes] (hi : L[i]? = some (rowO e size v m xs)) (hx2 : SlL W L v2 k ys) (hs : ev fr s = some v) (hx : ev fr x = some v2) (hk : ys.length = k * size)
    (h1 : ∀ u ∈ ys, u.oneCell' = true) (h63 : m + k ≤ 140737488355328) (hb : (m + k) * bytes ≤ 140737488355328) (hn : Nat.blt d n = true)
    (h : ∀ v', TL P n W ops Q rest ((d, v') :: fr) (L.set i (rowO e size v' (m + k) (xs ++ ys)))) :
    TL P n W ops Q (⟨some d, .call { callee := .builtin .append, args := #[s, x], argTypes := #[t, t] }, ty, pos, after, none⟩ :: rest) fr L := ⟨fun a w hr hm => by
  obtain ⟨base, cap, rfl, hc1, hc2, hrd⟩ := hx2 w hm
  have hset : ys = [] → L.set i (rowO e size v (m + 0) (xs ++ [])) = L := fun _ => by
    rw [List.append_nil, Nat.add_zero]
    apply List.ext_getElem?
    intro q
    by_cases hq : i = q
    · subst hq
      rw [List.getElem?_set_self (List.getElem?_eq_some_iff.1 hi).1, hi]
    · rw [List.getElem?_set_ne hq]
  cases base with
  | none =>
    have hk0 : k = 0 := by
      rcases Nat.eq_zero_or_pos k with h | h
      · exact h
      · obtain ⟨b, off, h, _⟩ := hrd h; cases h
    subst hk0
    have hy : ys = [] := List.eq_nil_of_length_eq_zero (by rw [hk]; simp)
    subst hy
    have h2 := h v
    rw [hset rfl] at h2
    exact (TL_append0 hel.el hi hs hx hn h2).go a w hr hm
  | some p =>
    have hrd' : ∀ j u, ys[j]? = some u → w.cell? (p.add j) = some u := fun j u hj => by
      obtain ⟨b, off, hb, hr⟩ := hrd (by
        rcases Nat.eq_zero_or_pos k with h | h
        · subst h
          have := (List.getElem?_eq_some_iff.1 hj).1
          rw [hk] at this; simp at this
        · exact h)
      simp only [Option.some.injEq] at hb
      subst hb
      rw [addr_add]; exact hr j u hj
    exact TL_append_at (c := cap) hel.el hi hs hx hrd' hk h1 h63 hb hn h hr hm⟩
/-- an own slice's value is one cell -/
theorem TL_slv {i size m : Nat} {e : TypeId} {v : Value} {xs : List Value} (hi : L[i]? = some (rowO e size v m xs)) (h : v.cells = #[v] → v.oneCell' = true → TL P n W ops Q rest fr L) : TL P n W ops Q rest fr L := ⟨fun a w hr hm => by
  have h1 : w.ownsRow 0 e size v m xs := hm.get hi
  rcases h1.2 with ⟨hv, _⟩ | ⟨g, cap, cur, hv, _⟩
  · exact (h (by rw [hv]; rfl) (by rw [hv]; rfl)).go a w hr hm
  · exact (h (by rw [hv]; rfl) (by rw [hv]; rfl)).go a w hr hm⟩
/-- 's[i:j]' of a slice -/
def subV (base : Option Addr) (cap c i j : Nat) : Value := .slice (if cap = i then base else base.map (fun (q : Addr) => q.add (i * c))) (j - i) (cap - i)
theorem rr_slgen {t e : TypeId} {x : Operand} {lo hi : Option Operand} {agg : Bool} {c i j len cap : Nat} {base : Option Addr} (ht : P.underlying t = some (.slice e)) (he : Ty P e agg c) (hx : ev fr x = some (.slice base len cap))
    (hlo : match lo with | none => i = 0 | some z => ∃ k, ev fr z = some (.int k (i : Int))) (hhi : match hi with | none => j = len | some z => ∃ k, ev fr z = some (.int k (j : Int))) (h1 : i ≤ j) (h2 : j ≤ cap) :
    RR P n W ⟨dst, .slice t x lo hi none, ty, pos, after, guard⟩ fr L (subV base cap c i j) := .mk fun a w hr _ => by
  have e0 : (0 : Int) ≤ (i : Int) := by omega
  have hb : ∀ (k : IntKind) (p q : Nat) (cd : BoundsCode), p ≤ q → (Instr.sliceBound (.int k (p : Int)) q cd).run P w = .ok p w := fun k p q cd h => by
    have : (0 : Int) ≤ (p : Int) ∧ (p : Int) ≤ (q : Int) := by omega
    simp [Instr.sliceBound, asIntOf, this]
  unfold subV
  cases lo <;> cases hi
  · simp only at hlo hhi
    subst hlo hhi
    simp [execOp, hr.ev hx, Instr.sliceAt, Instr.slice, run_underlying ht, Instr.sliceBounds, he.size]
  · obtain ⟨k, hk⟩ := hhi
    simp only at hlo
    subst hlo
    simp [execOp, hr.ev hx, hr.ev hk, Instr.sliceAt, Instr.slice, run_underlying ht, Instr.sliceBounds, he.size, hb k j cap _ h2]
  · obtain ⟨k, hk⟩ := hlo
    simp only at hhi
    subst hhi
    simp [execOp, hr.ev hx, hr.ev hk, Instr.sliceAt, Instr.slice, run_underlying ht, Instr.sliceBounds, he.size, hb k i j _ h1]
  · obtain ⟨k, hk⟩ := hlo
    obtain ⟨k', hk'⟩ := hhi
    simp [execOp, hr.ev hx, hr.ev hk, hr.ev hk', Instr.sliceAt, Instr.slice, run_underlying ht, Instr.sliceBounds, he.size, hb k i j _ h1, hb k' j cap _ h2]
theorem rr_slsub {t e : TypeId} {x z z' : Operand} {agg : Bool} {c i j len cap : Nat} {base : Option Addr} {k k' : IntKind} (ht : P.underlying t = some (.slice e)) (he : Ty P e agg c) (hx : ev fr x = some (.slice base len cap)) (hz : ev fr z = some (.int k (i : Int))) (hz' : ev fr z' = some (.int k' (j : Int))) (h1 : i ≤ j) (h2 : j ≤ cap) :
    RR P n W ⟨dst, .slice t x (some z) (some z') none, ty, pos, after, guard⟩ fr L (subV base cap c i j) := rr_slgen (lo := some z) (hi := some z') ht he hx ⟨k, hz⟩ ⟨k', hz'⟩ h1 h2
theorem rr_slfrom {t e : TypeId} {x z : Operand} {agg : Bool} {c i len cap : Nat} {base : Option Addr} {k : IntKind} (ht : P.underlying t = some (.slice e)) (he : Ty P e agg c) (hx : ev fr x = some (.slice base len cap)) (hz : ev fr z = some (.int k (i : Int))) (h1 : i ≤ len) (h2 : len ≤ cap) :
    RR P n W ⟨dst, .slice t x (some z) none none, ty, pos, after, guard⟩ fr L (subV base cap c i len) := rr_slgen (lo := some z) (hi := none) ht he hx ⟨k, hz⟩ rfl h1 h2
theorem rr_slupto {t e : TypeId} {x z : Operand} {agg : Bool} {c j len cap : Nat} {base : Option Addr} {k : IntKind} (ht : P.underlying t = some (.slice e)) (he : Ty P e agg c) (hx : ev fr x = some (.slice base len cap)) (hz : ev fr z = some (.int k (j : Int))) (h2 : j ≤ cap) :
    RR P n W ⟨dst, .slice t x none (some z) none, ty, pos, after, guard⟩ fr L (subV base cap c 0 j) := rr_slgen (lo := none) (hi := some z) ht he hx rfl ⟨k, hz⟩ (Nat.zero_le _) h2
theorem rr_min3 {t u s : TypeId} {x y z : Operand} {m m' m2 r : Int} (hx : ev fr x = some (.int .i64 m)) (hy : ev fr y = some (.int .i64 m')) (hz : ev fr z = some (.int .i64 m2)) (h : min m (min m' m2) = r) : RR P n W ⟨dst, .call { callee := .builtin .min, args := #[x, y, z], argTypes := #[t, u, s] }, ty, pos, after, guard⟩ fr L (.int .i64 r) := .mk fun a w hr _ => by
  subst h
  have h1 := hr.ev hx
  have h2 := hr.ev hy
  have h3 := hr.ev hz
  have e : ∀ a b : Int, (if b < a then b else a) = min a b := fun a b => by split <;> omega
  simp [BigFrame.execOp_builtin, BigFrame.builtin_min, h1, h2, h3, Builtin.min_, Builtin.min2, e, Int.min_assoc]
theorem rr_max3 {t u s : TypeId} {x y z : Operand} {m m' m2 r : Int} (hx : ev fr x = some (.int .i64 m)) (hy : ev fr y = some (.int .i64 m')) (hz : ev fr z = some (.int .i64 m2)) (h : max m (max m' m2) = r) : RR P n W ⟨dst, .call { callee := .builtin .max, args := #[x, y, z], argTypes := #[t, u, s] }, ty, pos, after, guard⟩ fr L (.int .i64 r) := .mk fun a w hr _ => by
  subst h
  have h1 := hr.ev hx
  have h2 := hr.ev hy
  have h3 := hr.ev hz
  have e : ∀ a b : Int, (if a < b then b else a) = max a b := fun a b => by split <;> omega
  simp [BigFrame.execOp_builtin, BigFrame.builtin_max, h1, h2, h3, Builtin.max_, Builtin.max2, e, Int.max_assoc]
/-- a part of a slice that can be read -/
theorem sl_sub {α : Type} {f : α → List Value} {c : Nat} (hc : ∀ a, (f a).length = c) {w : World} {base : Option Addr} {cap : Nat} {l : List α} (h : Sl w (.slice base l.length cap) l.length (l.flatMap f)) {i j : Nat} (h1 : i ≤ j) (h2 : j ≤ l.length) :
    Sl w (subV base cap c i j) ((l.drop i).take (j - i)).length (((l.drop i).take (j - i)).flatMap f) := by
  obtain ⟨b, cp, he, k1, k2, k3⟩ := h
  simp only [Value.slice.injEq, true_and] at he
  obtain ⟨rfl, rfl⟩ := he
  have hlen : ((l.drop i).take (j - i)).length = j - i := by simp; omega
  refine ⟨_, cap - i, by rw [hlen]; rfl, by rw [hlen]; omega, by omega, fun h0 => ?_⟩
  rw [hlen] at h0
  obtain ⟨b, off, rfl, hr⟩ := k3 (by omega)
  refine ⟨b, off + i * c, by rw [if_neg (by omega), Option.map_some, addr_add], fun q u hq => ?_⟩
  have e : l.flatMap f = (l.take i).flatMap f ++ ((l.drop i).take (j - i)).flatMap f ++ ((l.drop i).drop (j - i)).flatMap f := by
    rw [← List.flatMap_append, ← List.flatMap_append, List.append_assoc, List.take_append_drop, List.take_append_drop]
  have hl1 : ((l.take i).flatMap f).length = i * c := by rw [len_el hc, List.length_take, Nat.min_eq_left (by omega)]
  have := hr (i * c + q) u (by
    rw [e, List.append_assoc, List.getElem?_append_right (by omega), hl1, Nat.add_sub_cancel_left, List.getElem?_append_left (List.getElem?_eq_some_iff.1 hq).1]
    exact hq)
  rw [Nat.add_assoc]; exact this
/-- what an own slice is -/
theorem TL_rowv {i size m : Nat} {e : TypeId} {v : Value} {xs : List Value} (hi : L[i]? = some (rowO e size v m xs)) (h : ∀ base cap, v = .slice base m cap → m ≤ cap → cap ≤ 9223372036854775807 → TL P n W ops Q rest fr L) : TL P n W ops Q rest fr L := ⟨fun a w hr hm => by
  have h1 : w.ownsRow 0 e size v m xs := hm.get hi
  obtain ⟨base, cap, hv, hc1, hc2, _⟩ := Sl.of_own h1
  exact (h base cap hv hc1 (by unfold maxLen at hc2; omega)).go a w hr hm⟩
theorem T_rowv {c : Code} {i size m : Nat} {e : TypeId} {v : Value} {xs : List Value} (hi : L[i]? = some (rowO e size v m xs)) (h : ∀ base cap, v = .slice base m cap → m ≤ cap → cap ≤ 9223372036854775807 → T P n W c Q fr L) : T P n W c Q fr L := ⟨fun a w hr hm => by
  have h1 : w.ownsRow 0 e size v m xs := hm.get hi
  obtain ⟨base, cap, hv, hc1, hc2, _⟩ := Sl.of_own h1
  exact (h base cap hv hc1 (by unfold maxLen at hc2; omega)).go a w hr hm⟩
theorem T_slv {c : Code} {i size m : Nat} {e : TypeId} {v : Value} {xs : List Value} (hi : L[i]? = some (rowO e size v m xs)) (h : v.cells = #[v] → v.oneCell' = true → T P n W c Q fr L) : T P n W c Q fr L := ⟨fun a w hr hm => by
  have h1 : w.ownsRow 0 e size v m xs := hm.get hi
  obtain ⟨base, cap, hv, _⟩ := Sl.of_own h1
  exact (h (by rw [hv]; rfl) (by rw [hv]; rfl)).go a w hr hm⟩
/-- closures: what is captured, evaluated -/
def opsEv (fr : Fr) : List Operand → Option (List Value)
  | [] => some []
  | x :: r => match ev fr x, opsEv fr r with | some v, some l => some (v :: l) | _, _ => none
theorem opsEv_of {a : Act} (hr : Rep n a fr) : ∀ (l : List Operand) (vs : List Value), opsEv fr l = some vs → l.map a.eval = vs
  | [], vs, h => by simp only [opsEv, Option.some.injEq] at h; subst h; rfl
  | x :: r, vs, h => by
    simp only [opsEv] at h
    split at h
    · rename_i v l h1 h2
      simp only [Option.some.injEq] at h; subst h
      simp [hr.ev h1, opsEv_of hr r l h2]
    · cases h
theorem rr_func {fn : Fn} {first cap : Array Operand} {vs us : List Value} (h1 : opsEv fr first.toList = some vs) (h2 : opsEv fr cap.toList = some us) : RR P n W ⟨dst, .makeFunc fn first cap, ty, pos, after, guard⟩ fr L (.func fn vs.toArray us.toArray) := .mk fun a w hr _ => by
  have e1 : first.map a.eval = vs.toArray := by rw [← opsEv_of hr _ _ h1, ← Array.toList_map, Array.toArray_toList]
  have e2 : cap.map a.eval = us.toArray := by rw [← opsEv_of hr _ _ h2, ← Array.toList_map, Array.toArray_toList]
  simp only [execOp, e1, e2]
  rfl
end
end Go.Proofs.Ytmcclhddjielnaa.eng

/- MixW -/
namespace Go.Proofs.Ytmcclhddjielnaa.eng
open Go.RowKit kit mix
inductive Ord where
  | done
  | calm (i : Nat) (t : Ord)
  | one (i : Nat) (t : Ord)
  | two (i : Nat) (t : Ord) (j : Nat) (u : Ord)
  | three (i : Nat) (t : Ord) (j : Nat) (u : Ord) (k : Nat) (v : Ord)
def Ord.size : Ord → Nat
  | .done => 0
  | .calm _ t => t.size + 1
  | .one _ t => t.size + 1
  | .two _ t _ _ => t.size + 1
  | .three _ t _ _ _ _ => t.size + 1
section
variable {P : Program} {ops : Array Oper} {md : Region.Mode} {Q : Exit → Act → World → Prop} {U : World → Prop}
def wpO (P : Program) (ops : Array Oper) (Q : Exit → Act → World → Prop) (U : World → Prop) : Ord → Act → (World → Prop) → Prop
  | .calm i t, a, S => ∃ o v, ops[i]? = some o ∧ (if Region.wanted o (yielded ops a.tmps) then ∀ w, U w → calmAt P o a w v else v = undef) ∧ wpO P ops Q U t (a.put o.dst v) S
  | .one i t, a, S => ∃ o, ops[i]? = some o ∧ ∀ w, S w → wpList P ops (Exit.then (fun a' w' => ∃ S', Closed S' ∧ (∀ x, S' x → U x) ∧ S' w' ∧ wpO P ops Q U t a' S') Q) [o] a w
  | .two i t j u, a, S => (∃ o, ops[i]? = some o ∧ ∀ w, S w → wpList P ops (Exit.then (fun a' w' => ∃ S', Closed S' ∧ (∀ x, S' x → U x) ∧ S' w' ∧ wpO P ops Q U t a' S') Q) [o] a w) ∧
      (∃ o, ops[j]? = some o ∧ ∀ w, S w → wpList P ops (Exit.then (fun a' w' => ∃ S', Closed S' ∧ (∀ x, S' x → U x) ∧ S' w' ∧ wpO P ops Q U u a' S') Q) [o] a w)
  | .three i t j u k v, a, S => (∃ o, ops[i]? = some o ∧ ∀ w, S w → wpList P ops (Exit.then (fun a' w' => ∃ S', Closed S' ∧ (∀ x, S' x → U x) ∧ S' w' ∧ wpO P ops Q U t a' S') Q) [o] a w) ∧
      (∃ o, ops[j]? = some o ∧ ∀ w, S w → wpList P ops (Exit.then (fun a' w' => ∃ S', Closed S' ∧ (∀ x, S' x → U x) ∧ S' w' ∧ wpO P ops Q U u a' S') Q) [o] a w) ∧
      (∃ o, ops[k]? = some o ∧ ∀ w, S w → wpList P ops (Exit.then (fun a' w' => ∃ S', Closed S' ∧ (∀ x, S' x → U x) ∧ S' w' ∧ wpO P ops Q U v a' S') Q) [o] a w)
  | .done, a, S => ∀ w, S w → Q .normal a w
def orderO (md : Region.Mode) (ops : Array Oper) : Ord → Array Bool → Bool
  | .calm i t, listed => (Region.ready md ops listed).contains i && Region.free md ops listed i && orderO md ops t (listed.setIfInBounds i true)
  | .one i t, listed => decide (Region.ready md ops listed = [i]) && orderO md ops t (listed.setIfInBounds i true)
  | .two i t j u, listed => decide (Region.ready md ops listed = [i, j]) && Nat.beq t.size u.size && orderO md ops t (listed.setIfInBounds i true) && orderO md ops u (listed.setIfInBounds j true)
  | .three i t j u k v, listed => decide (Region.ready md ops listed = [i, j, k]) && Nat.beq t.size u.size && Nat.beq t.size v.size && orderO md ops t (listed.setIfInBounds i true) && orderO md ops u (listed.setIfInBounds j true) && orderO md ops v (listed.setIfInBounds k true)
  | .done, listed => decide (Region.ready md ops listed = [])
theorem wpAnyV_ord (hsel : Region.noSelect ops = true) (hQ : ∀ c a d v w, Q (.panic c) (Act.put a d v) w → Q (.panic c) a w) :
    ∀ (t : Ord) (listed : Array Bool) (a : Act) (S : World → Prop), Closed S → (∀ x, S x → U x) → orderO md ops t listed = true →
    wpO P ops Q U t a S → wpAnyV P md ops Q U t.size listed a S
  | .done, listed, a, S, _, _, ho, h => ⟨by simpa [orderO] using ho, h⟩
  | .calm i t, listed, a, S, hcl, hsu, ho, h => by
    simp only [orderO, Bool.and_eq_true] at ho
    obtain ⟨⟨hr, hf⟩, ho'⟩ := ho
    have hr' : i ∈ Region.ready md ops listed := by simpa using hr
    obtain ⟨o, v, h0, hy, hK⟩ := h
    have hy' : CalmIn P ops U o v a := by
      by_cases hw : Region.wanted o (yielded ops a.tmps) = true
      · rw [if_pos hw] at hy; exact .inl ⟨hw, hy⟩
      · rw [if_neg hw] at hy; exact .inr ⟨by simpa using hw, hy⟩
    exact wpAnyV_first h0 (Region.noSelect_spec hsel) (fun c a w => hQ c a o.dst v w) t.size listed a S hcl hsu (Region.free_spec h0 hf) hr' hy'
      (wpAnyV_ord hsel hQ t _ _ S hcl hsu ho' hK)
  | .one i t, listed, a, S, hcl, hsu, ho, h => by
    simp only [orderO, Bool.and_eq_true, decide_eq_true_eq] at ho
    obtain ⟨hr, ho'⟩ := ho
    obtain ⟨o, h0, h⟩ := h
    refine ⟨fun h' => (by rw [hr] at h'; cases h'), fun j hj w hw => ?_⟩
    obtain rfl : j = i := by rw [hr] at hj; simpa using hj
    refine wpOp_mono (fun a' w' ⟨S', hcl', hsu', hw', hK⟩ => ⟨S', hcl', hsu', hw', ?_⟩) (wpOp_of_list h0 (h w hw))
    exact wpAnyV_ord hsel hQ t _ _ S' hcl' hsu' ho' hK
  | .two i t j u, listed, a, S, hcl, hsu, ho, h => by
    simp only [orderO, Bool.and_eq_true, decide_eq_true_eq] at ho
    obtain ⟨⟨⟨hr, hs⟩, ho1⟩, ho2⟩ := ho
    obtain ⟨⟨o, h0, h⟩, ⟨o2, h02, h2⟩⟩ := h
    have hs := Nat.eq_of_beq_eq_true hs
    refine ⟨fun h' => (by rw [hr] at h'; cases h'), fun q hq w hw => ?_⟩
    rw [hr] at hq
    simp only [List.mem_cons, List.not_mem_nil, or_false] at hq
    rcases hq with rfl | rfl
    · refine wpOp_mono (fun a' w' ⟨S', hcl', hsu', hw', hK⟩ => ⟨S', hcl', hsu', hw', ?_⟩) (wpOp_of_list h0 (h w hw))
      exact wpAnyV_ord hsel hQ t _ _ S' hcl' hsu' ho1 hK
    · refine wpOp_mono (fun a' w' ⟨S', hcl', hsu', hw', hK⟩ => ⟨S', hcl', hsu', hw', ?_⟩) (wpOp_of_list h02 (h2 w hw))
      rw [hs]
      exact wpAnyV_ord hsel hQ u _ _ S' hcl' hsu' ho2 hK
  | .three i t j u k v, listed, a, S, hcl, hsu, ho, h => by
    simp only [orderO, Bool.and_eq_true, decide_eq_true_eq] at ho
    obtain ⟨⟨⟨⟨⟨hr, hs⟩, hs3⟩, ho1⟩, ho2⟩, ho3⟩ := ho
    obtain ⟨⟨o, h0, h⟩, ⟨o2, h02, h2⟩, ⟨o3, h03, h3⟩⟩ := h
    have hs := Nat.eq_of_beq_eq_true hs
    have hs3 := Nat.eq_of_beq_eq_true hs3
    refine ⟨fun h' => (by rw [hr] at h'; cases h'), fun q hq w hw => ?_⟩
    rw [hr] at hq
    simp only [List.mem_cons, List.not_mem_nil, or_false] at hq
    rcases hq with rfl | rfl | rfl
    · refine wpOp_mono (fun a' w' ⟨S', hcl', hsu', hw', hK⟩ => ⟨S', hcl', hsu', hw', ?_⟩) (wpOp_of_list h0 (h w hw))
      exact wpAnyV_ord hsel hQ t _ _ S' hcl' hsu' ho1 hK
    · refine wpOp_mono (fun a' w' ⟨S', hcl', hsu', hw', hK⟩ => ⟨S', hcl', hsu', hw', ?_⟩) (wpOp_of_list h02 (h2 w hw))
      rw [hs]
      exact wpAnyV_ord hsel hQ u _ _ S' hcl' hsu' ho2 hK
    · refine wpOp_mono (fun a' w' ⟨S', hcl', hsu', hw', hK⟩ => ⟨S', hcl', hsu', hw', ?_⟩) (wpOp_of_list h03 (h3 w hw))
      rw [hs3]
      exact wpAnyV_ord hsel hQ v _ _ S' hcl' hsu' ho3 hK
end
structure TW (P : Program) (n : Nat) (W : Base) (ops : Array Oper) (Q : Exit → Act → World → Prop) (L0 : List Own) (t : Ord) (fr : Fr) (L : List Own) : Prop where
  go : ∀ a, Rep n a fr → wpO P ops Q (Mem W L0) t a (Mem W L)
section
variable {P : Program} {n : Nat} {W : Base} {Q : Exit → Act → World → Prop} {fr : Fr} {L L0 : List Own} {ops : Array Oper} {o : Oper} {t u : Ord} {i j : Nat} {v : Value} {d : Nat}
def ordB (l : List Oper) (t : Ord) : Bool := Nat.beq t.size l.length && Region.noSelect l.toArray && orderO .any l.toArray t (Array.replicate l.toArray.size false)
theorem T_ord {id : Nat} {l : List Oper} (L0 : List Own) (t : Ord) (hsub : ∀ w, Mem W L w → Mem W L0 w) (hm : P.follows .mixedOrders = true) (hB : ordB l t = true)
    (hQ : ∀ c a d v w, Q (.panic c) (Act.put a d v) w → Q (.panic c) a w)
    (h : TW P n W l.toArray Q L0 t fr L) : T P n W (.region id l.toArray true) Q fr L := ⟨fun a w hr hmm => by
  simp only [ordB, Bool.and_eq_true] at hB
  obtain ⟨⟨h1, h2⟩, h3⟩ := hB
  have hlen := Nat.eq_of_beq_eq_true h1
  refine wp_region_any hm ?_
  have hsz : l.toArray.size = t.size := by rw [hlen]; simp
  have := wpAny_of_V (U := Mem W L0) t.size (Array.replicate l.toArray.size false) a (Mem W L) w.drew hmm.drew
    (wpAnyV_ord h2 hQ t _ a (Mem W L) (closed_mem W L) hsub h3 (h.go a hr))
  rw [← hsz] at this
  exact this⟩
theorem TW_val (ho : ops[i]? = some o) (hr : RR P n W o fr L0 v) (hg : o.guard = none) (hd : o.dst = some d) (hn : Nat.blt d n = true) (h : TW P n W ops Q L0 t ((d, v) :: fr) L) : TW P n W ops Q L0 (.calm i t) fr L := ⟨fun a hrep =>
  ⟨o, v, ho, by rw [if_pos (wanted_none hg)]; intro w hw; unfold calmAt; rw [hr.go a w hrep hw]; exact ⟨rfl, Gr.refl _⟩, by rw [hd]; exact h.go _ (hrep.put hn v)⟩⟩
theorem TW_gval {q e : Nat} {b : Bool} (ho : ops[i]? = some o) (hr : RR P n W o fr L0 v) (hg : o.guard = some (q, b)) (hj : (ops[q]?).bind (·.dst) = some e) (hl : look fr e = some (.bool b)) (hd : o.dst = some d) (hn : Nat.blt d n = true) (h : TW P n W ops Q L0 t ((d, v) :: fr) L) : TW P n W ops Q L0 (.calm i t) fr L := ⟨fun a hrep =>
  ⟨o, v, ho, by rw [if_pos (wanted_yes hrep hg hj hl)]; intro w hw; unfold calmAt; rw [hr.go a w hrep hw]; exact ⟨rfl, Gr.refl _⟩, by rw [hd]; exact h.go _ (hrep.put hn v)⟩⟩
theorem TW_skip {q e : Nat} {b : Bool} {x : Value} (ho : ops[i]? = some o) (hg : o.guard = some (q, b)) (hj : (ops[q]?).bind (·.dst) = some e) (hl : look fr e = some x) (hu : notB b x = true) (hd : o.dst = some d) (hn : Nat.blt d n = true) (h : TW P n W ops Q L0 t ((d, undef) :: fr) L) : TW P n W ops Q L0 (.calm i t) fr L := ⟨fun a hrep =>
  ⟨o, undef, ho, by rw [wanted_no hrep hg hj hl hu]; rfl, by rw [hd]; exact h.go _ (hrep.put hn undef)⟩⟩
theorem TW_call {f : FuncId} {args : Array Value} (ho : ops[i]? = some o) (he : ∀ a w, Rep n a fr → (execOp a.eval o).run P w = .ok (.enter f args) w) (hc : ∀ w, Mem W L0 w → Calls P f args w (Meets (ret v) w)) (hg : o.guard = none) (hd : o.dst = some d) (hn : Nat.blt d n = true)
    (h : TW P n W ops Q L0 t ((d, v) :: fr) L) : TW P n W ops Q L0 (.calm i t) fr L := ⟨fun a hrep =>
  ⟨o, v, ho, by rw [if_pos (wanted_none hg)]; intro w hw; unfold calmAt; rw [he a w hrep]; exact ⟨Gr.refl _, (hc w hw).mono fun _ _ h => of_meets h⟩, by rw [hd]; exact h.go _ (hrep.put hn v)⟩⟩
theorem TW_gcall {f : FuncId} {args : Array Value} {q e : Nat} {b : Bool} (ho : ops[i]? = some o) (he : ∀ a w, Rep n a fr → (execOp a.eval o).run P w = .ok (.enter f args) w) (hc : ∀ w, Mem W L0 w → Calls P f args w (Meets (ret v) w)) (hg : o.guard = some (q, b)) (hj : (ops[q]?).bind (·.dst) = some e) (hl : look fr e = some (.bool b)) (hd : o.dst = some d) (hn : Nat.blt d n = true)
    (h : TW P n W ops Q L0 t ((d, v) :: fr) L) : TW P n W ops Q L0 (.calm i t) fr L := ⟨fun a hrep =>
  ⟨o, v, ho, by rw [if_pos (wanted_yes hrep hg hj hl)]; intro w hw; unfold calmAt; rw [he a w hrep]; exact ⟨Gr.refl _, (hc w hw).mono fun _ _ h => of_meets h⟩, by rw [hd]; exact h.go _ (hrep.put hn v)⟩⟩
abbrev after (P : Program) (W : Base) (ops : Array Oper) (Q : Exit → Act → World → Prop) (L0 : List Own) (t : Ord) : Exit → Act → World → Prop := Exit.then (fun a' w' => ∃ S', Closed S' ∧ (∀ x, S' x → Mem W L0 x) ∧ S' w' ∧ wpO P ops Q (Mem W L0) t a' S') Q
theorem TW_one (ho : ops[i]? = some o) (h : TL P n W ops (after P W ops Q L0 t) [o] fr L) : TW P n W ops Q L0 (.one i t) fr L := ⟨fun a hrep => ⟨o, ho, fun w hw => h.go a w hrep hw⟩⟩
theorem TW_two {o2 : Oper} (ho : ops[i]? = some o) (ho2 : ops[j]? = some o2) (h : TL P n W ops (after P W ops Q L0 t) [o] fr L) (h2 : TL P n W ops (after P W ops Q L0 u) [o2] fr L) : TW P n W ops Q L0 (.two i t j u) fr L :=
  ⟨fun a hrep => ⟨⟨o, ho, fun w hw => h.go a w hrep hw⟩, ⟨o2, ho2, fun w hw => h2.go a w hrep hw⟩⟩⟩
theorem TW_three {o2 o3 : Oper} {k : Nat} {u2 : Ord} (ho : ops[i]? = some o) (ho2 : ops[j]? = some o2) (ho3 : ops[k]? = some o3) (h : TL P n W ops (after P W ops Q L0 t) [o] fr L) (h2 : TL P n W ops (after P W ops Q L0 u) [o2] fr L) (h3 : TL P n W ops (after P W ops Q L0 u2) [o3] fr L) : TW P n W ops Q L0 (.three i t j u k u2) fr L :=
  ⟨fun a hrep => ⟨⟨o, ho, fun w hw => h.go a w hrep hw⟩, ⟨o2, ho2, fun w hw => h2.go a w hrep hw⟩, ⟨o3, ho3, fun w hw => h3.go a w hrep hw⟩⟩⟩
theorem TW_on {L' : List Own} {fr' : Fr} (hsub : ∀ w, Mem W L' w → Mem W L0 w) (h : TW P n W ops Q L0 t fr' L') : TL P n W ops (after P W ops Q L0 t) [] fr' L' :=
  TL_nil ⟨fun a w hr hm => ⟨Mem W L', closed_mem _ _, hsub, hm, h.go a hr⟩⟩
theorem TW_done (h : E n W .normal Q fr L) : TW P n W ops Q L0 .done fr L := ⟨fun a hr w hw => h.go a w hr hw⟩
/-- a meeting point ahead of what comes next -/
theorem T_midq {x y : Code} {ι : Type} (I : ι → Prop) (F : ι → Fr) (M : ι → List Own)
    (hx : T P n W x (Exit.then (Mid n W I F M) Q) fr L) (hy : ∀ i, I i → T P n W y Q (F i) (M i)) : T P n W x (Exit.then (y.wp P Q) Q) fr L := .mk fun a w hr hm =>
  wp_mono (hx.go a w hr hm) fun e a w h => by
    cases e with
    | normal => obtain ⟨i, h1, h2, h3⟩ := h; exact (hy i h1).go a w h2 h3
    | _ => exact h
/-- a condition that is a comparison -/
theorem T_condD {c : Operand} {x y : Code} {p : Prop} {inst : Decidable p} (hc : ev fr c = some (.bool (decide p))) (ht : p → T P n W x Q fr L) (hf : ¬ p → T P n W y Q fr L) : T P n W (.cond c x y) Q fr L := by
  by_cases h : p
  · exact T_condT (by rw [hc, decide_eq_true h]) (ht h)
  · exact T_condF (by rw [hc, decide_eq_false h]) (hf h)
/-- a guarded operation whose guard is met -/
theorem TL_met {rest : List Oper} {q e : Nat} {b : Bool} (hg : o.guard = some (q, b)) (hj : (ops[q]?).bind (·.dst) = some e) (hl : look fr e = some (.bool b)) (h : TL P n W ops Q ({ o with guard := none } :: rest) fr L) : TL P n W ops Q (o :: rest) fr L := .mk fun a w hr hm => by
  have h1 := h.go a w hr hm
  unfold wpList at h1 ⊢
  rw [if_pos (wanted_none rfl)] at h1
  rw [if_pos (wanted_yes hr hg hj hl)]
  exact h1
theorem TW_valg (ho : ops[i]? = some o) (hg : o.guard = none) (hr : RR P n W o fr L0 v) (hd : o.dst = some d) (hn : Nat.blt d n = true) (h : TW P n W ops Q L0 t ((d, v) :: fr) L) : TW P n W ops Q L0 (.calm i t) fr L := TW_val ho hr hg hd hn h
theorem TW_gvalg {q e : Nat} {b : Bool} (ho : ops[i]? = some o) (hg : o.guard = some (q, b)) (hj : (ops[q]?).bind (·.dst) = some e) (hl : look fr e = some (.bool b)) (hr : RR P n W o fr L0 v) (hd : o.dst = some d) (hn : Nat.blt d n = true) (h : TW P n W ops Q L0 t ((d, v) :: fr) L) : TW P n W ops Q L0 (.calm i t) fr L := TW_gval ho hr hg hj hl hd hn h
/-- a calm operation that is wanted -/
structure TN (P : Program) (n : Nat) (W : Base) (ops : Array Oper) (Q : Exit → Act → World → Prop) (L0 : List Own) (o : Oper) (t : Ord) (fr : Fr) (L : List Own) : Prop where
  go : ∀ a, Rep n a fr → ∃ v, (∀ w, Mem W L0 w → calmAt P o a w v) ∧ wpO P ops Q (Mem W L0) t (a.put o.dst v) (Mem W L)
theorem TW_plain (ho : ops[i]? = some o) (hg : o.guard = none) (h : TN P n W ops Q L0 o t fr L) : TW P n W ops Q L0 (.calm i t) fr L := ⟨fun a hrep => by
  obtain ⟨v, h1, h2⟩ := h.go a hrep
  exact ⟨o, v, ho, by rw [if_pos (wanted_none hg)]; exact h1, h2⟩⟩
theorem TW_gmet {q e : Nat} {b : Bool} (ho : ops[i]? = some o) (hg : o.guard = some (q, b)) (hj : (ops[q]?).bind (·.dst) = some e) (hl : look fr e = some (.bool b)) (h : TN P n W ops Q L0 o t fr L) : TW P n W ops Q L0 (.calm i t) fr L := ⟨fun a hrep => by
  obtain ⟨v, h1, h2⟩ := h.go a hrep
  exact ⟨o, v, ho, by rw [if_pos (wanted_yes hrep hg hj hl)]; exact h1, h2⟩⟩
theorem TN_val (hr : RR P n W o fr L0 v) (hd : o.dst = some d) (hn : Nat.blt d n = true) (h : TW P n W ops Q L0 t ((d, v) :: fr) L) : TN P n W ops Q L0 o t fr L := ⟨fun a hrep =>
  ⟨v, fun w hw => by unfold calmAt; rw [hr.go a w hrep hw]; exact ⟨rfl, Gr.refl _⟩, by rw [hd]; exact h.go _ (hrep.put hn v)⟩⟩
theorem QW (hr : RR P n W o fr L0 v) (h : TW P n W ops Q L0 t ((d, v) :: fr) L) (hd : o.dst = some d := by exact rfl) (hn : Nat.blt d n = true := by exact rfl) : TN P n W ops Q L0 o t fr L := TN_val hr hd hn h
end
end Go.Proofs.Ytmcclhddjielnaa.eng

/- Room -/
namespace Go.Proofs.Ytmcclhddjielnaa.eng
open Go.RowKit kit mix
section
variable {P : Program} {n : Nat} {W : Base} {fr : Fr} {L : List Own} {Q : Exit → Act → World → Prop} {ops : Array Oper} {rest : List Oper} {d : Nat} {dst : Option Tmp} {ty : TypeId} {pos : String} {after : Array Edge} {guard : Option (Nat × Bool)}
theorem rr_cap {t e : TypeId} {x : Operand} {p : Option Addr} {m cap : Nat} (ht : P.underlying t = some (.slice e)) (hx : ev fr x = some (.slice p m cap)) : RR P n W ⟨dst, .call { callee := .builtin .cap, args := #[x], argTypes := #[t] }, ty, pos, after, guard⟩ fr L (.int .i64 cap) := .mk fun a w hr _ => by
  have hx' := hr.ev hx
  simp [BigFrame.execOp_builtin, BigFrame.builtin_cap, Builtin.cap_, hx', run_underlying ht, goInt]
/-- 'make([]T, m, cap)': a block that is known whole -/
theorem TL_makeB {t e : TypeId} {x y : Operand} {c bytes m cap : Nat} {k k' : IntKind} {zs : Array Value} [hel : ElC P t e c bytes] [hz0 : ZeroC P e zs] (hx : ev fr x = some (.int k (m : Int))) (hy : ev fr y = some (.int k' (cap : Int))) (hmc : m ≤ cap) (hb : bytes * cap ≤ 281474976710656) (h63 : cap ≤ 9223372036854775807) (hn : Nat.blt d n = true)
    (h : ∀ g, TL P n W ops Q rest ((d, .slice (some ⟨g, 0, none⟩) m cap) :: fr) (L ++ [blkO g (madeCells zs (cap * c)) e])) : TL P n W ops Q (⟨some d, .makeSlice t x y, ty, pos, after, none⟩ :: rest) fr L := TL_any rfl fun a w hr hm K hK => by
  obtain ⟨i, z, ht, hi, hz, hc, hby, hzc, h0⟩ := hel.el.ex
  obtain ⟨i2, z2, hi2, hz2, hz3⟩ := ZeroC.ex (P := P) (t := e)
  rw [hi] at hi2
  obtain rfl : i = i2 := Option.some.inj hi2
  rw [hz] at hz2
  obtain rfl : z = z2 := Option.some.inj hz2
  have hb2 : (i.bytes : Int) * (cap : Int) ≤ 281474976710656 := by
    rw [hby, ← Int.natCast_mul]; omega
  have hrun := run_make (P := P) w t e i z ht hi hz k k' (m : Int) (cap : Int) (by omega) (by omega) hb2 (by omega)
  rw [Int.toNat_natCast, Int.toNat_natCast, hc, hz3] at hrun
  have e' : (execOp a.eval ⟨some d, .makeSlice t x y, ty, pos, after, none⟩).run P w = .ok (.value (.slice (some ⟨w.heap.size, 0, none⟩) m cap)) (w.alloc (.cells (madeCells zs (cap * c)) e)) := by
    simp only [execOp, hr.ev hx, hr.ev hy, Sem.run_bind, hrun, Result.andThen_ok, Sem.run_pure]
  unfold Oper.wp; rw [e']
  exact hK _ _ ((h w.heap.size).go _ _ (hr.put hn _) (hm.append (gr_alloc w _) (Owns.one (heap_alloc_new w _) fun k hk => by simp only [blkO, Option.some.injEq] at hk; omega)))
/-- the same, as an own slice of zeros -/
theorem Mem.toRowN {w : World} {i g m cap size : Nat} {cs : Array Value} {e : TypeId} (h : Mem W L w) (hi : L[i]? = some (blkO g cs e)) (hc : cs.size = cap * size) (hmc : m ≤ cap) (hcap : cap ≤ 9223372036854775807) : Mem W (L.set i (rowO e size (.slice (some ⟨g, 0, none⟩) m cap) m (cs.toList.take (m * size)))) w :=
  h.turn hi ⟨rfl, rfl, rfl, Nat.le_refl _, fun _ _ _ => rfl⟩ ⟨by rw [List.length_take, Array.length_toList, hc, Nat.min_eq_left (Nat.mul_le_mul_right _ hmc)], .inr ⟨g, cap, cs, rfl, Nat.zero_le _, h.get hi, hmc, by unfold maxLen; omega, hc, rfl⟩⟩ fun k hk => .inl hk
theorem TL_toRowN {i g m cap : Nat} {cs : Array Value} {e : TypeId} (size : Nat) (hi : L[i]? = some (blkO g cs e)) (hc : cs.size = cap * size) (hmc : m ≤ cap) (hcap : cap ≤ 9223372036854775807) (h : TL P n W ops Q rest fr (L.set i (rowO e size (.slice (some ⟨g, 0, none⟩) m cap) m (cs.toList.take (m * size))))) : TL P n W ops Q rest fr L :=
  ⟨fun a w hr hmm => h.go a w hr (hmm.toRowN hi hc hmc hcap)⟩
theorem T_toRowN {c : Code} {i g m cap : Nat} {cs : Array Value} {e : TypeId} (size : Nat) (hi : L[i]? = some (blkO g cs e)) (hc : cs.size = cap * size) (hmc : m ≤ cap) (hcap : cap ≤ 9223372036854775807) (h : T P n W c Q fr (L.set i (rowO e size (.slice (some ⟨g, 0, none⟩) m cap) m (cs.toList.take (m * size))))) : T P n W c Q fr L :=
  ⟨fun a w hr hmm => h.go a w hr (hmm.toRowN hi hc hmc hcap)⟩
/-- an own slice's block, seen whole -/
theorem Mem.openRow {w : World} {i m size : Nat} {v : Value} {xs : List Value} {e : TypeId} (h : Mem W L w) (hi : L[i]? = some (rowO e size v m xs)) : (v = .slice none 0 0 ∧ m = 0) ∨ ∃ g cap cs, v = .slice (some ⟨g, 0, none⟩) m cap ∧ m ≤ cap ∧ cap ≤ 9223372036854775807 ∧ cs.size = cap * size ∧ cs.toList.take (m * size) = xs ∧ Mem W (L.set i (blkO g cs e)) w := by
  have h1 : w.ownsRow 0 e size v m xs := h.get hi
  rcases h1.2 with ⟨hv, h0⟩ | ⟨g, cap, cs, hv, hb, hg, hmc, hcm, hcs, htk⟩
  · exact .inl ⟨hv, h0⟩
  · refine .inr ⟨g, cap, cs, hv, hmc, by unfold maxLen at hcm; omega, hcs, htk, ?_⟩
    refine h.turn hi ⟨rfl, rfl, rfl, Nat.le_refl _, fun _ _ _ => rfl⟩ hg fun k hk => .inl ?_
    simp only [blkO, Option.some.injEq] at hk
    subst hk
    show v.ownBlock = some g
    rw [hv]; rfl
theorem TL_openRow {i m size : Nat} {v : Value} {xs : List Value} {e : TypeId} (hi : L[i]? = some (rowO e size v m xs)) (h0 : v = .slice none 0 0 → m = 0 → TL P n W ops Q rest fr L)
    (h : ∀ g cap cs, v = .slice (some ⟨g, 0, none⟩) m cap → m ≤ cap → cap ≤ 9223372036854775807 → cs.size = cap * size → cs.toList.take (m * size) = xs → TL P n W ops Q rest fr (L.set i (blkO g cs e))) : TL P n W ops Q rest fr L := ⟨fun a w hr hm => by
  rcases hm.openRow hi with ⟨a1, a2⟩ | ⟨g, cap, cs, a1, a2, a3, a4, a5, a6⟩
  · exact (h0 a1 a2).go a w hr hm
  · exact (h g cap cs a1 a2 a3 a4 a5).go a w hr a6⟩
theorem T_openRow {c : Code} {i m size : Nat} {v : Value} {xs : List Value} {e : TypeId} (hi : L[i]? = some (rowO e size v m xs)) (h0 : v = .slice none 0 0 → m = 0 → T P n W c Q fr L)
    (h : ∀ g cap cs, v = .slice (some ⟨g, 0, none⟩) m cap → m ≤ cap → cap ≤ 9223372036854775807 → cs.size = cap * size → cs.toList.take (m * size) = xs → T P n W c Q fr (L.set i (blkO g cs e))) : T P n W c Q fr L := ⟨fun a w hr hm => by
  rcases hm.openRow hi with ⟨a1, a2⟩ | ⟨g, cap, cs, a1, a2, a3, a4, a5, a6⟩
  · exact (h0 a1 a2).go a w hr hm
  · exact (h g cap cs a1 a2 a3 a4 a5).go a w hr a6⟩
/-- 'append(s, x...)' where there is room: into the block -/
theorem TL_appB {t e : TypeId} {s x : Operand} {i g size bytes m k c cap : Nat} {cs cs' : Array Value} {ys : List Value} {a : Addr} [hel : ElC P t e size bytes] (hi : L[i]? = some (blkO g cs e)) (hs : ev fr s = some (.slice (some ⟨g, 0, none⟩) m cap)) (hx : ev fr x = some (.slice (some a) k c))
    (hy : ∀ w, Mem W L w → ∀ j u, ys[j]? = some u → w.cell? (a.add j) = some u) (hl : ys.length = k * size) (h1 : ∀ u ∈ ys, u.oneCell' = true) (hroom : m + k ≤ cap) (hfit : m * size + ys.length ≤ cs.size) (hcs : cs' = (cs.toList.take (m * size) ++ ys ++ cs.toList.drop (m * size + ys.length)).toArray) (hn : Nat.blt d n = true)
    (h : TL P n W ops Q rest ((d, .slice (some ⟨g, 0, none⟩) (m + k) cap) :: fr) (L.set i (blkO g cs' e))) :
    TL P n W ops Q (⟨some d, .call { callee := .builtin .append, args := #[s, x], argTypes := #[t, t] }, ty, pos, after, none⟩ :: rest) fr L := TL_any rfl fun act w hr hm K hK => by
  obtain ⟨inf, z, ht, hinf, hz, hsize, hby, hzs, hsz⟩ := hel.el.ex
  subst hsize
  have hg : w.heap[g]? = some (.cells cs e (0, 0)) := hm.get hi
  have hrun := run_append_room (P := P) w t ty e inf ht hinf g m cap cs hg a k c ys hl (hy w hm) h1 hroom hfit
  rw [← hcs] at hrun
  have e' : (execOp act.eval ⟨some d, .call { callee := .builtin .append, args := #[s, x], argTypes := #[t, t] }, ty, pos, after, none⟩).run P w = .ok (.value (.slice (some ⟨g, 0, none⟩) (m + k) cap)) (w.setRow g cs') := by
    simp only [BigFrame.execOp_builtin, BigFrame.builtin_append, List.map_toArray, List.map_cons, List.map_nil, hr.ev hs, hr.ev hx, Sem.run_bind, hrun, Result.andThen_ok, Sem.run_pure]
  unfold Oper.wp; rw [e']
  exact hK _ _ (h.go _ _ (hr.put hn _) (hm.turn hi ⟨rfl, rfl, rfl, by simp, fun k _ hk => setRow_other w g k _ (fun e => hk (by subst e; rfl))⟩ (setRow_heap w g cs _ e _ hg) fun k hk => .inl hk))
/-- the same of nothing (nil) -/
theorem TL_appB0 {t e : TypeId} {s x : Operand} {i g size bytes m c cap : Nat} {cs : Array Value} [hel : ElC P t e size bytes] (hi : L[i]? = some (blkO g cs e)) (hs : ev fr s = some (.slice (some ⟨g, 0, none⟩) m cap)) (hx : ev fr x = some (.slice none 0 c)) (hm0 : m ≤ cap) (hn : Nat.blt d n = true)
    (h : TL P n W ops Q rest ((d, .slice (some ⟨g, 0, none⟩) m cap) :: fr) L) :
    TL P n W ops Q (⟨some d, .call { callee := .builtin .append, args := #[s, x], argTypes := #[t, t] }, ty, pos, after, none⟩ :: rest) fr L := TL_any rfl fun act w hr hm K hK => by
  obtain ⟨inf, z, ht, hinf, hz, hsize, hby, hzs, hsz⟩ := hel.el.ex
  have e' : (execOp act.eval ⟨some d, .call { callee := .builtin .append, args := #[s, x], argTypes := #[t, t] }, ty, pos, after, none⟩).run P w = .ok (.value (.slice (some ⟨g, 0, none⟩) m cap)) w := by
    simp [BigFrame.execOp_builtin, BigFrame.builtin_append, hr.ev hs, hr.ev hx, Builtin.append_, run_underlying ht, sizeOf, typeInfo, hinf, Builtin.lenOf, Builtin.firstCells, loadCells, loadCellsFrom, hm0, storeCells]
  unfold Oper.wp; rw [e']
  exact hK _ _ (h.go _ _ (hr.put hn _) hm)
/-- whatever slice that can be read -/
theorem TL_appBs {t e : TypeId} {s x : Operand} {i g size bytes m k cap : Nat} {v2 : Value} {cs cs' : Array Value} {ys : List Value} [hel : ElC P t e size bytes] (hi : L[i]? = some (blkO g cs e)) (hs : ev fr s = some (.slice (some ⟨g, 0, none⟩) m cap)) (hx : ev fr x = some v2) (hx2 : SlL W L v2 k ys)
    (hl : ys.length = k * size) (h1 : ∀ u ∈ ys, u.oneCell' = true) (hroom : m + k ≤ cap) (hfit : m * size + ys.length ≤ cs.size) (hcs : cs' = (cs.toList.take (m * size) ++ ys ++ cs.toList.drop (m * size + ys.length)).toArray) (hn : Nat.blt d n = true)
    (h : TL P n W ops Q rest ((d, .slice (some ⟨g, 0, none⟩) (m + k) cap) :: fr) (L.set i (blkO g cs' e))) :
    TL P n W ops Q (⟨some d, .call { callee := .builtin .append, args := #[s, x], argTypes := #[t, t] }, ty, pos, after, none⟩ :: rest) fr L := ⟨fun act w hr hm => by
  obtain ⟨base, c, rfl, hc1, hc2, hrd⟩ := hx2 w hm
  cases base with
  | none =>
    have hk0 : k = 0 := by
      rcases Nat.eq_zero_or_pos k with h | h
      · exact h
      · obtain ⟨b, off, h, _⟩ := hrd h; cases h
    subst hk0
    have hy : ys = [] := List.eq_nil_of_length_eq_zero (by rw [hl]; simp)
    subst hy
    have e0 : cs' = cs := by rw [hcs]; simp
    subst e0
    have hset : L.set i (blkO g cs' e) = L := by
      apply List.ext_getElem?
      intro q
      by_cases hq : i = q
      · subst hq
        rw [List.getElem?_set_self (List.getElem?_eq_some_iff.1 hi).1, hi]
      · rw [List.getElem?_set_ne hq]
    rw [hset] at h
    exact (TL_appB0 hi hs hx (by omega) hn h).go act w hr hm
  | some p =>
    refine (TL_appB (c := c) hi hs hx (fun w' hm' => ?_) hl h1 hroom hfit hcs hn h).go act w hr hm
    intro j u hj
    obtain ⟨base, c', he, _, _, hrd'⟩ := hx2 w' hm'
    simp only [Value.slice.injEq, true_and] at he
    obtain ⟨he, _⟩ := he
    have hk : 0 < k := by
      rcases Nat.eq_zero_or_pos k with h | h
      · subst h
        have := (List.getElem?_eq_some_iff.1 hj).1
        rw [hl] at this; simp at this
      · exact h
    obtain ⟨b, off, hb, hr'⟩ := hrd' hk
    rw [← he] at hb
    simp only [Option.some.injEq] at hb
    subst hb
    rw [addr_add]; exact hr' j u hj⟩
/-- a slice over a block that is known whole -/
theorem sl_blk {i g m cap : Nat} {cs : Array Value} {T : TypeId} {xs : List Value} (hi : L[i]? = some (blkO g cs T)) (hx : ∀ (j : Nat) (u : Value), xs[j]? = some u → cs[j]? = some u) (hmc : m ≤ cap) (hcap : cap ≤ 9223372036854775807) : SlL W L (.slice (some ⟨g, 0, none⟩) m cap) m xs := fun w hm =>
  ⟨_, cap, rfl, hmc, by unfold maxLen; omega, fun _ => ⟨g, 0, rfl, fun j u hj => by
    rw [Nat.zero_add]; exact at_blk hi (hx j u hj) w hm⟩⟩
end
theorem madeC {z : Array Value} {k m : Nat} (h : z.size = k) (h0 : 0 < k) : madeCells z (m * k) = ((List.replicate m z.toList).flatten).toArray := by
  subst h
  apply Array.ext_getElem?
  intro j
  unfold madeCells
  by_cases hj : j < m * z.size
  · have h2 : j / z.size < m := (Nat.div_lt_iff_lt_mul h0).2 hj
    have h3 := Nat.mod_lt j h0
    have key : ∀ (m j : Nat), j < m * z.size → ((List.replicate m z.toList).flatten)[j]? = z.toList[j % z.size]? := by
      intro m
      induction m with
      | zero => intro j hj; simp at hj
      | succ m ih =>
        intro j hj
        rw [List.replicate_succ, List.flatten_cons]
        by_cases hc : j < z.size
        · rw [List.getElem?_append_left (by simpa using hc), Nat.mod_eq_of_lt hc]
        · rw [List.getElem?_append_right (by simp; omega)]
          simp only [Array.length_toList]
          rw [ih (j - z.size) (by rw [Nat.succ_mul] at hj; omega)]
          congr 1
          exact (Nat.mod_eq_sub_mod (by omega)).symm
    simp only [List.getElem?_toArray, key m j hj]
    simp [hj, h3]
  · have : ((List.replicate m z.toList).flatten).length = m * z.size := by simp
    rw [Array.getElem?_eq_none (by simp; omega), List.getElem?_toArray, List.getElem?_eq_none (by omega)]
/-! ### literals of structs -/
theorem foldl_set : ∀ (xs : List Value) (acc : Array Value) (off k : Nat), off + k + xs.length ≤ acc.size → (xs.toArray.zipIdx k).foldl (fun cs (x : Value × Nat) => cs.setIfInBounds (off + x.2) x.1) acc = (acc.toList.take (off + k) ++ xs ++ acc.toList.drop (off + k + xs.length)).toArray
  | [], acc, off, k, _ => by
    have e0 : (([] : List Value).toArray.zipIdx k) = #[] := by apply Array.ext'; simp
    rw [e0]; simp
  | x :: xs, acc, off, k, h => by
    simp only [List.length_cons] at h
    have e : (x :: xs).toArray.zipIdx k = #[(x, k)] ++ xs.toArray.zipIdx (k + 1) := by
      apply Array.ext'
      simp [List.zipIdx_cons]
    rw [e, Array.foldl_append]
    have e2 : (#[(x, k)] : Array (Value × Nat)).foldl (fun cs (x : Value × Nat) => cs.setIfInBounds (off + x.2) x.1) acc = acc.setIfInBounds (off + k) x := by simp
    rw [e2, foldl_set xs _ off (k + 1) (by simp; omega)]
    congr 1
    have hA : (acc.toList.take (off + k)).length = off + k := by simp; omega
    have hA1 : (acc.toList.take (off + k) ++ [x]).length = off + k + 1 := by rw [List.length_append, hA]; rfl
    have e3 : acc.toList.set (off + k) x = (acc.toList.take (off + k) ++ [x]) ++ acc.toList.drop (off + k + 1) := by
      rw [List.set_eq_take_append_cons_drop, if_pos (by simp; omega)]; simp
    simp only [Array.toList_setIfInBounds, List.length_cons]
    rw [e3, show off + (k + 1) = off + k + 1 by omega, List.take_left' hA1, ← List.drop_drop, List.drop_left' hA1, List.drop_drop]
    simp only [List.append_assoc, List.cons_append, List.nil_append]
    rw [show off + k + 1 + xs.length = off + k + (xs.length + 1) by omega]
theorem fillN {c : Nat} (c0 : Nat → Option (Nat × Nat)) (hc0 : ∀ i, c0 i = some (i * c, c)) : ∀ (vs : List Value) (k : Nat) (acc : Array Value), (k + vs.length) * c ≤ acc.size → (∀ v ∈ vs, v.cells.size = c) →
    Instr.fill c0 acc ((vs.zipIdx k).map fun (v, i) => (i, v)) = some (acc.toList.take (k * c) ++ vs.flatMap (fun v => v.cells.toList) ++ acc.toList.drop ((k + vs.length) * c)).toArray
  | [], k, acc, h, _ => by simp [Instr.fill]
  | v :: vs, k, acc, h, h1 => by
    simp only [List.length_cons] at h
    have hv := h1 v (by simp)
    have hsz : k * c + c ≤ acc.size := by
      have : (k + 1) * c ≤ (k + (vs.length + 1)) * c := Nat.mul_le_mul_right _ (by omega)
      rw [Nat.add_mul, Nat.one_mul] at this; omega
    rw [List.zipIdx_cons, List.map_cons]
    simp only [Instr.fill, hc0]
    rw [if_neg (by simp [hv]; omega)]
    have hfold := foldl_set v.cells.toList acc (k * c) 0 (by simp [hv]; exact hsz)
    simp only [Array.toArray_toList, Nat.add_zero, Array.length_toList, hv] at hfold
    rw [hfold, fillN c0 hc0 vs (k + 1) _ (by simp [hv]; rw [Nat.add_mul, Nat.add_mul] at *; omega) (fun u hu => h1 u (by simp [hu]))]
    congr 2
    have hA : (acc.toList.take (k * c)).length = k * c := by simp; omega
    have hA1 : (acc.toList.take (k * c) ++ v.cells.toList).length = (k + 1) * c := by rw [List.length_append, hA, Array.length_toList, hv, Nat.add_mul, Nat.one_mul]
    simp only [List.flatMap_cons, List.length_cons]
    rw [List.take_left' hA1]
    have e5 : (k + 1 + vs.length) * c = (k + 1) * c + vs.length * c := Nat.add_mul _ _ _
    rw [e5, ← List.drop_drop, List.drop_left' hA1, List.drop_drop]
    simp only [List.append_assoc]
    rw [show k * c + c + vs.length * c = (k + (vs.length + 1)) * c by rw [Nat.add_mul, Nat.add_mul, Nat.one_mul]; omega]
theorem run_litN {P : Program} {t e : TypeId} {c bytes : Nat} (hel : El P t e c bytes) (vs : List Value) (h1 : ∀ v ∈ vs, v.cells.size = c) (h0 : 0 < vs.length) (hm : vs.length * c ≤ 16777216) (w : World) :
    (Instr.buildSlice t vs.length (vs.zipIdx.map fun (v, i) => (i, v)).toArray).run P w = .ok (.slice (some ⟨w.heap.size, 0, none⟩) vs.length vs.length) (w.alloc (.cells (vs.flatMap fun v => v.cells.toList).toArray e)) := by
  obtain ⟨i, z, ht, hi, hz, hc, _, hzc, hp⟩ := hel.ex
  have hfill := fillN (c := c) (fun i => some (i * c, c)) (by simp) vs 0 ((Array.range (vs.length * c)).map (z.cells[· % z.cells.size]!)) (by simp) h1
  simp only [Nat.zero_mul, List.take_zero, List.nil_append, Nat.zero_add] at hfill
  rw [List.drop_of_length_le (by simp)] at hfill
  simp only [List.append_nil] at hfill
  have hne : ¬ (vs.length * c > 2 ^ 24) := by omega
  have hne2 : ¬ (vs.length * c = 0) := by
    have := Nat.mul_pos h0 hp; omega
  simp only [Instr.buildSlice, Sem.run_bind, run_underlying ht, Result.andThen_ok, sizeOf, typeInfo, run_program, hi, Sem.run_pure, hc, zeroValue, hz, if_neg hne, if_neg hne2]
  simp only [hfill, newRow]
  simp
section
variable {P : Program} {n : Nat} {W : Base} {fr : Fr} {L : List Own} {Q : Exit → Act → World → Prop} {ops : Array Oper} {rest : List Oper} {d : Nat} {dst : Option Tmp} {ty : TypeId} {pos : String} {after : Array Edge} {guard : Option (Nat × Bool)}
theorem TL_litN {t e : TypeId} {c bytes m : Nat} {parts : Array (Nat × Operand)} {cs : Array Value} (vs : List Value) [hel : ElC P t e c bytes] (hp : partsEv fr parts.toList = some (vs.zipIdx.map fun (v, i) => (i, v))) (hm : vs.length = m) (h0 : Nat.blt 0 m = true) (h1 : ∀ v ∈ vs, v.cells.size = c) (hs : Nat.ble (m * c) 16777216 = true) (hcs : cs = (vs.flatMap fun v => v.cells.toList).toArray) (hn : Nat.blt d n = true)
    (h : ∀ g, TL P n W ops Q rest ((d, .slice (some ⟨g, 0, none⟩) m m) :: fr) (L ++ [blkO g cs e])) : TL P n W ops Q (⟨some d, .buildSlice t m parts, ty, pos, after, none⟩ :: rest) fr L := by
  subst hm hcs
  refine TL_lit (fun a w hr => ?_) hn h
  have e : (parts.map fun (i, x) => (i, a.eval x)) = (vs.zipIdx.map fun (v, i) => (i, v)).toArray := by
    rw [← partsEv_of hr _ _ hp, ← Array.toList_map, Array.toArray_toList]
  rw [e]
  exact run_litN hel.el vs h1 (Nat.le_of_ble_eq_true h0) (Nat.le_of_ble_eq_true hs) w
/-- 's[:k]' of a slice -/
theorem rr_slpre {t e : TypeId} {x z : Operand} {agg : Bool} {c j len cap : Nat} {base : Option Addr} {k : IntKind} (ht : P.underlying t = some (.slice e)) (he : Ty P e agg c) (hx : ev fr x = some (.slice base len cap)) (hz : ev fr z = some (.int k (j : Int))) (h : j ≤ cap) : RR P n W ⟨dst, .slice t x none (some z) none, ty, pos, after, guard⟩ fr L (.slice base j cap) := .mk fun a w hr hm => by
  have h1 := (rr_slupto (P := P) (n := n) (W := W) (L := L) (dst := dst) (ty := ty) (pos := pos) (after := after) (guard := guard) ht he hx hz h).go a w hr hm
  have e1 : subV base cap c 0 j = .slice base j cap := by
    unfold subV
    cases base with
    | none => simp
    | some q => simp [Addr.add]
  rw [e1] at h1; exact h1
/-- nothing is handed back -/
theorem E_ret0 {fn : Func} {R : Ending → World → Prop} (hres : fn.results = #[]) (h : ∀ w, Mem W L w → R (.returned (.tuple #[])) w) : E n W .ret (bodyPost P fn R) fr L :=
  E_ret fun a w hr hm => ⟨.tuple #[], by simp [results, hres], h w hm⟩
/-- the text's end is come to -/
theorem E_end0 {fn : Func} {R : Ending → World → Prop} (hres : fn.results = #[]) (h : ∀ w, Mem W L w → R (.returned (.tuple #[])) w) : E n W .normal (bodyPost P fn R) fr L :=
  ⟨fun a w hr hm => ⟨hr.defers, .tuple #[], by simp [results, hres], h w hm⟩⟩
end
end Go.Proofs.Ytmcclhddjielnaa.eng

/- Shp -/
namespace Go.Proofs.Ytmcclhddjielnaa.eng
open Go.RowKit kit mix
/-- how a datum reads, all of its blocks being in F -/
structure Shp (α : Type) where
  c : Nat
  is : (Nat → Prop) → World → List Value → α → Prop
  len : ∀ {F w cs a}, is F w cs a → cs.length = c
  stay : ∀ {F w w' cs a}, is F w cs a → (∀ k, F k → w'.heap[k]? = w.heap[k]?) → is F w' cs a
  mono : ∀ {F F' w cs a}, is F w cs a → (∀ k, F k → F' k) → is F' w cs a
def All : Nat → Prop := fun _ => True
theorem rd_stay {w w' : World} {b off : Nat} {cs : List Value} (h : Rd w b off cs) (hk : w'.heap[b]? = w.heap[b]?) : Rd w' b off cs := fun j u hj => by
  rw [World.cell?_of_block (w := w) (a := ⟨b, off + j, none⟩) hk]; exact h j u hj
/-- a slice -/
def SlF {α : Type} (s : Shp α) (F : Nat → Prop) (w : World) (v : Value) (l : List α) : Prop :=
  ∃ base cap, v = .slice base l.length cap ∧ l.length ≤ cap ∧ cap ≤ maxLen ∧ (0 < l.length → ∃ b off, base = some ⟨b, off, none⟩ ∧ F b ∧ ∀ i (h : i < l.length), ∃ cs, s.is F w cs l[i] ∧ Rd w b (off + i * s.c) cs)
section
variable {α β : Type} {s : Shp α} {F F' : Nat → Prop} {w w' : World} {v : Value} {l : List α}
theorem SlF.stay (h : SlF s F w v l) (hk : ∀ k, F k → w'.heap[k]? = w.heap[k]?) : SlF s F w' v l :=
  let ⟨base, cap, h1, h2, h3, h4⟩ := h
  ⟨base, cap, h1, h2, h3, fun h0 => let ⟨b, off, h5, h6, h7⟩ := h4 h0; ⟨b, off, h5, h6, fun i hi => let ⟨cs, h8, h9⟩ := h7 i hi; ⟨cs, s.stay h8 hk, rd_stay h9 (hk b h6)⟩⟩⟩
theorem SlF.mono (h : SlF s F w v l) (hk : ∀ k, F k → F' k) : SlF s F' w v l :=
  let ⟨base, cap, h1, h2, h3, h4⟩ := h
  ⟨base, cap, h1, h2, h3, fun h0 => let ⟨b, off, h5, h6, h7⟩ := h4 h0; ⟨b, off, h5, hk b h6, fun i hi => let ⟨cs, h8, h9⟩ := h7 i hi; ⟨cs, s.mono h8 hk, h9⟩⟩⟩
theorem SlF.nil : SlF s F w (.slice none 0 0) [] := ⟨none, 0, rfl, Nat.le_refl _, by decide, fun h => by simp at h⟩
/-- cells that a function tells -/
def flatS (f : α → List Value) (c : Nat) (hc : ∀ a, (f a).length = c) (p : α → Prop) : Shp α :=
  ⟨c, fun _ _ cs a => cs = f a ∧ p a, fun h => by rw [h.1, hc], fun h _ => h, fun h _ => h⟩
def intS : Shp Int := flatS (fun n => [.int .i64 n]) 1 (fun _ => rfl) kit.okI64
def boolS : Shp Bool := flatS (fun b => [.bool b]) 1 (fun _ => rfl) (fun _ => True)
def strS : Shp (List UInt8) := flatS (fun s => [str s]) 1 (fun _ => rfl) (fun s => s.length ≤ 9223372036854775807)
def sliceS (s : Shp α) : Shp (List α) :=
  ⟨1, fun F w cs l => ∃ v, cs = [v] ∧ SlF s F w v l, fun ⟨_, h, _⟩ => by rw [h]; rfl, fun ⟨v, h1, h2⟩ hk => ⟨v, h1, h2.stay hk⟩, fun ⟨v, h1, h2⟩ hk => ⟨v, h1, h2.mono hk⟩⟩
/-- one behind the other -/
def pairS (s : Shp α) (t : Shp β) : Shp (α × β) :=
  ⟨s.c + t.c, fun F w cs x => ∃ c1 c2, cs = c1 ++ c2 ∧ s.is F w c1 x.1 ∧ t.is F w c2 x.2, fun ⟨_, _, h, h1, h2⟩ => by rw [h, List.length_append, s.len h1, t.len h2],
    fun ⟨c1, c2, h, h1, h2⟩ hk => ⟨c1, c2, h, s.stay h1 hk, t.stay h2 hk⟩, fun ⟨c1, c2, h, h1, h2⟩ hk => ⟨c1, c2, h, s.mono h1 hk, t.mono h2 hk⟩⟩
/-- a slice of flat elements -/
theorem SlF.flat {f : α → List Value} {c : Nat} {hc : ∀ a, (f a).length = c} {p : α → Prop} (hc0 : 0 < c) (h : SlF (flatS f c hc p) F w v l) : Sl w v l.length (l.flatMap f) := by
  obtain ⟨base, cap, h1, h2, h3, h4⟩ := h
  have hx : SlX w (fun cs a => cs = f a) c v l := ⟨base, cap, h1, h2, h3, fun h0 => let ⟨b, off, h5, _, h7⟩ := h4 h0; ⟨b, off, h5, fun i hi => let ⟨cs, h8, h9⟩ := h7 i hi; ⟨cs, h8.1, h9⟩⟩⟩
  exact hx.flat hc hc0 fun cs a h => h
theorem SlF.okp {f : α → List Value} {c : Nat} {hc : ∀ a, (f a).length = c} {p : α → Prop} (h : SlF (flatS f c hc p) F w v l) : ∀ a ∈ l, p a := fun a ha => by
  obtain ⟨i, hi, rfl⟩ := List.mem_iff_getElem.1 ha
  obtain ⟨base, cap, h1, h2, h3, h4⟩ := h
  obtain ⟨b, off, _, _, h7⟩ := h4 (by omega)
  obtain ⟨cs, h8, _⟩ := h7 i hi
  exact h8.2
theorem SlF.of_flat {f : α → List Value} {c : Nat} {hc : ∀ a, (f a).length = c} {p : α → Prop} (h : Sl w v l.length (l.flatMap f)) (hp : ∀ a ∈ l, p a) (hF : ∀ b, v.ownBlock = some b → F b) (hF2 : ∀ a n cp, v = .slice (some a) n cp → F a.block) : SlF (flatS f c hc p) F w v l := by
  obtain ⟨base, cap, h1, h2, h3, h4⟩ := h
  refine ⟨base, cap, h1, h2, h3, fun h0 => ?_⟩
  obtain ⟨b, off, h5, h6⟩ := h4 h0
  refine ⟨b, off, h5, hF2 ⟨b, off, none⟩ l.length cap (by rw [h1, h5]), fun i hi => ⟨f l[i], ⟨rfl, hp _ (List.getElem_mem hi)⟩, fun j u hj => ?_⟩⟩
  have hjc : j < c := by rw [← hc l[i]]; exact (List.getElem?_eq_some_iff.1 hj).1
  have := h6 (i * c + j) u (by rw [get_el hc l i j hi hjc]; exact hj)
  rw [Nat.add_assoc]
  exact this
/-- owned whole -/
def shpO (s : Shp α) (F : Nat → Prop) (cs : List Value) (a : α) : Own :=
  ⟨none, F, fun w => s.is F w cs a ∧ ∀ k, F k → k < w.heap.size, fun w h k hk => h.2 k (hk.elim (fun h => by cases h) id), fun w w' h hs hb => ⟨s.stay h.1 fun k hk => hb k (.inr hk), fun k hk => Nat.lt_of_lt_of_le (h.2 k hk) hs⟩⟩
/-- elements, their cells lying elsewhere -/
def elsO (s : Shp α) (F : Nat → Prop) (css : List (List Value)) (l : List α) : Own :=
  ⟨none, F, fun w => (css.length = l.length ∧ ∀ i (h : i < l.length) (h' : i < css.length), s.is F w css[i] l[i]) ∧ ∀ k, F k → k < w.heap.size, fun w h k hk => h.2 k (hk.elim (fun h => by cases h) id),
    fun w w' h hs hb => ⟨⟨h.1.1, fun i hi hi' => s.stay (h.1.2 i hi hi') fun k hk => hb k (.inr hk)⟩, fun k hk => Nat.lt_of_lt_of_le (h.2 k hk) hs⟩⟩
end
def Or1 (F : Nat → Prop) (v : Value) : Nat → Prop := fun k => F k ∨ v.ownBlock = some k
theorem flatten_get {c : Nat} : ∀ (css : List (List Value)) (hc : ∀ x ∈ css, x.length = c) (i j : Nat) (h : i < css.length), j < c → css.flatten[i * c + j]? = css[i][j]?
  | x :: r, hc, 0, j, h, hj => by
    rw [List.flatten_cons, List.getElem?_append_left (by rw [hc x (by simp)]; omega)]; simp
  | x :: r, hc, i + 1, j, h, hj => by
    have hx := hc x (by simp)
    have ih := flatten_get r (fun y hy => hc y (by simp [hy])) i j (by simpa using h) hj
    rw [List.flatten_cons, List.getElem?_append_right (by rw [hx, Nat.succ_mul]; omega), hx]
    simp only [List.getElem_cons_succ]
    rw [← ih, Nat.succ_mul]
    congr 1; omega
section
variable {α : Type} {s : Shp α} {F : Nat → Prop} {w : World} {v : Value} {l : List α}
/-- a row and its elements' own memory make a slice -/
theorem slf_of {e : TypeId} {css : List (List Value)} (hr : (rowO e s.c v l.length css.flatten).holds w) (he : (elsO s F css l).holds w) (hc0 : 0 < s.c) : SlF s (Or1 F v) w v l := by
  have hr : w.ownsRow 0 e s.c v l.length css.flatten := hr
  obtain ⟨⟨h1, h2⟩, h3⟩ := he
  have hlen : ∀ x ∈ css, x.length = s.c := fun x hx => by
    obtain ⟨i, hi, rfl⟩ := List.mem_iff_getElem.1 hx
    exact s.len (h2 i (by omega) hi)
  obtain ⟨base, cap, h4, h5, h6, h7⟩ := Sl.of_own hr
  refine ⟨base, cap, h4, h5, h6, fun h0 => ?_⟩
  have hb : ∃ g, v = .slice (some ⟨g, 0, none⟩) l.length cap ∧ v.ownBlock = some g := by
    rcases hr.2 with ⟨hv, h0'⟩ | ⟨g, cap', cur, hv, _⟩
    · omega
    · rw [h4] at hv
      simp only [Value.slice.injEq, true_and] at hv
      obtain ⟨rfl, rfl⟩ := hv
      exact ⟨g, h4, by rw [h4]; rfl⟩
  obtain ⟨g, hv, hg⟩ := hb
  rw [h4] at hv
  simp only [Value.slice.injEq, and_true] at hv
  subst hv
  obtain ⟨b, off, h8, h9⟩ := h7 h0
  simp only [Option.some.injEq, Addr.mk.injEq, and_true] at h8
  obtain ⟨rfl, rfl⟩ := h8
  refine ⟨g, 0, rfl, .inr hg, fun i hi => ⟨css[i]'(by omega), s.mono (h2 i hi (by omega)) fun k hk => .inl hk, fun j u hj => ?_⟩⟩
  have hjc : j < s.c := by rw [← hlen (css[i]'(by omega)) (List.getElem_mem _)]; exact (List.getElem?_eq_some_iff.1 hj).1
  have := h9 (i * s.c + j) u (by rw [flatten_get css hlen i j (by omega) hjc]; exact hj)
  rw [Nat.add_assoc]
  exact this
theorem slO_lt {e : TypeId} {css : List (List Value)} {n c : Nat} (hr : (rowO e c v n css.flatten).holds w) (he : (elsO s F css l).holds w) : ∀ k, Or1 F v k → k < w.heap.size := fun k hk => hk.elim (he.2 k) fun h => ((rowO e c v n css.flatten).lt w hr k (.inl h))
/-- one element more -/
theorem els_snoc {F2 : Nat → Prop} {css : List (List Value)} {cs : List Value} {a : α} (he : (elsO s F css l).holds w) (hs : s.is F2 w cs a) (h2 : ∀ k, F2 k → k < w.heap.size) : (elsO s (fun k => F k ∨ F2 k) (css ++ [cs]) (l ++ [a])).holds w := by
  obtain ⟨⟨h1, h3⟩, h4⟩ := he
  refine ⟨⟨by simp [h1], fun i hi hi' => ?_⟩, fun k hk => hk.elim (h4 k) (h2 k)⟩
  by_cases c : i < l.length
  · rw [List.getElem_append_left (by omega), List.getElem_append_left c]
    exact s.mono (h3 i c (by omega)) fun k hk => .inl hk
  · have hi2 : i = l.length := by simp at hi; omega
    subst hi2
    rw [List.getElem_append_right (by omega), List.getElem_append_right (Nat.le_refl _)]
    simp only [h1, Nat.sub_self, List.getElem_cons_zero]
    exact s.mono hs fun k hk => .inr hk
theorem els_nil : (elsO s (fun _ => False) [] []).holds w := ⟨⟨rfl, fun i h => by simp at h⟩, fun k h => h.elim⟩
end
section
variable {P : Program} {n : Nat} {W : Base} {fr : Fr} {L : List Own} {Q : Exit → Act → World → Prop} {ops : Array Oper} {rest : List Oper} {d : Nat}
theorem Mem.merge2 {w : World} (o : Own) (i j : Nat) (js : List Nat) {o1 o2 : Own} {R : List Own} (h : Mem W L w) (hn : ([i, j] ++ js).Nodup) (h1 : L[i]? = some o1) (h2 : L[j]? = some o2) (hR : R = js.filterMap fun i => L[i]?) (hf : ∀ k, o.foot k → o1.foot k ∨ o2.foot k) (hh : ∀ w, o1.holds w → o2.holds w → o.holds w) : Mem W (R ++ [o]) w := by
  refine Mem.merge o (h.pick ([i, j] ++ js) hn ?_) hf (hh w)
  rw [List.filterMap_append, ← hR]
  congr 1
  rw [List.filterMap_cons_some (by exact h1), List.filterMap_cons_some (by exact h2)]; rfl
theorem TL_merge (o : Own) (i j : Nat) (js : List Nat) {o1 o2 : Own} {R : List Own} (hn : ([i, j] ++ js).Nodup) (h1 : L[i]? = some o1) (h2 : L[j]? = some o2) (hR : R = js.filterMap fun i => L[i]?) (hf : ∀ k, o.foot k → o1.foot k ∨ o2.foot k) (hh : ∀ w, o1.holds w → o2.holds w → o.holds w) (h : TL P n W ops Q rest fr (R ++ [o])) : TL P n W ops Q rest fr L := ⟨fun a w hr hm => h.go a w hr (hm.merge2 o i j js hn h1 h2 hR hf hh)⟩
theorem T_merge {c : Code} (o : Own) (i j : Nat) (js : List Nat) {o1 o2 : Own} {R : List Own} (hn : ([i, j] ++ js).Nodup) (h1 : L[i]? = some o1) (h2 : L[j]? = some o2) (hR : R = js.filterMap fun i => L[i]?) (hf : ∀ k, o.foot k → o1.foot k ∨ o2.foot k) (hh : ∀ w, o1.holds w → o2.holds w → o.holds w) (h : T P n W c Q fr (R ++ [o])) : T P n W c Q fr L := ⟨fun a w hr hm => h.go a w hr (hm.merge2 o i j js hn h1 h2 hR hf hh)⟩
theorem E_merge {e : Exit} (o : Own) (i j : Nat) (js : List Nat) {o1 o2 : Own} {R : List Own} (hn : ([i, j] ++ js).Nodup) (h1 : L[i]? = some o1) (h2 : L[j]? = some o2) (hR : R = js.filterMap fun i => L[i]?) (hf : ∀ k, o.foot k → o1.foot k ∨ o2.foot k) (hh : ∀ w, o1.holds w → o2.holds w → o.holds w) (h : E n W e Q fr (R ++ [o])) : E n W e Q fr L := ⟨fun a w hr hm => h.go a w hr (hm.merge2 o i j js hn h1 h2 hR hf hh)⟩
/-- what needs no memory -/
theorem Mem.extra {w : World} (o : Own) (h : Mem W L w) (hf : ∀ k, ¬ o.foot k) (hh : o.holds w) : Mem W (L ++ [o]) w :=
  h.append (Gr.refl w) (OwnsP.one hh fun k hk => absurd hk (hf k))
theorem T_extra {c : Code} (o : Own) (hf : ∀ k, ¬ o.foot k) (hh : ∀ w, o.holds w) (h : T P n W c Q fr (L ++ [o])) : T P n W c Q fr L := ⟨fun a w hr hm => h.go a w hr (hm.extra o hf (hh w))⟩
theorem TL_extra (o : Own) (hf : ∀ k, ¬ o.foot k) (hh : ∀ w, o.holds w) (h : TL P n W ops Q rest fr (L ++ [o])) : TL P n W ops Q rest fr L := ⟨fun a w hr hm => h.go a w hr (hm.extra o hf (hh w))⟩
theorem E_extra {e : Exit} (o : Own) (hf : ∀ k, ¬ o.foot k) (hh : ∀ w, o.holds w) (h : E n W e Q fr (L ++ [o])) : E n W e Q fr L := ⟨fun a w hr hm => h.go a w hr (hm.extra o hf (hh w))⟩
/-- an element of an own slice is written over -/
theorem TL_setRow {α : Type} {f : α → List Value} {c : Nat} (hc : ∀ a, (f a).length = c) {t e : TypeId} {p x : Operand} {i g off cap k m : Nat} {agg : Bool} {l : List α} {a : α} {v : Value} (hT : Ty P t agg c) (hi : L[i]? = some (rowO e c (.slice (some ⟨g, 0, none⟩) m cap) m (l.flatMap f))) (hp : ev fr p = some (.pointer (some ⟨g, off, none⟩))) (hoff : off = k * c) (hk : k < l.length) (hm0 : m = l.length) (hx : ev fr x = some v) (hv : v.cells = (f a).toArray) (h1 : (f a).all Value.oneCell' = true)
    {ty : TypeId} {pos : String} {after : Array Edge}
    (h : TL P n W ops Q rest fr (L.set i (rowO e c (.slice (some ⟨g, 0, none⟩) m cap) m ((l.set k a).flatMap f)))) :
    TL P n W ops Q (⟨none, .store t p x, ty, pos, after, none⟩ :: rest) fr L := TL_any rfl fun act w hr hm K hK => by
  subst hoff hm0
  have hown : w.ownsRow 0 e c (.slice (some ⟨g, 0, none⟩) l.length cap) l.length (l.flatMap f) := hm.get hi
  have hown' := hown
  rcases hown.2 with ⟨h0, _⟩ | ⟨g', cap', cur, he, hbg, hg, hnc, hcm, hcs, htake⟩
  · cases h0
  simp only [Value.slice.injEq, Option.some.injEq, Addr.mk.injEq, and_true, true_and] at he
  obtain ⟨rfl, rfl⟩ := he
  have hfit : k * c + c ≤ cur.size := by
    have : (k + 1) * c ≤ cap * c := Nat.mul_le_mul_right _ (by omega)
    rw [hcs]; rw [Nat.add_mul, Nat.one_mul] at this; omega
  have hst := run_storeCells_at P g (k * c) e (f a) 0 cur w hg (by simp [hc]; exact hfit) (List.all_eq_true.1 h1)
  simp only [Nat.add_zero, hc] at hst
  have e' : (execOp act.eval ⟨none, .store t p x, ty, pos, after, none⟩).run P w = .ok .skip (w.setRow g (cur.toList.take (k * c) ++ f a ++ cur.toList.drop (k * c + c)).toArray) := by
    simp [execOp, hr.ev hp, hr.ev hx, Instr.storeAt, Instr.sureAddr, storeVar, hT.size, hv, hst, hc]
  unfold Oper.wp; rw [e']
  refine hK _ _ (h.go _ _ (hr.put_none undef) (hm.turn hi ⟨rfl, rfl, rfl, by simp, fun k _ hk => setRow_other w g k _ (fun e => hk (by subst e; rfl))⟩ ?_ fun k hk => .inl hk))
  have hlen := len_el hc l
  refine ⟨by rw [len_el hc]; simp, .inr ⟨g, cap, _, rfl, hbg, setRow_heap w g cur _ e _ hg, hnc, hcm, by simp [hc]; omega, ?_⟩⟩
  have e1 : (l.set k a).flatMap f = (l.flatMap f).take (k * c) ++ f a ++ (l.flatMap f).drop (k * c + c) := by
    have hl1 : ((l.take k).flatMap f).length = k * c := by rw [len_el hc, List.length_take, Nat.min_eq_left (by omega)]
    have hl2 : ((l.take (k + 1)).flatMap f).length = k * c + c := by rw [len_el hc, List.length_take, Nat.min_eq_left (by omega), Nat.add_mul, Nat.one_mul]
    have t1 : (l.flatMap f).take (k * c) = (l.take k).flatMap f := by
      rw [← hl1]
      conv => lhs; rw [← List.take_append_drop k l, List.flatMap_append]
      simp
    have t2 : (l.flatMap f).drop (k * c + c) = (l.drop (k + 1)).flatMap f := by
      rw [← hl2]
      conv => lhs; rw [← List.take_append_drop (k + 1) l, List.flatMap_append]
      simp
    rw [t1, t2, List.set_eq_take_append_cons_drop, if_pos hk]
    simp
  rw [e1, ← htake]
  have hkl : k * c + c ≤ l.length * c := by
    have : (k + 1) * c ≤ l.length * c := Nat.mul_le_mul_right _ (by omega)
    rw [Nat.add_mul, Nat.one_mul] at this; exact this
  simp only [List.take_take, List.take_append, List.length_append, hc, List.length_take, Array.length_toList]
  rw [Nat.min_eq_left (by omega : k * c ≤ cur.size), Nat.min_eq_right (by omega : k * c ≤ l.length * c), Nat.min_eq_left (by omega : k * c ≤ l.length * c)]
  rw [List.take_of_length_le (by rw [hc]; omega : (f a).length ≤ l.length * c - k * c)]
  congr 1
  rw [List.drop_take]
/-- a fact that what is owned tells -/
theorem TL_know {i : Nat} {o : Own} {φ : Prop} (hi : L[i]? = some o) (hφ : ∀ w, o.holds w → φ) (h : φ → TL P n W ops Q rest fr L) : TL P n W ops Q rest fr L := ⟨fun a w hr hm => (h (hφ w (hm.get hi))).go a w hr hm⟩
theorem T_know {c : Code} {i : Nat} {o : Own} {φ : Prop} (hi : L[i]? = some o) (hφ : ∀ w, o.holds w → φ) (h : φ → T P n W c Q fr L) : T P n W c Q fr L := ⟨fun a w hr hm => (h (hφ w (hm.get hi))).go a w hr hm⟩
end
end Go.Proofs.Ytmcclhddjielnaa.eng

/- GramL -/
namespace Go.Proofs.Ytmcclhddjielnaa.gramL
abbrev Sym := Int × Int
abbrev Prod := Int × List Sym
structure Gram where
  terms : Int
  nons : Int
  prods : List Prod
/-- is it a symbol of the grammar? -/
def right (terms nons : Int) (x : Sym) : Bool := if x.1 = 1 then decide (0 ≤ x.2) && decide (x.2 < terms) else if x.1 = 2 then decide (0 ≤ x.2) && decide (x.2 < nons) else false
def prodE (terms nons : Int) (p : Prod) : Int := if 8 < p.2.length then 2 else if p.1 < 0 then 1 else if nons ≤ p.1 then 1 else if p.2.any (fun x => !right terms nons x) = true then 1 else 0
def prodsE (terms nons : Int) : List Prod → Int
  | [] => 0
  | p :: r => if prodE terms nons p ≠ 0 then prodE terms nons p else prodsE terms nons r
def checkG (g : Gram) : Int := if g.terms < 0 then 1 else if 30 < g.terms then 1 else if g.nons < 1 then 1 else if 20 < g.nons then 1 else if 40 < g.prods.length then 2 else prodsE g.terms g.nons g.prods
theorem prodE_ok {t n : Int} {p : Prod} (h : prodE t n p = 0) : p.2.length ≤ 8 ∧ 0 ≤ p.1 ∧ p.1 < n ∧ ∀ x ∈ p.2, right t n x = true := by
  unfold prodE at h
  split at h; · simp at h
  split at h; · simp at h
  split at h; · simp at h
  split at h; · simp at h
  rename_i a b c d
  refine ⟨by omega, by omega, by omega, fun x hx => ?_⟩
  simp only [List.any_eq_true, not_exists, not_and, Bool.not_eq_true', Bool.not_eq_false] at d
  simpa using d x hx
theorem prodsE_ok {t n : Int} : ∀ {l : List Prod}, prodsE t n l = 0 → ∀ p ∈ l, prodE t n p = 0
  | [], _, _, h => by cases h
  | q :: r, h, p, hp => by
    unfold prodsE at h
    split at h
    · contradiction
    · rename_i c
      rcases List.mem_cons.1 hp with rfl | hp
      · simpa using c
      · exact prodsE_ok h p hp
theorem checkG_ok {g : Gram} (h : checkG g = 0) : 0 ≤ g.terms ∧ g.terms ≤ 30 ∧ 1 ≤ g.nons ∧ g.nons ≤ 20 ∧ g.prods.length ≤ 40 ∧ ∀ p ∈ g.prods, p.2.length ≤ 8 ∧ 0 ≤ p.1 ∧ p.1 < g.nons ∧ ∀ x ∈ p.2, right g.terms g.nons x = true := by
  unfold checkG at h
  split at h; · simp at h
  split at h; · simp at h
  split at h; · simp at h
  split at h; · simp at h
  split at h; · simp at h
  exact ⟨by omega, by omega, by omega, by omega, by omega, fun p hp => prodE_ok (prodsE_ok h p hp)⟩
end Go.Proofs.Ytmcclhddjielnaa.gramL

/- Sym -/
namespace Go.Proofs.Ytmcclhddjielnaa.eng
open Go.RowKit kit mix gramL
def symC (x : Sym) : List Value := [.int .i64 x.1, .int .i64 x.2]
def okSym (x : Sym) : Prop := kit.okI64 x.1 ∧ kit.okI64 x.2
theorem eq_sym (f f' : Sym) (w : World) : (Op.equalIn 10000 46 (.agg (symC f).toArray) (.agg (symC f').toArray)).run Try.prog w = .ok (decide (f = f')) w := by
  obtain ⟨k, q⟩ := f
  obtain ⟨k', q'⟩ := f'
  unfold symC
  go_simp
  by_cases e1 : k = k' <;> by_cases e2 : q = q' <;> simp [e1, e2]
def symS : Shp Sym := flatS symC 2 (fun _ => rfl) okSym
def prodS : Shp gramL.Prod := pairS intS (sliceS symS)
def graV (t n : Int) (vp : Value) : Value := .agg #[.int .i64 t, .int .i64 n, vp]
/-- a grammar that can be read -/
def GraR (F : Nat → Prop) (w : World) (v : Value) (g : Gram) : Prop := ∃ vp, v = graV g.terms g.nons vp ∧ SlF prodS F w vp g.prods ∧ kit.okI64 g.terms ∧ kit.okI64 g.nons
theorem GraR.stay {F : Nat → Prop} {w w' : World} {v : Value} {g : Gram} (h : GraR F w v g) (hk : ∀ k, F k → w'.heap[k]? = w.heap[k]?) : GraR F w' v g :=
  let ⟨vp, h1, h2, h3⟩ := h; ⟨vp, h1, h2.stay hk, h3⟩
theorem SlF.gr {α : Type} {s : Shp α} {w w' : World} {v : Value} {l : List α} (h : SlF s (fun k => k < w.heap.size) w v l) (hg : Gr w w') : SlF s (fun k => k < w'.heap.size) w' v l :=
  (h.stay fun k hk => hg.block k hk).mono fun k hk => Nat.lt_of_lt_of_le hk hg.size
theorem GraR.gr {w w' : World} {v : Value} {g : Gram} (h : GraR (fun k => k < w.heap.size) w v g) (hg : Gr w w') : GraR (fun k => k < w'.heap.size) w' v g :=
  let ⟨vp, h1, h2, h3⟩ := h; ⟨vp, h1, h2.gr hg, h3⟩
/-- a production of a list -/
theorem prod_at {F : Nat → Prop} {w : World} {b off : Nat} {l : List gramL.Prod} (h : ∀ i (h : i < l.length), ∃ cs, prodS.is F w cs l[i] ∧ Rd w b (off + i * prodS.c) cs) {k : Nat} (hk : k < l.length) :
    ∃ base cap, Rd w b (off + k * 2) [.int .i64 l[k].1, .slice base l[k].2.length cap] ∧ kit.okI64 l[k].1 ∧ SlF symS F w (.slice base l[k].2.length cap) l[k].2 := by
  obtain ⟨cs, ⟨c1, c2, rfl, ⟨rfl, hok⟩, ⟨vb, rfl, hvb⟩⟩, hr⟩ := h k hk
  have hvb' := hvb
  obtain ⟨base, cap, rfl, _⟩ := hvb'
  exact ⟨base, cap, hr, hok, hvb⟩
end Go.Proofs.Ytmcclhddjielnaa.eng

/- GramI -/
namespace Go.Proofs.Ytmcclhddjielnaa.eng
open Go.RowKit kit mix gramL
set_option maxRecDepth 100000
/-- where all blocks are the world's own -/
theorem slf_any {α : Type} {s : Shp α} {is : List Value → α → Prop} {w : World} {v : Value} {l : List α} (h : SlX w is s.c v l) (hi : ∀ cs a, is cs a → s.is (fun k => k < w.heap.size) w cs a) (h0 : 0 < s.c) : SlF s (fun k => k < w.heap.size) w v l := by
  obtain ⟨base, cap, h1, h2, h3, h4⟩ := h
  refine ⟨base, cap, h1, h2, h3, fun hl => ?_⟩
  obtain ⟨b, off, h5, h6⟩ := h4 hl
  refine ⟨b, off, h5, ?_, fun i hi' => let ⟨cs, h7, h8⟩ := h6 i hi'; ⟨cs, hi _ _ h7, h8⟩⟩
  obtain ⟨cs, h7, h8⟩ := h6 0 hl
  have hlen := s.len (hi _ _ h7)
  have hc := h8 0 (cs[0]'(by omega)) (List.getElem?_eq_getElem (by omega))
  have := World.block_lt_of_cell? w _ hc
  exact this
theorem opensM_sym {H : Type} {M : Msr Try.prog H} {enc0 : TypeId × Value → H} {W : World} : OpensM M enc0 W 46 (fun cs x => cs = symC x ∧ okSym x) := fun fuel cs x h hm => by
  obtain ⟨hl, hfs⟩ := fieldM_of Try.underlying46 h hm
  have hl2 : cs.length = 2 := hl
  obtain ⟨k, e0, k1⟩ := hfs 0 _ rfl (opensM_i64 Try.underlying3)
  obtain ⟨q, e1, q1⟩ := hfs 1 _ rfl (opensM_i64 Try.underlying3)
  replace e0 : (cs.drop 0).take 1 = [.int .i64 k] := e0
  replace e1 : (cs.drop 1).take 1 = [.int .i64 q] := e1
  refine ⟨(k, q), ?_, k1, q1⟩
  match cs, hl2 with
  | [x, y], _ =>
    simp only [List.drop_succ_cons, List.drop_zero, List.take_succ_cons, List.take_zero, List.cons.injEq, and_true] at e0 e1
    subst e0 e1
    rfl
theorem opensM_prod {H : Type} {M : Msr Try.prog H} {enc0 : TypeId × Value → H} {W : World} : OpensM M enc0 W 55 (fun cs p => prodS.is (fun k => k < W.heap.size) W cs p) := fun fuel cs x h hm => by
  obtain ⟨hl, hfs⟩ := fieldM_of Try.underlying55 h hm
  have hl2 : cs.length = 2 := hl
  obtain ⟨k, e0, k1⟩ := hfs 0 _ rfl (opensM_i64 Try.underlying3)
  obtain ⟨l, ⟨v, e1, hs⟩, _⟩ := hfs 1 _ rfl (opensM_slice (c := 2) Try.underlying38 (by kernel_rfl) (by decide) opensM_sym fun cs a h => by rw [h.1]; rfl)
  replace e0 : (cs.drop 0).take 1 = [.int .i64 k] := e0
  replace e1 : (cs.drop 1).take 1 = [v] := e1
  refine ⟨(k, l), [.int .i64 k], [v], ?_, ⟨rfl, k1⟩, v, rfl, slf_any (s := symS) hs (fun cs a h => h) (by decide)⟩
  match cs, hl2 with
  | [x, y], _ =>
    simp only [List.drop_succ_cons, List.drop_zero, List.take_succ_cons, List.take_zero, List.cons.injEq, and_true] at e0 e1
    subst e0 e1
    rfl
theorem opensM_gram {H : Type} {M : Msr Try.prog H} {enc0 : TypeId × Value → H} {W : World} : OpensM M enc0 W 24 (fun cs g => GraR (fun k => k < W.heap.size) W (.agg cs.toArray) g ∧ M.lim 55 g.prods.length) := fun fuel cs x h hm => by
  obtain ⟨hl, hfs⟩ := fieldM_of Try.underlying24 h hm
  have hl3 : cs.length = 3 := hl
  obtain ⟨t, e0, k1⟩ := hfs 0 _ rfl (opensM_i64 Try.underlying3)
  obtain ⟨n, e1, q1⟩ := hfs 1 _ rfl (opensM_i64 Try.underlying3)
  obtain ⟨l, ⟨v, e2, hs⟩, hlim⟩ := hfs 2 _ rfl (opensM_slice (c := 2) Try.underlying22 (by kernel_rfl) (by decide) opensM_prod fun cs a h => prodS.len h)
  replace e0 : (cs.drop 0).take 1 = [.int .i64 t] := e0
  replace e1 : (cs.drop 1).take 1 = [.int .i64 n] := e1
  replace e2 : (cs.drop 2).take 1 = [v] := e2
  refine ⟨⟨t, n, l⟩, ⟨v, ?_, slf_any (s := prodS) hs (fun cs a h => h) (by decide), k1, q1⟩, hlim⟩
  match cs, hl3 with
  | [x, y, z], _ =>
    simp only [List.drop_succ_cons, List.drop_zero, List.take_succ_cons, List.take_zero, List.cons.injEq, and_true] at e0 e1 e2
    subst e0 e1 e2
    rfl
theorem open_gram {H : Type} {enc0 : TypeId × Value → H} {W : World} {base : Nat} {v : Value} {d : DataW H} {ps : List MemPlace} (hv : Value.okWide Try.prog W .any base 24 v) (h : DataW.Trod enc0 Try.prog W 0 (fun _ => true) true 24 v d ps) {ts : List TypeId} {ds : List (DataW H)} (hsz : (DataW.weightsEach Try.prog ts ds).all (· ≤ reachBytes) = true) (j : Nat) (hj : ts[j]? = some 24) (hd : ds[j]? = some d) :
    ∃ g : Gram, GraR (fun k => k < W.heap.size) W v g ∧ g.prods.length * 32 ≤ 140737488351232 := by
  obtain ⟨cs, g, rfl, h1, h2⟩ := topM_agg (M := weightM Try.prog H) Try.underlying24 hv h opensM_gram (weightM_top hsz j hj hd)
  rw [Array.toArray_toList] at h1
  exact ⟨g, h1, h2⟩
theorem open_syms {H : Type} {enc0 : TypeId × Value → H} {W : World} {base : Nat} {v : Value} {d : DataW H} {ps : List MemPlace} (hv : Value.okWide Try.prog W .any base 38 v) (h : DataW.Trod enc0 Try.prog W 0 (fun _ => true) true 38 v d ps) {ts : List TypeId} {ds : List (DataW H)} (hsz : (DataW.weightsEach Try.prog ts ds).all (· ≤ reachBytes) = true) (j : Nat) (hj : ts[j]? = some 38) (hd : ds[j]? = some d) :
    ∃ l : List Sym, Sl W v l.length (l.flatMap symC) := by
  obtain ⟨l, h1, h2⟩ := topM_slice (M := weightM Try.prog H) (c := 2) Try.underlying38 (by kernel_rfl) (by decide) opensM_sym (fun cs a h => by rw [h.1]; rfl) hv h (weightM_top hsz j hj hd)
  exact ⟨l, h1.flat (fun _ => rfl) (by decide) fun cs a h => h.1⟩
end Go.Proofs.Ytmcclhddjielnaa.eng

/- SymS -/
namespace Go.Proofs.Ytmcclhddjielnaa.eng
open Go.RowKit kit mix gramL
theorem SymS_len (a : Sym) : (symC a).length = 2 := rfl
set_option maxHeartbeats 2000000 in
theorem indexFuncSymS_calls (v : Value) (l : List Sym) (w : World) (hs : Sl w v l.length (l.flatMap symC)) (fid : FuncId) (first cp : Array Value) (p : Sym → Bool) (hen : Enters Try.prog fid)
    (hp : ∀ a ∈ l, ∀ w', Gr w w' → Calls Try.prog fid (first ++ #[(.agg (symC a).toArray)] ++ cp) w' (Meets (ret (.bool (p a))) w')) :
    Calls Try.prog 40 #[v, .func (.func fid) first cp] w (Meets (ret (.int .i64 (idxF p l))) w) := by
  obtain ⟨base, cap, rfl, hcap, hmax, hrd⟩ := hs
  unfold maxLen at hmax
  refine enter (args := [.slice base l.length cap, .func (.func fid) first cp]) (n := 19) Try.func40 rfl rfl rfl ?_
  repeat (first
    | refine qv rfl (qp rfl) rfl rfl ?_ | refine TL_nil ?_ | refine T_seq ?_ | refine T_region ?_ | refine qcT rfl ?_ | refine qcF rfl ?_ | refine T_skip ?_
    | refine T_exit ?_ | refine T_ret ?_ | refine T_block ?_ | refine E_then ?_ | refine E_thenX ?_ | refine E_thenR ?_ | refine E_blockN ?_
    | refine E_blockR ?_ | refine E_blockX ?_ | refine E_blockO rfl ?_ | refine qv rfl (qlen Und.eq rfl) rfl rfl ?_
    | refine qv rfl (rr_lss rfl rfl (qT (by omega))) rfl rfl ?_ | refine qv rfl (rr_lss rfl rfl (qF (by omega))) rfl rfl ?_
    | refine qv rfl (rr_add64 rfl rfl (by omega) (by omega) rfl) rfl rfl ?_)
  refine T_loop (ι := Nat) (fun k => k ≤ l.length ∧ ∀ j (hj : j < l.length), j < k → p l[j] = false) (fun k => [(0, .slice base l.length cap), (1, .func (.func fid) first cp), (7, .int .i64 l.length), (8, .int .i64 (k : Int))]) (fun _ => []) (fun k => l.length - k) 0 ⟨by omega, fun j hj h => by omega⟩ (by repeat' (first | exact True.intro | refine And.intro rfl ?_)) rfl ?_
  rintro k ⟨h1, h2⟩
  by_cases c2 : k < l.length
  · obtain ⟨b, off, rfl, hr⟩ := hrd (by omega)
    have hat := at_el (L := ([] : List Own)) SymS_len hr c2
    have hcl := hp l[k] (List.getElem_mem c2)
    by_cases c3 : p l[k] = true
    · rw [idxF_some c2 c3 h2]
      rw [c3] at hcl
      clear hp h2 hrd
      repeat (first
        | refine qv rfl (qp rfl) rfl rfl ?_ | refine TL_nil ?_ | refine T_seq ?_ | refine T_region ?_ | refine qcT rfl ?_ | refine qcF rfl ?_ | refine T_skip ?_
        | refine T_exit ?_ | refine T_ret ?_ | refine T_block ?_ | refine E_then ?_ | refine E_thenX ?_ | refine E_thenR ?_ | refine E_blockN ?_
        | refine E_blockR ?_ | refine E_blockX ?_ | refine E_blockO rfl ?_ | refine qv rfl (rr_idxc Und.eq TyC.ty rfl rfl c2) rfl rfl ?_
        | refine qv rfl (rr_loadN TyC.ty rfl rfl hat) rfl rfl ?_ | refine qv rfl (qlen Und.eq rfl) rfl rfl ?_
        | refine qv rfl (rr_lss rfl rfl (qT (by omega))) rfl rfl ?_ | refine qv rfl (rr_lss rfl rfl (qF (by omega))) rfl rfl ?_
        | refine qv rfl (rr_add64 rfl rfl (by omega) (by omega) rfl) rfl rfl ?_)
      refine TL_call (he1c hen rfl rfl) (fun w hm => hcl w hm.below) rfl rfl rfl ?_
      intro _ _
      repeat (first
        | refine qv rfl (qp rfl) rfl rfl ?_ | refine TL_nil ?_ | refine T_seq ?_ | refine T_region ?_ | refine qcT rfl ?_ | refine qcF rfl ?_ | refine T_skip ?_
        | refine T_exit ?_ | refine T_ret ?_ | refine T_block ?_ | refine E_then ?_ | refine E_thenX ?_ | refine E_thenR ?_ | refine E_blockN ?_
        | refine E_blockR ?_ | refine E_blockX ?_ | refine E_blockO rfl ?_ | refine qv rfl (qlen Und.eq rfl) rfl rfl ?_
        | refine qv rfl (rr_lss rfl rfl (qT (by omega))) rfl rfl ?_ | refine qv rfl (rr_lss rfl rfl (qF (by omega))) rfl rfl ?_
        | refine qv rfl (rr_add64 rfl rfl (by omega) (by omega) rfl) rfl rfl ?_)
      exact E_ret1 rfl rfl fun w hm => hm.ret
    · have c3' : p l[k] = false := by simpa using c3
      rw [c3'] at hcl
      clear hp hrd c3
      repeat (first
        | refine qv rfl (qp rfl) rfl rfl ?_ | refine TL_nil ?_ | refine T_seq ?_ | refine T_region ?_ | refine qcT rfl ?_ | refine qcF rfl ?_ | refine T_skip ?_
        | refine T_exit ?_ | refine T_ret ?_ | refine T_block ?_ | refine E_then ?_ | refine E_thenX ?_ | refine E_thenR ?_ | refine E_blockN ?_
        | refine E_blockR ?_ | refine E_blockX ?_ | refine E_blockO rfl ?_ | refine qv rfl (rr_idxc Und.eq TyC.ty rfl rfl c2) rfl rfl ?_
        | refine qv rfl (rr_loadN TyC.ty rfl rfl hat) rfl rfl ?_ | refine qv rfl (qlen Und.eq rfl) rfl rfl ?_
        | refine qv rfl (rr_lss rfl rfl (qT (by omega))) rfl rfl ?_ | refine qv rfl (rr_lss rfl rfl (qF (by omega))) rfl rfl ?_
        | refine qv rfl (rr_add64 rfl rfl (by omega) (by omega) rfl) rfl rfl ?_)
      refine TL_call (he1c hen rfl rfl) (fun w hm => hcl w hm.below) rfl rfl rfl ?_
      intro _ _
      repeat (first
        | refine qv rfl (qp rfl) rfl rfl ?_ | refine TL_nil ?_ | refine T_seq ?_ | refine T_region ?_ | refine qcT rfl ?_ | refine qcF rfl ?_ | refine T_skip ?_
        | refine T_exit ?_ | refine T_ret ?_ | refine T_block ?_ | refine E_then ?_ | refine E_thenX ?_ | refine E_thenR ?_ | refine E_blockN ?_
        | refine E_blockR ?_ | refine E_blockX ?_ | refine E_blockO rfl ?_ | refine qv rfl (qlen Und.eq rfl) rfl rfl ?_
        | refine qv rfl (rr_lss rfl rfl (qT (by omega))) rfl rfl ?_ | refine qv rfl (rr_lss rfl rfl (qF (by omega))) rfl rfl ?_
        | refine qv rfl (rr_add64 rfl rfl (by omega) (by omega) rfl) rfl rfl ?_)
      exact E_round (k + 1) ⟨by omega, fun j hj h => if e : j < k then h2 j hj e else (by obtain rfl : j = k := (by omega); exact c3')⟩ (by show l.length - (k + 1) < l.length - k; omega) (by repeat' (first | exact True.intro | refine And.intro rfl ?_)) rfl
  · rw [idxF_none fun j hj => h2 j hj (by omega)]
    clear hp h2 hrd
    repeat (first
      | refine qv rfl (qp rfl) rfl rfl ?_ | refine TL_nil ?_ | refine T_seq ?_ | refine T_region ?_ | refine qcT rfl ?_ | refine qcF rfl ?_ | refine T_skip ?_
      | refine T_exit ?_ | refine T_ret ?_ | refine T_block ?_ | refine E_then ?_ | refine E_thenX ?_ | refine E_thenR ?_ | refine E_blockN ?_
      | refine E_blockR ?_ | refine E_blockX ?_ | refine E_blockO rfl ?_ | refine qv rfl (qlen Und.eq rfl) rfl rfl ?_
      | refine qv rfl (rr_lss rfl rfl (qT (by omega))) rfl rfl ?_ | refine qv rfl (rr_lss rfl rfl (qF (by omega))) rfl rfl ?_
      | refine qv rfl (rr_add64 rfl rfl (by omega) (by omega) rfl) rfl rfl ?_)
    exact E_ret1 rfl rfl fun w hm => hm.ret
theorem containsFuncSymS_calls (v : Value) (l : List Sym) (w : World) (hs : Sl w v l.length (l.flatMap symC)) (fid : FuncId) (first cp : Array Value) (p : Sym → Bool) (hen : Enters Try.prog fid)
    (hp : ∀ a ∈ l, ∀ w', Gr w w' → Calls Try.prog fid (first ++ #[(.agg (symC a).toArray)] ++ cp) w' (Meets (ret (.bool (p a))) w')) :
    Calls Try.prog 32 #[v, .func (.func fid) first cp] w (Meets (ret (.bool (l.any p))) w) := by
  refine enter (args := [v, .func (.func fid) first cp]) (n := 9) Try.func32 rfl rfl rfl ?_
  have hh := fun w' (hg : Gr w w') => indexFuncSymS_calls v l w' (hs.gr hg) fid first cp p hen fun a ha w'' hg' => hp a ha w'' (hg.trans hg')
  have hr := idxF_range p l
  rw [← idxF_any p l]
  generalize idxF p l = r at *
  repeat (first
    | refine qv rfl (qp rfl) rfl rfl ?_ | refine TL_nil ?_ | refine T_seq ?_ | refine T_region ?_ | refine T_ret ?_ | refine E_then ?_ | refine E_thenR ?_
    | refine qv rfl (rr_geq rfl rfl (qT (by omega))) rfl rfl ?_ | refine qv rfl (rr_geq rfl rfl (qF (by omega))) rfl rfl ?_)
  refine TL_call (he2 EntersC.en rfl rfl rfl) (fun w hm => hh _ hm.below) rfl rfl rfl ?_
  intro _ _
  repeat (first
    | refine qv rfl (qp rfl) rfl rfl ?_ | refine TL_nil ?_ | refine T_seq ?_ | refine T_region ?_ | refine T_ret ?_ | refine E_then ?_ | refine E_thenR ?_
    | refine qv rfl (rr_geq rfl rfl rfl) rfl rfl ?_ | refine qv rfl (rr_geq rfl rfl (qT (by omega))) rfl rfl ?_
    | refine qv rfl (rr_geq rfl rfl (qF (by omega))) rfl rfl ?_)
  exact E_ret1 rfl rfl fun w hm => hm.ret
end Go.Proofs.Ytmcclhddjielnaa.eng

/- Gram -/
namespace Go.Proofs.Ytmcclhddjielnaa.eng
open Go.RowKit kit mix gramL
theorem right_calls (t n : Int) (vp : Value) (x : Sym) (w : World) : Calls Try.prog 34 #[graV t n vp, .agg (symC x).toArray] w (Meets (ret (.bool (right t n x))) w) := by
  obtain ⟨k, q⟩ := x
  refine enter (args := [graV t n vp, .agg (symC (k, q)).toArray]) (n := 31) Try.func34 rfl rfl rfl ?_
  refine T_seq (T_region (TL_box rfl rfl rfl fun g0 => TL_box rfl rfl rfl fun g1 => ?_))
  repeat' (first
    | refine qv rfl (qp rfl) rfl rfl ?_
    | refine TL_nil ?_
    | refine T_seq ?_
    | refine T_region ?_
    | refine qcT rfl ?_
    | refine qcF rfl ?_
    | refine T_skip ?_
    | refine T_ret ?_
    | refine T_block ?_
    | refine E_then ?_
    | refine E_thenR ?_
    | refine E_blockN ?_
    | refine E_blockR ?_
    | refine qs rfl rfl rfl rfl rfl rfl ?_
    | (((try refine qg rfl rfl rfl ?_); first | refine qv rfl (qp rfl) rfl rfl ?_ | refine qv rfl (rr_load1 TyC.ty rfl (at_blk (i := 0) rfl rfl)) rfl rfl ?_ | refine qv rfl (rr_load1 TyC.ty rfl (at_blk (i := 1) rfl rfl)) rfl rfl ?_ | refine qv rfl (qfld FldC.fld rfl rfl) rfl rfl ?_ | refine qv rfl (rr_geq rfl rfl (qT (by omega))) rfl rfl ?_ | refine qv rfl (rr_geq rfl rfl (qF (by omega))) rfl rfl ?_ | refine qv rfl (rr_eql rfl rfl (qT (by omega))) rfl rfl ?_ | refine qv rfl (rr_eql rfl rfl (qF (by omega))) rfl rfl ?_ | refine qv rfl (rr_lss rfl rfl (qT (by omega))) rfl rfl ?_ | refine qv rfl (rr_lss rfl rfl (qF (by omega))) rfl rfl ?_))
    | refine TL_gsplitv (rr_lss rfl rfl rfl) rfl rfl rfl rfl rfl (fun h => ?_) (fun h => ?_)
    | refine TL_split (rr_geq rfl rfl rfl) rfl rfl rfl (fun h => ?_) (fun h => ?_)
    | refine TL_split (rr_eql rfl rfl rfl) rfl rfl rfl (fun h => ?_) (fun h => ?_)
    | ((fail_if_success (refine T_condT rfl ?_)); (fail_if_success (refine T_condF rfl ?_)); refine T_condS rfl (fun h => ?_) (fun h => ?_))
    | ((fail_if_success (refine TL_isT rfl rfl rfl ?_)); (fail_if_success (refine TL_isF rfl rfl rfl ?_)); refine TL_gsplit rfl rfl rfl (fun h => ?_) (fun h => ?_)))
  all_goals (refine E_ret1e rfl rfl ?_; congr 1; unfold right; dsimp only at *; repeat (first | rw [if_pos (by omega)] | rw [if_neg (by omega)] | rw [decide_eq_true (by assumption)] | rw [decide_eq_false (by assumption)]); try rfl)
/-- Check's own question -/
theorem check1_calls (t n : Int) (vp : Value) (x : Sym) (g : Nat) (w : World) (hg : w.heap[g]? = some (.cells (graV t n vp).cells 24 (0, 0))) :
    Calls Try.prog 33 #[.agg (symC x).toArray, .pointer (some ⟨g, 0, none⟩)] w (Meets (ret (.bool (!right t n x))) w) := by
  have hcell : ∀ (L : List Own) (j : Nat) (v : Value), ([.int .i64 t, .int .i64 n, vp] : List Value)[j]? = some v → At w L ⟨g, 0 + j, none⟩ v := fun L j v hj => at_old (by
    rw [cell_of_row w g (0 + j) _ _ _ hg, Nat.zero_add]
    show (#[.int .i64 t, .int .i64 n, vp] : Array Value)[j]? = some v
    simpa using hj)
  have hr := right_calls t n vp x
  refine enter (args := [.agg (symC x).toArray, .pointer (some ⟨g, 0, none⟩)]) (n := 8) Try.func33 rfl rfl rfl ?_
  refine T_seq (T_region (TL_box rfl rfl rfl fun g0 => ?_))
  repeat (first
    | refine qv rfl (qp rfl) rfl rfl ?_ | refine TL_nil ?_ | refine T_seq ?_ | refine T_region ?_ | refine T_ret ?_ | refine E_then ?_ | refine E_thenR ?_
    | refine qv rfl (rr_loadN TyC.ty rfl rfl (hcell _)) rfl rfl ?_ | refine qv rfl (rr_loadB (i := 0) TyC.ty rfl rfl rfl) rfl rfl ?_
    | refine qv rfl (rr_not rfl rfl) rfl rfl ?_)
  refine TL_call (he2 EntersC.en rfl rfl rfl) (fun w hm => hr w) rfl rfl rfl ?_
  intro _ _
  repeat (first
    | refine qv rfl (qp rfl) rfl rfl ?_ | refine TL_nil ?_ | refine T_seq ?_ | refine T_region ?_ | refine T_ret ?_ | refine E_then ?_ | refine E_thenR ?_
    | refine qv rfl (rr_not rfl rfl) rfl rfl ?_)
  exact E_ret1 rfl rfl fun w hm => hm.ret
theorem prodsE_drop {t n : Int} {l : List gramL.Prod} {k : Nat} (h : k < l.length) (h0 : prodE t n l[k] = 0) : prodsE t n (l.drop k) = prodsE t n (l.drop (k + 1)) := by
  rw [List.drop_eq_getElem_cons h, prodsE, if_neg (by simp [h0])]
theorem prodsE_stop {t n : Int} {l : List gramL.Prod} {k : Nat} (h : k < l.length) (h0 : prodE t n l[k] ≠ 0) : prodsE t n (l.drop k) = prodE t n l[k] := by
  rw [List.drop_eq_getElem_cons h, prodsE, if_pos h0]
set_option maxHeartbeats 2000000 in
theorem checkG_calls (v : Value) (g : Gram) (w : World) (h : GraR (fun k => k < w.heap.size) w v g) :
    Calls Try.prog 22 #[v] w (Meets (ret (.int .i64 (checkG g))) w) := by
  obtain ⟨vp, rfl, h1, _⟩ := h
  obtain ⟨bp, cp, rfl, hcp, hmp, hrp⟩ := h1
  unfold maxLen at hmp
  obtain ⟨t, n, prods⟩ := g
  dsimp only at *
  refine enter (args := [graV t n (.slice bp prods.length cp)]) (n := 57) Try.func22 rfl rfl rfl ?_
  refine T_seq (T_region (TL_box rfl rfl rfl fun g0 => ?_))
  unfold checkG
  dsimp only
  by_cases c1 : t < 0
  · rw [if_pos c1]
    repeat (first
      | refine qv rfl (qp rfl) rfl rfl ?_ | refine TL_nil ?_ | refine T_seq ?_ | refine T_region ?_ | refine qcT rfl ?_ | refine qcF rfl ?_ | refine T_skip ?_
      | refine T_exit ?_ | refine T_ret ?_ | refine T_block ?_ | refine E_then ?_ | refine E_thenX ?_ | refine E_thenR ?_ | refine E_blockN ?_
      | refine E_blockR ?_ | refine E_blockX ?_ | refine E_blockO rfl ?_ | refine qs rfl rfl rfl rfl rfl rfl ?_
      | ((try refine qg rfl rfl rfl ?_); first | refine qv rfl (qp rfl) rfl rfl ?_ | refine qv rfl (rr_load1 TyC.ty rfl (at_blk (i := 0) rfl rfl)) rfl rfl ?_ | refine qv rfl (qlen Und.eq rfl) rfl rfl ?_ | refine qv rfl (qfld FldC.fld rfl rfl) rfl rfl ?_ | refine qv rfl (rr_lss rfl rfl (qT (by omega))) rfl rfl ?_ | refine qv rfl (rr_lss rfl rfl (qF (by omega))) rfl rfl ?_ | refine qv rfl (rr_gtr rfl rfl (qT (by omega))) rfl rfl ?_ | refine qv rfl (rr_gtr rfl rfl (qF (by omega))) rfl rfl ?_ | refine qv rfl (rr_add64 rfl rfl (by omega) (by omega) rfl) rfl rfl ?_ | refine qv rfl (rr_geq rfl rfl (qT (by omega))) rfl rfl ?_ | refine qv rfl (rr_geq rfl rfl (qF (by omega))) rfl rfl ?_))
    exact E_ret1 rfl rfl fun w hm => hm.ret
  rw [if_neg c1]
  by_cases c2 : 30 < t
  · rw [if_pos c2]
    repeat (first
      | refine qv rfl (qp rfl) rfl rfl ?_ | refine TL_nil ?_ | refine T_seq ?_ | refine T_region ?_ | refine qcT rfl ?_ | refine qcF rfl ?_ | refine T_skip ?_
      | refine T_exit ?_ | refine T_ret ?_ | refine T_block ?_ | refine E_then ?_ | refine E_thenX ?_ | refine E_thenR ?_ | refine E_blockN ?_
      | refine E_blockR ?_ | refine E_blockX ?_ | refine E_blockO rfl ?_ | refine qs rfl rfl rfl rfl rfl rfl ?_
      | ((try refine qg rfl rfl rfl ?_); first | refine qv rfl (qp rfl) rfl rfl ?_ | refine qv rfl (rr_load1 TyC.ty rfl (at_blk (i := 0) rfl rfl)) rfl rfl ?_ | refine qv rfl (qlen Und.eq rfl) rfl rfl ?_ | refine qv rfl (qfld FldC.fld rfl rfl) rfl rfl ?_ | refine qv rfl (rr_lss rfl rfl (qT (by omega))) rfl rfl ?_ | refine qv rfl (rr_lss rfl rfl (qF (by omega))) rfl rfl ?_ | refine qv rfl (rr_gtr rfl rfl (qT (by omega))) rfl rfl ?_ | refine qv rfl (rr_gtr rfl rfl (qF (by omega))) rfl rfl ?_ | refine qv rfl (rr_add64 rfl rfl (by omega) (by omega) rfl) rfl rfl ?_ | refine qv rfl (rr_geq rfl rfl (qT (by omega))) rfl rfl ?_ | refine qv rfl (rr_geq rfl rfl (qF (by omega))) rfl rfl ?_))
    exact E_ret1 rfl rfl fun w hm => hm.ret
  rw [if_neg c2]
  by_cases c3 : n < 1
  · rw [if_pos c3]
    repeat (first
      | refine qv rfl (qp rfl) rfl rfl ?_ | refine TL_nil ?_ | refine T_seq ?_ | refine T_region ?_ | refine qcT rfl ?_ | refine qcF rfl ?_ | refine T_skip ?_
      | refine T_exit ?_ | refine T_ret ?_ | refine T_block ?_ | refine E_then ?_ | refine E_thenX ?_ | refine E_thenR ?_ | refine E_blockN ?_
      | refine E_blockR ?_ | refine E_blockX ?_ | refine E_blockO rfl ?_ | refine qs rfl rfl rfl rfl rfl rfl ?_
      | ((try refine qg rfl rfl rfl ?_); first | refine qv rfl (qp rfl) rfl rfl ?_ | refine qv rfl (rr_load1 TyC.ty rfl (at_blk (i := 0) rfl rfl)) rfl rfl ?_ | refine qv rfl (qlen Und.eq rfl) rfl rfl ?_ | refine qv rfl (qfld FldC.fld rfl rfl) rfl rfl ?_ | refine qv rfl (rr_lss rfl rfl (qT (by omega))) rfl rfl ?_ | refine qv rfl (rr_lss rfl rfl (qF (by omega))) rfl rfl ?_ | refine qv rfl (rr_gtr rfl rfl (qT (by omega))) rfl rfl ?_ | refine qv rfl (rr_gtr rfl rfl (qF (by omega))) rfl rfl ?_ | refine qv rfl (rr_add64 rfl rfl (by omega) (by omega) rfl) rfl rfl ?_ | refine qv rfl (rr_geq rfl rfl (qT (by omega))) rfl rfl ?_ | refine qv rfl (rr_geq rfl rfl (qF (by omega))) rfl rfl ?_))
    exact E_ret1 rfl rfl fun w hm => hm.ret
  rw [if_neg c3]
  by_cases c4 : 20 < n
  · rw [if_pos c4]
    repeat (first
      | refine qv rfl (qp rfl) rfl rfl ?_ | refine TL_nil ?_ | refine T_seq ?_ | refine T_region ?_ | refine qcT rfl ?_ | refine qcF rfl ?_ | refine T_skip ?_
      | refine T_exit ?_ | refine T_ret ?_ | refine T_block ?_ | refine E_then ?_ | refine E_thenX ?_ | refine E_thenR ?_ | refine E_blockN ?_
      | refine E_blockR ?_ | refine E_blockX ?_ | refine E_blockO rfl ?_ | refine qs rfl rfl rfl rfl rfl rfl ?_
      | ((try refine qg rfl rfl rfl ?_); first | refine qv rfl (qp rfl) rfl rfl ?_ | refine qv rfl (rr_load1 TyC.ty rfl (at_blk (i := 0) rfl rfl)) rfl rfl ?_ | refine qv rfl (qlen Und.eq rfl) rfl rfl ?_ | refine qv rfl (qfld FldC.fld rfl rfl) rfl rfl ?_ | refine qv rfl (rr_lss rfl rfl (qT (by omega))) rfl rfl ?_ | refine qv rfl (rr_lss rfl rfl (qF (by omega))) rfl rfl ?_ | refine qv rfl (rr_gtr rfl rfl (qT (by omega))) rfl rfl ?_ | refine qv rfl (rr_gtr rfl rfl (qF (by omega))) rfl rfl ?_ | refine qv rfl (rr_add64 rfl rfl (by omega) (by omega) rfl) rfl rfl ?_ | refine qv rfl (rr_geq rfl rfl (qT (by omega))) rfl rfl ?_ | refine qv rfl (rr_geq rfl rfl (qF (by omega))) rfl rfl ?_))
    exact E_ret1 rfl rfl fun w hm => hm.ret
  rw [if_neg c4]
  by_cases c5 : 40 < prods.length
  · rw [if_pos c5]
    repeat (first
      | refine qv rfl (qp rfl) rfl rfl ?_ | refine TL_nil ?_ | refine T_seq ?_ | refine T_region ?_ | refine qcT rfl ?_ | refine qcF rfl ?_ | refine T_skip ?_
      | refine T_exit ?_ | refine T_ret ?_ | refine T_block ?_ | refine E_then ?_ | refine E_thenX ?_ | refine E_thenR ?_ | refine E_blockN ?_
      | refine E_blockR ?_ | refine E_blockX ?_ | refine E_blockO rfl ?_ | refine qs rfl rfl rfl rfl rfl rfl ?_
      | ((try refine qg rfl rfl rfl ?_); first | refine qv rfl (qp rfl) rfl rfl ?_ | refine qv rfl (rr_load1 TyC.ty rfl (at_blk (i := 0) rfl rfl)) rfl rfl ?_ | refine qv rfl (qlen Und.eq rfl) rfl rfl ?_ | refine qv rfl (qfld FldC.fld rfl rfl) rfl rfl ?_ | refine qv rfl (rr_lss rfl rfl (qT (by omega))) rfl rfl ?_ | refine qv rfl (rr_lss rfl rfl (qF (by omega))) rfl rfl ?_ | refine qv rfl (rr_gtr rfl rfl (qT (by omega))) rfl rfl ?_ | refine qv rfl (rr_gtr rfl rfl (qF (by omega))) rfl rfl ?_ | refine qv rfl (rr_add64 rfl rfl (by omega) (by omega) rfl) rfl rfl ?_ | refine qv rfl (rr_geq rfl rfl (qT (by omega))) rfl rfl ?_ | refine qv rfl (rr_geq rfl rfl (qF (by omega))) rfl rfl ?_))
    exact E_ret1 rfl rfl fun w hm => hm.ret
  rw [if_neg c5]
  repeat (first
    | refine qv rfl (qp rfl) rfl rfl ?_ | refine TL_nil ?_ | refine T_seq ?_ | refine T_region ?_ | refine qcT rfl ?_ | refine qcF rfl ?_ | refine T_skip ?_
    | refine T_exit ?_ | refine T_ret ?_ | refine T_block ?_ | refine E_then ?_ | refine E_thenX ?_ | refine E_thenR ?_ | refine E_blockN ?_
    | refine E_blockR ?_ | refine E_blockX ?_ | refine E_blockO rfl ?_ | refine qs rfl rfl rfl rfl rfl rfl ?_
    | ((try refine qg rfl rfl rfl ?_); first | refine qv rfl (qp rfl) rfl rfl ?_ | refine qv rfl (rr_load1 TyC.ty rfl (at_blk (i := 0) rfl rfl)) rfl rfl ?_ | refine qv rfl (qlen Und.eq rfl) rfl rfl ?_ | refine qv rfl (qfld FldC.fld rfl rfl) rfl rfl ?_ | refine qv rfl (rr_lss rfl rfl (qT (by omega))) rfl rfl ?_ | refine qv rfl (rr_lss rfl rfl (qF (by omega))) rfl rfl ?_ | refine qv rfl (rr_gtr rfl rfl (qT (by omega))) rfl rfl ?_ | refine qv rfl (rr_gtr rfl rfl (qF (by omega))) rfl rfl ?_ | refine qv rfl (rr_add64 rfl rfl (by omega) (by omega) rfl) rfl rfl ?_ | refine qv rfl (rr_geq rfl rfl (qT (by omega))) rfl rfl ?_ | refine qv rfl (rr_geq rfl rfl (qF (by omega))) rfl rfl ?_))
  refine T_loop (ι := Nat) (fun k => k ≤ prods.length ∧ prodsE t n prods = prodsE t n (prods.drop k)) (fun k => [(1, .pointer (some ⟨g0, 0, none⟩)), (30, .slice bp prods.length cp), (31, .int .i64 prods.length), (32, .int .i64 (k : Int))]) (fun _ => [blkO g0 (graV t n (.slice bp prods.length cp)).cells 24]) (fun k => prods.length - k) 0 ⟨Nat.zero_le _, rfl⟩ (by repeat' (first | exact True.intro | refine And.intro rfl ?_)) rfl ?_
  rintro k ⟨i1, i2⟩
  rw [i2]
  clear i2
  by_cases c6 : k < prods.length
  · obtain ⟨b, off, rfl, _, hr⟩ := hrp (by omega)
    obtain ⟨bb, cb, q1, q2, q3⟩ := prod_at hr c6
    have hstop := prodsE_stop (t := t) (n := n) c6
    have hdrop := prodsE_drop (t := t) (n := n) c6
    have hat : ∀ (L : List Own) (j : Nat) (v : Value), ([.int .i64 prods[k].1, .slice bb prods[k].2.length cb] : List Value)[j]? = some v → At w L ⟨b, off + k * 2 + j, none⟩ v := fun L j v hj => at_rd q1 hj
    clear hr hrp q1
    generalize prods[k] = p at *
    obtain ⟨hd, body⟩ := p
    have hco := fun w' (hg : Gr w w') (hb : w'.heap[g0]? = some (.cells (graV t n (.slice (some ⟨b, off, none⟩) prods.length cp)).cells 24 (0, 0))) => containsFuncSymS_calls (.slice bb body.length cb) body w' ((q3.flat (by decide)).gr hg) 33 #[] #[.pointer (some ⟨g0, 0, none⟩)] (fun x => !right t n x) EntersC.en (fun a _ w'' hg' => check1_calls t n _ a g0 w'' (by rw [hg'.block g0 (Array.getElem?_eq_some_iff.1 hb).1]; exact hb))
    dsimp only at *
    repeat (first
      | refine qv rfl (qp rfl) rfl rfl ?_ | refine TL_nil ?_ | refine T_seq ?_ | refine T_region ?_ | refine qcT rfl ?_ | refine qcF rfl ?_ | refine T_skip ?_
      | refine T_exit ?_ | refine T_ret ?_ | refine T_block ?_ | refine E_then ?_ | refine E_thenX ?_ | refine E_thenR ?_ | refine E_blockN ?_
      | refine E_blockR ?_ | refine E_blockX ?_ | refine E_blockO rfl ?_ | refine qs rfl rfl rfl rfl rfl rfl ?_
      | ((try refine qg rfl rfl rfl ?_); first | refine qv rfl (qp rfl) rfl rfl ?_ | refine qv rfl (rr_idxc Und.eq TyC.ty rfl rfl c6) rfl rfl ?_ | refine qv rfl (rr_loadN TyC.ty rfl rfl (hat _)) rfl rfl ?_ | refine qv rfl (qlen Und.eq rfl) rfl rfl ?_ | refine qv rfl (qfld FldC.fld rfl rfl) rfl rfl ?_ | refine qv rfl (rr_lss rfl rfl (qT (by omega))) rfl rfl ?_ | refine qv rfl (rr_lss rfl rfl (qF (by omega))) rfl rfl ?_ | refine qv rfl (rr_gtr rfl rfl (qT (by omega))) rfl rfl ?_ | refine qv rfl (rr_gtr rfl rfl (qF (by omega))) rfl rfl ?_ | refine qv rfl (rr_add64 rfl rfl (by omega) (by omega) rfl) rfl rfl ?_ | refine qv rfl (rr_geq rfl rfl (qT (by omega))) rfl rfl ?_ | refine qv rfl (rr_geq rfl rfl (qF (by omega))) rfl rfl ?_))
    clear hat
    refine TL_new rfl fun g4 => ?_
    refine TL_storeB (i := 1) rfl rfl rfl rfl rfl rfl ?_
    conv => arg 8; simp only [zA, zB, zC, zD, zE, zF, zG, zH, zI, rowS, ret, id_eq]
    unfold prodE at hstop hdrop
    dsimp only at hstop hdrop
    by_cases c7 : 8 < body.length
    · rw [if_pos c7] at hstop
      rw [hstop (by decide)]
      repeat (first
        | refine qv rfl (qp rfl) rfl rfl ?_ | refine TL_nil ?_ | refine T_seq ?_ | refine T_region ?_ | refine qcT rfl ?_ | refine qcF rfl ?_ | refine T_skip ?_
        | refine T_exit ?_ | refine T_ret ?_ | refine T_block ?_ | refine E_then ?_ | refine E_thenX ?_ | refine E_thenR ?_ | refine E_blockN ?_
        | refine E_blockR ?_ | refine E_blockX ?_ | refine E_blockO rfl ?_ | refine qs rfl rfl rfl rfl rfl rfl ?_
        | ((try refine qg rfl rfl rfl ?_); first | refine qv rfl (qp rfl) rfl rfl ?_ | refine qv rfl (rr_load1 TyC.ty rfl (at_blk (i := 1) rfl rfl)) rfl rfl ?_ | refine qv rfl (qlen Und.eq rfl) rfl rfl ?_ | refine qv rfl (qfld FldC.fld rfl rfl) rfl rfl ?_ | refine qv rfl (rr_lss rfl rfl (qT (by omega))) rfl rfl ?_ | refine qv rfl (rr_lss rfl rfl (qF (by omega))) rfl rfl ?_ | refine qv rfl (rr_gtr rfl rfl (qT (by omega))) rfl rfl ?_ | refine qv rfl (rr_gtr rfl rfl (qF (by omega))) rfl rfl ?_ | refine qv rfl (rr_add64 rfl rfl (by omega) (by omega) rfl) rfl rfl ?_ | refine qv rfl (rr_geq rfl rfl (qT (by omega))) rfl rfl ?_ | refine qv rfl (rr_geq rfl rfl (qF (by omega))) rfl rfl ?_))
      exact E_ret1 rfl rfl fun w hm => hm.ret
    rw [if_neg c7] at hstop hdrop
    by_cases c8 : hd < 0
    · rw [if_pos c8] at hstop
      rw [hstop (by decide)]
      repeat (first
        | refine qv rfl (qp rfl) rfl rfl ?_ | refine TL_nil ?_ | refine T_seq ?_ | refine T_region ?_ | refine qcT rfl ?_ | refine qcF rfl ?_ | refine T_skip ?_
        | refine T_exit ?_ | refine T_ret ?_ | refine T_block ?_ | refine E_then ?_ | refine E_thenX ?_ | refine E_thenR ?_ | refine E_blockN ?_
        | refine E_blockR ?_ | refine E_blockX ?_ | refine E_blockO rfl ?_ | refine qs rfl rfl rfl rfl rfl rfl ?_
        | ((try refine qg rfl rfl rfl ?_); first | refine qv rfl (qp rfl) rfl rfl ?_ | refine qv rfl (rr_load1 TyC.ty rfl (at_blk (i := 1) rfl rfl)) rfl rfl ?_ | refine qv rfl (qlen Und.eq rfl) rfl rfl ?_ | refine qv rfl (qfld FldC.fld rfl rfl) rfl rfl ?_ | refine qv rfl (rr_lss rfl rfl (qT (by omega))) rfl rfl ?_ | refine qv rfl (rr_lss rfl rfl (qF (by omega))) rfl rfl ?_ | refine qv rfl (rr_gtr rfl rfl (qT (by omega))) rfl rfl ?_ | refine qv rfl (rr_gtr rfl rfl (qF (by omega))) rfl rfl ?_ | refine qv rfl (rr_add64 rfl rfl (by omega) (by omega) rfl) rfl rfl ?_ | refine qv rfl (rr_geq rfl rfl (qT (by omega))) rfl rfl ?_ | refine qv rfl (rr_geq rfl rfl (qF (by omega))) rfl rfl ?_))
      exact E_ret1 rfl rfl fun w hm => hm.ret
    rw [if_neg c8] at hstop hdrop
    by_cases c9 : n ≤ hd
    · rw [if_pos c9] at hstop
      rw [hstop (by decide)]
      repeat (first
        | refine qv rfl (qp rfl) rfl rfl ?_ | refine TL_nil ?_ | refine T_seq ?_ | refine T_region ?_ | refine qcT rfl ?_ | refine qcF rfl ?_ | refine T_skip ?_
        | refine T_exit ?_ | refine T_ret ?_ | refine T_block ?_ | refine E_then ?_ | refine E_thenX ?_ | refine E_thenR ?_ | refine E_blockN ?_
        | refine E_blockR ?_ | refine E_blockX ?_ | refine E_blockO rfl ?_ | refine qs rfl rfl rfl rfl rfl rfl ?_
        | ((try refine qg rfl rfl rfl ?_); first | refine qv rfl (qp rfl) rfl rfl ?_ | refine qv rfl (rr_load1 TyC.ty rfl (at_blk (i := 1) rfl rfl)) rfl rfl ?_ | refine qv rfl (rr_load1 TyC.ty rfl (at_blk (i := 0) rfl rfl)) rfl rfl ?_ | refine qv rfl (qlen Und.eq rfl) rfl rfl ?_ | refine qv rfl (qfld FldC.fld rfl rfl) rfl rfl ?_ | refine qv rfl (rr_lss rfl rfl (qT (by omega))) rfl rfl ?_ | refine qv rfl (rr_lss rfl rfl (qF (by omega))) rfl rfl ?_ | refine qv rfl (rr_gtr rfl rfl (qT (by omega))) rfl rfl ?_ | refine qv rfl (rr_gtr rfl rfl (qF (by omega))) rfl rfl ?_ | refine qv rfl (rr_add64 rfl rfl (by omega) (by omega) rfl) rfl rfl ?_ | refine qv rfl (rr_geq rfl rfl (qT (by omega))) rfl rfl ?_ | refine qv rfl (rr_geq rfl rfl (qF (by omega))) rfl rfl ?_))
      exact E_ret1 rfl rfl fun w hm => hm.ret
    rw [if_neg c9] at hstop hdrop
    by_cases c10 : body.any (fun x => !right t n x) = true
    · rw [if_pos c10] at hstop
      rw [hstop (by decide)]
      rw [c10] at hco
      repeat (first
        | refine qv rfl (qp rfl) rfl rfl ?_ | refine TL_nil ?_ | refine T_seq ?_ | refine T_region ?_ | refine qcT rfl ?_ | refine qcF rfl ?_ | refine T_skip ?_
        | refine T_exit ?_ | refine T_ret ?_ | refine T_block ?_ | refine E_then ?_ | refine E_thenX ?_ | refine E_thenR ?_ | refine E_blockN ?_
        | refine E_blockR ?_ | refine E_blockX ?_ | refine E_blockO rfl ?_ | refine qs rfl rfl rfl rfl rfl rfl ?_
        | ((try refine qg rfl rfl rfl ?_); first | refine qv rfl (qp rfl) rfl rfl ?_ | refine qv rfl (rr_load1 TyC.ty rfl (at_blk (i := 1) rfl rfl)) rfl rfl ?_ | refine qv rfl (rr_load1 TyC.ty rfl (at_blk (i := 0) rfl rfl)) rfl rfl ?_ | refine qv rfl (qlen Und.eq rfl) rfl rfl ?_ | refine qv rfl (qfld FldC.fld rfl rfl) rfl rfl ?_ | refine qv rfl (rr_lss rfl rfl (qT (by omega))) rfl rfl ?_ | refine qv rfl (rr_lss rfl rfl (qF (by omega))) rfl rfl ?_ | refine qv rfl (rr_gtr rfl rfl (qT (by omega))) rfl rfl ?_ | refine qv rfl (rr_gtr rfl rfl (qF (by omega))) rfl rfl ?_ | refine qv rfl (rr_add64 rfl rfl (by omega) (by omega) rfl) rfl rfl ?_ | refine qv rfl (rr_func rfl rfl) rfl rfl ?_ | refine qv rfl (rr_geq rfl rfl (qT (by omega))) rfl rfl ?_ | refine qv rfl (rr_geq rfl rfl (qF (by omega))) rfl rfl ?_))
      refine TL_gcall (he2 EntersC.en rfl rfl rfl) (fun w hm => hco _ hm.below (hm.get (i := 0) rfl)) rfl rfl rfl rfl rfl ?_
      intro _ _
      repeat (first
        | refine qv rfl (qp rfl) rfl rfl ?_ | refine TL_nil ?_ | refine T_seq ?_ | refine T_region ?_ | refine qcT rfl ?_ | refine qcF rfl ?_ | refine T_skip ?_
        | refine T_exit ?_ | refine T_ret ?_ | refine T_block ?_ | refine E_then ?_ | refine E_thenX ?_ | refine E_thenR ?_ | refine E_blockN ?_
        | refine E_blockR ?_ | refine E_blockX ?_ | refine E_blockO rfl ?_ | refine qs rfl rfl rfl rfl rfl rfl ?_
        | ((try refine qg rfl rfl rfl ?_); first | refine qv rfl (qp rfl) rfl rfl ?_ | refine qv rfl (qlen Und.eq rfl) rfl rfl ?_ | refine qv rfl (qfld FldC.fld rfl rfl) rfl rfl ?_ | refine qv rfl (rr_lss rfl rfl (qT (by omega))) rfl rfl ?_ | refine qv rfl (rr_lss rfl rfl (qF (by omega))) rfl rfl ?_ | refine qv rfl (rr_gtr rfl rfl (qT (by omega))) rfl rfl ?_ | refine qv rfl (rr_gtr rfl rfl (qF (by omega))) rfl rfl ?_ | refine qv rfl (rr_add64 rfl rfl (by omega) (by omega) rfl) rfl rfl ?_ | refine qv rfl (rr_geq rfl rfl (qT (by omega))) rfl rfl ?_ | refine qv rfl (rr_geq rfl rfl (qF (by omega))) rfl rfl ?_))
      exact E_ret1 rfl rfl fun w hm => hm.ret
    · have c10' : body.any (fun x => !right t n x) = false := by simpa using c10
      rw [if_neg c10] at hdrop
      rw [c10'] at hco
      repeat (first
        | refine qv rfl (qp rfl) rfl rfl ?_ | refine TL_nil ?_ | refine T_seq ?_ | refine T_region ?_ | refine qcT rfl ?_ | refine qcF rfl ?_ | refine T_skip ?_
        | refine T_exit ?_ | refine T_ret ?_ | refine T_block ?_ | refine E_then ?_ | refine E_thenX ?_ | refine E_thenR ?_ | refine E_blockN ?_
        | refine E_blockR ?_ | refine E_blockX ?_ | refine E_blockO rfl ?_ | refine qs rfl rfl rfl rfl rfl rfl ?_
        | ((try refine qg rfl rfl rfl ?_); first | refine qv rfl (qp rfl) rfl rfl ?_ | refine qv rfl (rr_load1 TyC.ty rfl (at_blk (i := 1) rfl rfl)) rfl rfl ?_ | refine qv rfl (rr_load1 TyC.ty rfl (at_blk (i := 0) rfl rfl)) rfl rfl ?_ | refine qv rfl (qlen Und.eq rfl) rfl rfl ?_ | refine qv rfl (qfld FldC.fld rfl rfl) rfl rfl ?_ | refine qv rfl (rr_lss rfl rfl (qT (by omega))) rfl rfl ?_ | refine qv rfl (rr_lss rfl rfl (qF (by omega))) rfl rfl ?_ | refine qv rfl (rr_gtr rfl rfl (qT (by omega))) rfl rfl ?_ | refine qv rfl (rr_gtr rfl rfl (qF (by omega))) rfl rfl ?_ | refine qv rfl (rr_add64 rfl rfl (by omega) (by omega) rfl) rfl rfl ?_ | refine qv rfl (rr_func rfl rfl) rfl rfl ?_ | refine qv rfl (rr_geq rfl rfl (qT (by omega))) rfl rfl ?_ | refine qv rfl (rr_geq rfl rfl (qF (by omega))) rfl rfl ?_))
      refine TL_gcall (he2 EntersC.en rfl rfl rfl) (fun w hm => hco _ hm.below (hm.get (i := 0) rfl)) rfl rfl rfl rfl rfl ?_
      intro _ _
      repeat (first
        | refine qv rfl (qp rfl) rfl rfl ?_ | refine TL_nil ?_ | refine T_seq ?_ | refine T_region ?_ | refine qcT rfl ?_ | refine qcF rfl ?_ | refine T_skip ?_
        | refine T_exit ?_ | refine T_ret ?_ | refine T_block ?_ | refine E_then ?_ | refine E_thenX ?_ | refine E_thenR ?_ | refine E_blockN ?_
        | refine E_blockR ?_ | refine E_blockX ?_ | refine E_blockO rfl ?_ | refine qs rfl rfl rfl rfl rfl rfl ?_
        | ((try refine qg rfl rfl rfl ?_); first | refine qv rfl (qp rfl) rfl rfl ?_ | refine qv rfl (qlen Und.eq rfl) rfl rfl ?_ | refine qv rfl (qfld FldC.fld rfl rfl) rfl rfl ?_ | refine qv rfl (rr_lss rfl rfl (qT (by omega))) rfl rfl ?_ | refine qv rfl (rr_lss rfl rfl (qF (by omega))) rfl rfl ?_ | refine qv rfl (rr_gtr rfl rfl (qT (by omega))) rfl rfl ?_ | refine qv rfl (rr_gtr rfl rfl (qF (by omega))) rfl rfl ?_ | refine qv rfl (rr_add64 rfl rfl (by omega) (by omega) rfl) rfl rfl ?_ | refine qv rfl (rr_geq rfl rfl (qT (by omega))) rfl rfl ?_ | refine qv rfl (rr_geq rfl rfl (qF (by omega))) rfl rfl ?_))
      refine E_pick [0] (by decide) rfl ?_
      exact E_round (k + 1) ⟨by omega, hdrop rfl⟩ (by show prods.length - (k + 1) < prods.length - k; omega) (by repeat' (first | exact True.intro | refine And.intro rfl ?_)) rfl
  · rw [List.drop_of_length_le (by omega)]
    repeat (first
      | refine qv rfl (qp rfl) rfl rfl ?_ | refine TL_nil ?_ | refine T_seq ?_ | refine T_region ?_ | refine qcT rfl ?_ | refine qcF rfl ?_ | refine T_skip ?_
      | refine T_exit ?_ | refine T_ret ?_ | refine T_block ?_ | refine E_then ?_ | refine E_thenX ?_ | refine E_thenR ?_ | refine E_blockN ?_
      | refine E_blockR ?_ | refine E_blockX ?_ | refine E_blockO rfl ?_ | refine qs rfl rfl rfl rfl rfl rfl ?_
      | ((try refine qg rfl rfl rfl ?_); first | refine qv rfl (qp rfl) rfl rfl ?_ | refine qv rfl (qlen Und.eq rfl) rfl rfl ?_ | refine qv rfl (qfld FldC.fld rfl rfl) rfl rfl ?_ | refine qv rfl (rr_lss rfl rfl (qT (by omega))) rfl rfl ?_ | refine qv rfl (rr_lss rfl rfl (qF (by omega))) rfl rfl ?_ | refine qv rfl (rr_gtr rfl rfl (qT (by omega))) rfl rfl ?_ | refine qv rfl (rr_gtr rfl rfl (qF (by omega))) rfl rfl ?_ | refine qv rfl (rr_add64 rfl rfl (by omega) (by omega) rfl) rfl rfl ?_ | refine qv rfl (rr_geq rfl rfl (qT (by omega))) rfl rfl ?_ | refine qv rfl (rr_geq rfl rfl (qF (by omega))) rfl rfl ?_))
    exact E_ret1 rfl rfl fun w hm => hm.ret
end Go.Proofs.Ytmcclhddjielnaa.eng

/- FactsL -/
namespace Go.Proofs.Ytmcclhddjielnaa.factsL
open gramL
def markF (l : List Bool) (i : Nat) (b : Bool) : List Bool × Bool := if b = true ∧ l.getD i false = false then (l.set i true, true) else (l, false)
/-- are all of a body's nonterminals so? -/
def allF (l : List Bool) (body : List Sym) (terms : Bool) : Bool := body.all fun x => if x.1 = 1 then terms else if x.1 = 2 then l.getD x.2.toNat false else true
def addF (l : List Nat) (i : Nat) (b : Nat) : List Nat × Bool := (l.set i (l.getD i 0 ||| b), !decide ((l.getD i 0 ||| b) = l.getD i 0))
/-- what some symbols begin with, something standing behind -/
def beginGo (E : List Bool) (F : List Nat) (behind : Nat) : List Sym → Nat → Nat
  | [], out => out ||| behind
  | x :: r, out => if x.1 = 1 then out ||| 2 ^ x.2.toNat else if E.getD x.2.toNat false = true then beginGo E F behind r (out ||| F.getD x.2.toNat 0) else out ||| F.getD x.2.toNat 0
def beginF (E : List Bool) (F : List Nat) (body : List Sym) (behind : Nat) : Nat := beginGo E F behind body 0
theorem markF_len (l : List Bool) (i : Nat) (b : Bool) : (markF l i b).1.length = l.length := by
  unfold markF; split <;> simp
theorem addF_len (l : List Nat) (i : Nat) (b : Nat) : (addF l i b).1.length = l.length := by
  simp [addF]
structure FS where
  E : List Bool
  R : List Bool
  M : List Bool
  more : Bool
def stepR (h : Nat) (x : Sym) (R : List Bool) (more : Bool) : List Bool × Bool := if x.1 = 2 then ((markF R x.2.toNat (R.getD h false)).1, (markF R x.2.toNat (R.getD h false)).2 || more) else (R, more)
def roundR (h : Nat) : List Sym → List Bool → Bool → List Bool × Bool
  | [], R, more => (R, more)
  | x :: r, R, more => roundR h r (stepR h x R more).1 (stepR h x R more).2
def roundP (p : gramL.Prod) (s : FS) : FS :=
  let h := p.1.toNat
  let a := markF s.E h (allF s.E p.2 false)
  let b := markF s.M h (allF s.M p.2 true)
  let c := roundR h p.2 s.R (b.2 || (a.2 || s.more))
  ⟨a.1, c.1, b.1, c.2⟩
def roundL : List gramL.Prod → FS → FS
  | [], s => s
  | p :: r, s => roundL r (roundP p s)
theorem stepR_len (h : Nat) (x : Sym) (R : List Bool) (more : Bool) : (stepR h x R more).1.length = R.length := by
  unfold stepR; split
  · exact markF_len _ _ _
  · rfl
theorem roundR_len (h : Nat) : ∀ (body : List Sym) (R : List Bool) (more : Bool), (roundR h body R more).1.length = R.length
  | [], _, _ => rfl
  | x :: r, R, more => by rw [roundR, roundR_len h r, stepR_len]
/-- how many are true -/
def trues (l : List Bool) : Nat := l.countP id
theorem markF_trues {l : List Bool} {i : Nat} {b : Bool} (hi : i < l.length) : trues (markF l i b).1 = trues l + (if (markF l i b).2 = true then 1 else 0) := by
  unfold markF
  split
  · rename_i c
    have h0 : l[i] = false := by
      have := c.2
      rw [List.getD_eq_getElem?_getD, List.getElem?_eq_getElem hi] at this
      simpa using this
    unfold trues
    rw [List.countP_set hi]
    simp [h0]
  · simp
end Go.Proofs.Ytmcclhddjielnaa.factsL

/- FactsA -/
namespace Go.Proofs.Ytmcclhddjielnaa.eng
open Go.RowKit kit mix gramL factsL
def bitV (n : Nat) : Value := .int .u64 (n : Int)
theorem bool_at {l : List Bool} {i : Nat} (hi : i < l.length) : (l.map Value.bool)[i]? = some (.bool (l.getD i false)) := by
  simp [hi]
theorem bit_at {l : List Nat} {i : Nat} (hi : i < l.length) : (l.map bitV)[i]? = some (bitV (l.getD i 0)) := by
  simp [hi]
set_option maxHeartbeats 1000000 in
theorem mark_calls (g cap : Nat) (l : List Bool) (i : Nat) (b : Bool) (w : World) (B : Base) (hi : i < l.length) (hm : Mem B [rowO 4 1 (.slice (some ⟨g, 0, none⟩) l.length cap) l.length (l.map .bool)] w) :
    Calls Try.prog 61 #[.slice (some ⟨g, 0, none⟩) l.length cap, .int .i64 (i : Int), .bool b] w (MeetsB ⟨fun (_ : Unit) => True, fun _ => .bool (markF l i b).2, fun _ => [rowO 4 1 (.slice (some ⟨g, 0, none⟩) l.length cap) l.length ((markF l i b).1.map .bool)]⟩ B) := by
  have hb := bool_at hi
  refine enterB hm (args := [.slice (some ⟨g, 0, none⟩) l.length cap, .int .i64 (i : Int), .bool b]) (n := 18) Try.func61 rfl rfl rfl ?_
  unfold markF
  cases b
  · rw [if_neg (by simp)]
    repeat (first
      | refine qv rfl (qp rfl) rfl rfl ?_ | refine TL_nil ?_ | refine T_seq ?_ | refine T_region ?_ | refine qcT rfl ?_ | refine qcF rfl ?_ | refine T_skip ?_
      | refine T_ret ?_ | refine E_then ?_ | refine E_thenR ?_ | refine qs rfl rfl rfl rfl rfl rfl ?_
      | ((try refine qg rfl rfl rfl ?_); first | refine qv rfl (qp rfl) rfl rfl ?_ | refine qv rfl (rr_not rfl rfl) rfl rfl ?_))
    exact E_ret1 rfl rfl fun w hm => hm.meetsB (S := ⟨fun (_ : Unit) => True, fun _ => .bool false, fun _ => [rowO 4 1 (.slice (some ⟨g, 0, none⟩) l.length cap) l.length (l.map .bool)]⟩) () trivial [0] (by decide) rfl
  · generalize hx : l.getD i false = x at *
    cases x
    · rw [if_pos ⟨rfl, rfl⟩]
      repeat (first
        | refine qv rfl (qp rfl) rfl rfl ?_ | refine TL_nil ?_ | refine T_seq ?_ | refine T_region ?_ | refine qcT rfl ?_ | refine qcF rfl ?_ | refine T_skip ?_
        | refine T_ret ?_ | refine E_then ?_ | refine E_thenR ?_ | refine qs rfl rfl rfl rfl rfl rfl ?_
        | ((try refine qg rfl rfl rfl ?_); first | refine qv rfl (qp rfl) rfl rfl ?_ | refine qv rfl (rr_idx1 Und.eq TyC.ty rfl rfl hi) rfl rfl ?_ | refine qv rfl (rr_load1 TyC.ty rfl (at_row (i := 0) rfl (by rw [Nat.zero_add]; exact hb))) rfl rfl ?_ | refine qv rfl (rr_not rfl rfl) rfl rfl ?_))
      refine TL_storeRow (i := 0) TyC.ty rfl rfl rfl rfl rfl rfl (by simpa using hi) ?_
      repeat (first
        | refine qv rfl (qp rfl) rfl rfl ?_ | refine TL_nil ?_ | refine T_seq ?_ | refine T_region ?_ | refine qcT rfl ?_ | refine qcF rfl ?_ | refine T_skip ?_
        | refine T_ret ?_ | refine E_then ?_ | refine E_thenR ?_ | refine qs rfl rfl rfl rfl rfl rfl ?_
        | ((try refine qg rfl rfl rfl ?_); first | refine qv rfl (qp rfl) rfl rfl ?_ | refine qv rfl (rr_not rfl rfl) rfl rfl ?_))
      exact E_ret1 rfl rfl fun w hm => hm.meetsB (S := ⟨fun (_ : Unit) => True, fun _ => .bool true, fun _ => [rowO 4 1 (.slice (some ⟨g, 0, none⟩) l.length cap) l.length ((l.set i true).map .bool)]⟩) () trivial [0] (by decide) (by simp [List.map_set])
    · rw [if_neg (by simp)]
      repeat (first
        | refine qv rfl (qp rfl) rfl rfl ?_ | refine TL_nil ?_ | refine T_seq ?_ | refine T_region ?_ | refine qcT rfl ?_ | refine qcF rfl ?_ | refine T_skip ?_
        | refine T_ret ?_ | refine E_then ?_ | refine E_thenR ?_ | refine qs rfl rfl rfl rfl rfl rfl ?_
        | ((try refine qg rfl rfl rfl ?_); first | refine qv rfl (qp rfl) rfl rfl ?_ | refine qv rfl (rr_idx1 Und.eq TyC.ty rfl rfl hi) rfl rfl ?_ | refine qv rfl (rr_load1 TyC.ty rfl (at_row (i := 0) rfl (by rw [Nat.zero_add]; exact hb))) rfl rfl ?_ | refine qv rfl (rr_not rfl rfl) rfl rfl ?_))
      exact E_ret1 rfl rfl fun w hm => hm.meetsB (S := ⟨fun (_ : Unit) => True, fun _ => .bool false, fun _ => [rowO 4 1 (.slice (some ⟨g, 0, none⟩) l.length cap) l.length (l.map .bool)]⟩) () trivial [0] (by decide) rfl
set_option maxHeartbeats 2000000 in
theorem allB_calls (v vb : Value) (l : List Bool) (body : List Sym) (terms : Bool) (w : World) (hs : Sl w v l.length (l.map .bool)) (hs2 : Sl w vb body.length (body.flatMap symC)) (hok : ∀ x ∈ body, x.1 = 2 → 0 ≤ x.2 ∧ x.2 < l.length) :
    Calls Try.prog 62 #[v, vb, .bool terms] w (Meets (ret (.bool (allF l body terms))) w) := by
  obtain ⟨bv, cv, rfl, h1, h2, h3⟩ := hs
  obtain ⟨bb, cb, rfl, h4, h5, h6⟩ := hs2
  unfold maxLen at h2 h5
  refine enter (args := [.slice bv l.length cv, .slice bb body.length cb, .bool terms]) (n := 36) Try.func62 rfl rfl rfl ?_
  repeat (first
    | refine qv rfl (qp rfl) rfl rfl ?_ | refine TL_nil ?_ | refine T_seq ?_ | refine T_region ?_ | refine qcT rfl ?_ | refine qcF rfl ?_ | refine T_skip ?_
    | refine T_exit ?_ | refine T_ret ?_ | refine T_block ?_ | refine E_then ?_ | refine E_thenX ?_ | refine E_thenR ?_ | refine E_blockN ?_
    | refine E_blockR ?_ | refine E_blockX ?_ | refine E_blockO rfl ?_ | refine qs rfl rfl rfl rfl rfl rfl ?_
    | ((try refine qg rfl rfl rfl ?_); first | refine qv rfl (qp rfl) rfl rfl ?_ | refine qv rfl (qlen Und.eq rfl) rfl rfl ?_ | refine qv rfl (qfld FldC.fld rfl rfl) rfl rfl ?_ | refine qv rfl (rr_lss rfl rfl (qT (by omega))) rfl rfl ?_ | refine qv rfl (rr_lss rfl rfl (qF (by omega))) rfl rfl ?_ | refine qv rfl (rr_eql rfl rfl (qT (by omega))) rfl rfl ?_ | refine qv rfl (rr_eql rfl rfl (qF (by omega))) rfl rfl ?_ | refine qv rfl (rr_add64 rfl rfl (by omega) (by omega) rfl) rfl rfl ?_ | refine qv rfl (rr_not rfl rfl) rfl rfl ?_))
  refine T_loop (ι := Nat) (fun k => k ≤ body.length ∧ allF l body terms = allF l (body.drop k) terms) (fun k => [(0, .slice bv l.length cv), (2, .bool terms), (9, .slice bb body.length cb), (10, .int .i64 body.length), (11, .int .i64 (k : Int))]) (fun _ => []) (fun k => body.length - k) 0 ⟨Nat.zero_le _, rfl⟩ (by repeat' (first | exact True.intro | refine And.intro rfl ?_)) rfl ?_
  rintro k ⟨i1, i2⟩
  rw [i2]
  clear i2
  by_cases c6 : k < body.length
  · obtain ⟨b, off, rfl, hr⟩ := h6 (by omega)
    have hat := at_el (L := ([] : List Own)) SymS_len hr c6
    have hokx := hok body[k] (List.getElem_mem c6)
    have hd : allF l (body.drop k) terms = ((if body[k].1 = 1 then terms else if body[k].1 = 2 then l.getD body[k].2.toNat false else true) && allF l (body.drop (k + 1)) terms) := by
      rw [List.drop_eq_getElem_cons c6]; rfl
    rw [hd]
    clear hd h6 hok hr
    generalize body[k] = x at *
    obtain ⟨q, m⟩ := x
    dsimp only at *
    by_cases c1 : q = 1
    · rw [if_pos c1]
      cases terms
      · repeat (first
          | refine qv rfl (qp rfl) rfl rfl ?_ | refine TL_nil ?_ | refine T_seq ?_ | refine T_region ?_ | refine qcT rfl ?_ | refine qcF rfl ?_ | refine T_skip ?_
          | refine T_exit ?_ | refine T_ret ?_ | refine T_block ?_ | refine E_then ?_ | refine E_thenX ?_ | refine E_thenR ?_ | refine E_blockN ?_
          | refine E_blockR ?_ | refine E_blockX ?_ | refine E_blockO rfl ?_ | refine qs rfl rfl rfl rfl rfl rfl ?_
          | ((try refine qg rfl rfl rfl ?_); first | refine qv rfl (qp rfl) rfl rfl ?_ | refine qv rfl (rr_idxc Und.eq TyC.ty rfl rfl c6) rfl rfl ?_ | refine qv rfl (rr_loadN TyC.ty rfl rfl hat) rfl rfl ?_ | refine qv rfl (qlen Und.eq rfl) rfl rfl ?_ | refine qv rfl (qfld FldC.fld rfl rfl) rfl rfl ?_ | refine qv rfl (rr_lss rfl rfl (qT (by omega))) rfl rfl ?_ | refine qv rfl (rr_lss rfl rfl (qF (by omega))) rfl rfl ?_ | refine qv rfl (rr_eql rfl rfl (qT (by omega))) rfl rfl ?_ | refine qv rfl (rr_eql rfl rfl (qF (by omega))) rfl rfl ?_ | refine qv rfl (rr_add64 rfl rfl (by omega) (by omega) rfl) rfl rfl ?_ | refine qv rfl (rr_not rfl rfl) rfl rfl ?_))
        refine TL_new rfl fun g8 => ?_
        refine TL_storeB (i := 0) rfl rfl rfl rfl rfl rfl ?_
        repeat (first
          | refine qv rfl (qp rfl) rfl rfl ?_ | refine TL_nil ?_ | refine T_seq ?_ | refine T_region ?_ | refine qcT rfl ?_ | refine qcF rfl ?_ | refine T_skip ?_
          | refine T_exit ?_ | refine T_ret ?_ | refine T_block ?_ | refine E_then ?_ | refine E_thenX ?_ | refine E_thenR ?_ | refine E_blockN ?_
          | refine E_blockR ?_ | refine E_blockX ?_ | refine E_blockO rfl ?_ | refine qs rfl rfl rfl rfl rfl rfl ?_
          | ((try refine qg rfl rfl rfl ?_); first | refine qv rfl (qp rfl) rfl rfl ?_ | refine qv rfl (rr_load1 TyC.ty rfl (at_blk (i := 0) rfl rfl)) rfl rfl ?_ | refine qv rfl (qlen Und.eq rfl) rfl rfl ?_ | refine qv rfl (qfld FldC.fld rfl rfl) rfl rfl ?_ | refine qv rfl (rr_lss rfl rfl (qT (by omega))) rfl rfl ?_ | refine qv rfl (rr_lss rfl rfl (qF (by omega))) rfl rfl ?_ | refine qv rfl (rr_eql rfl rfl (qT (by omega))) rfl rfl ?_ | refine qv rfl (rr_eql rfl rfl (qF (by omega))) rfl rfl ?_ | refine qv rfl (rr_add64 rfl rfl (by omega) (by omega) rfl) rfl rfl ?_ | refine qv rfl (rr_not rfl rfl) rfl rfl ?_))
        exact E_ret1 rfl rfl fun w hm => hm.ret
      · repeat (first
          | refine qv rfl (qp rfl) rfl rfl ?_ | refine TL_nil ?_ | refine T_seq ?_ | refine T_region ?_ | refine qcT rfl ?_ | refine qcF rfl ?_ | refine T_skip ?_
          | refine T_exit ?_ | refine T_ret ?_ | refine T_block ?_ | refine E_then ?_ | refine E_thenX ?_ | refine E_thenR ?_ | refine E_blockN ?_
          | refine E_blockR ?_ | refine E_blockX ?_ | refine E_blockO rfl ?_ | refine qs rfl rfl rfl rfl rfl rfl ?_
          | ((try refine qg rfl rfl rfl ?_); first | refine qv rfl (qp rfl) rfl rfl ?_ | refine qv rfl (rr_idxc Und.eq TyC.ty rfl rfl c6) rfl rfl ?_ | refine qv rfl (rr_loadN TyC.ty rfl rfl hat) rfl rfl ?_ | refine qv rfl (qlen Und.eq rfl) rfl rfl ?_ | refine qv rfl (qfld FldC.fld rfl rfl) rfl rfl ?_ | refine qv rfl (rr_lss rfl rfl (qT (by omega))) rfl rfl ?_ | refine qv rfl (rr_lss rfl rfl (qF (by omega))) rfl rfl ?_ | refine qv rfl (rr_eql rfl rfl (qT (by omega))) rfl rfl ?_ | refine qv rfl (rr_eql rfl rfl (qF (by omega))) rfl rfl ?_ | refine qv rfl (rr_add64 rfl rfl (by omega) (by omega) rfl) rfl rfl ?_ | refine qv rfl (rr_not rfl rfl) rfl rfl ?_))
        refine TL_new rfl fun g8 => ?_
        refine TL_storeB (i := 0) rfl rfl rfl rfl rfl rfl ?_
        repeat (first
          | refine qv rfl (qp rfl) rfl rfl ?_ | refine TL_nil ?_ | refine T_seq ?_ | refine T_region ?_ | refine qcT rfl ?_ | refine qcF rfl ?_ | refine T_skip ?_
          | refine T_exit ?_ | refine T_ret ?_ | refine T_block ?_ | refine E_then ?_ | refine E_thenX ?_ | refine E_thenR ?_ | refine E_blockN ?_
          | refine E_blockR ?_ | refine E_blockX ?_ | refine E_blockO rfl ?_ | refine qs rfl rfl rfl rfl rfl rfl ?_
          | ((try refine qg rfl rfl rfl ?_); first | refine qv rfl (qp rfl) rfl rfl ?_ | refine qv rfl (rr_load1 TyC.ty rfl (at_blk (i := 0) rfl rfl)) rfl rfl ?_ | refine qv rfl (qlen Und.eq rfl) rfl rfl ?_ | refine qv rfl (qfld FldC.fld rfl rfl) rfl rfl ?_ | refine qv rfl (rr_lss rfl rfl (qT (by omega))) rfl rfl ?_ | refine qv rfl (rr_lss rfl rfl (qF (by omega))) rfl rfl ?_ | refine qv rfl (rr_eql rfl rfl (qT (by omega))) rfl rfl ?_ | refine qv rfl (rr_eql rfl rfl (qF (by omega))) rfl rfl ?_ | refine qv rfl (rr_add64 rfl rfl (by omega) (by omega) rfl) rfl rfl ?_ | refine qv rfl (rr_not rfl rfl) rfl rfl ?_))
        refine E_pick [] (by decide) rfl ?_
        exact E_round (k + 1) ⟨by omega, by simp⟩ (by show body.length - (k + 1) < body.length - k; omega) (by repeat' (first | exact True.intro | refine And.intro rfl ?_)) rfl
    · rw [if_neg c1]
      by_cases c2 : q = 2
      · rw [if_pos c2]
        obtain ⟨o1, o2⟩ := hokx c2
        obtain ⟨mm, rfl⟩ : ∃ mm : Nat, m = mm := ⟨m.toNat, by omega⟩
        have hmm : mm < l.length := by omega
        obtain ⟨b', off', rfl, hr'⟩ := h3 (by omega)
        rw [Int.toNat_natCast]
        have hcell := bool_at hmm
        generalize l.getD mm false = y at *
        cases y
        · repeat (first
            | refine qv rfl (qp rfl) rfl rfl ?_ | refine TL_nil ?_ | refine T_seq ?_ | refine T_region ?_ | refine qcT rfl ?_ | refine qcF rfl ?_ | refine T_skip ?_
            | refine T_exit ?_ | refine T_ret ?_ | refine T_block ?_ | refine E_then ?_ | refine E_thenX ?_ | refine E_thenR ?_ | refine E_blockN ?_
            | refine E_blockR ?_ | refine E_blockX ?_ | refine E_blockO rfl ?_ | refine qs rfl rfl rfl rfl rfl rfl ?_
            | ((try refine qg rfl rfl rfl ?_); first | refine qv rfl (qp rfl) rfl rfl ?_ | refine qv rfl (rr_idxc Und.eq TyC.ty rfl rfl c6) rfl rfl ?_ | refine qv rfl (rr_loadN TyC.ty rfl rfl hat) rfl rfl ?_ | refine qv rfl (qlen Und.eq rfl) rfl rfl ?_ | refine qv rfl (qfld FldC.fld rfl rfl) rfl rfl ?_ | refine qv rfl (rr_lss rfl rfl (qT (by omega))) rfl rfl ?_ | refine qv rfl (rr_lss rfl rfl (qF (by omega))) rfl rfl ?_ | refine qv rfl (rr_eql rfl rfl (qT (by omega))) rfl rfl ?_ | refine qv rfl (rr_eql rfl rfl (qF (by omega))) rfl rfl ?_ | refine qv rfl (rr_add64 rfl rfl (by omega) (by omega) rfl) rfl rfl ?_ | refine qv rfl (rr_not rfl rfl) rfl rfl ?_))
          refine TL_new rfl fun g8 => ?_
          refine TL_storeB (i := 0) rfl rfl rfl rfl rfl rfl ?_
          repeat (first
            | refine qv rfl (qp rfl) rfl rfl ?_ | refine TL_nil ?_ | refine T_seq ?_ | refine T_region ?_ | refine qcT rfl ?_ | refine qcF rfl ?_ | refine T_skip ?_
            | refine T_exit ?_ | refine T_ret ?_ | refine T_block ?_ | refine E_then ?_ | refine E_thenX ?_ | refine E_thenR ?_ | refine E_blockN ?_
            | refine E_blockR ?_ | refine E_blockX ?_ | refine E_blockO rfl ?_ | refine qs rfl rfl rfl rfl rfl rfl ?_
            | ((try refine qg rfl rfl rfl ?_); first | refine qv rfl (qp rfl) rfl rfl ?_ | refine qv rfl (rr_load1 TyC.ty rfl (at_blk (i := 0) rfl rfl)) rfl rfl ?_ | refine qv rfl (rr_idx1 Und.eq TyC.ty rfl rfl hmm) rfl rfl ?_ | refine qv rfl (rr_load1 TyC.ty rfl (at_rd hr' hcell)) rfl rfl ?_ | refine qv rfl (qlen Und.eq rfl) rfl rfl ?_ | refine qv rfl (qfld FldC.fld rfl rfl) rfl rfl ?_ | refine qv rfl (rr_lss rfl rfl (qT (by omega))) rfl rfl ?_ | refine qv rfl (rr_lss rfl rfl (qF (by omega))) rfl rfl ?_ | refine qv rfl (rr_eql rfl rfl (qT (by omega))) rfl rfl ?_ | refine qv rfl (rr_eql rfl rfl (qF (by omega))) rfl rfl ?_ | refine qv rfl (rr_add64 rfl rfl (by omega) (by omega) rfl) rfl rfl ?_ | refine qv rfl (rr_not rfl rfl) rfl rfl ?_))
          exact E_ret1 rfl rfl fun w hm => hm.ret
        · repeat (first
            | refine qv rfl (qp rfl) rfl rfl ?_ | refine TL_nil ?_ | refine T_seq ?_ | refine T_region ?_ | refine qcT rfl ?_ | refine qcF rfl ?_ | refine T_skip ?_
            | refine T_exit ?_ | refine T_ret ?_ | refine T_block ?_ | refine E_then ?_ | refine E_thenX ?_ | refine E_thenR ?_ | refine E_blockN ?_
            | refine E_blockR ?_ | refine E_blockX ?_ | refine E_blockO rfl ?_ | refine qs rfl rfl rfl rfl rfl rfl ?_
            | ((try refine qg rfl rfl rfl ?_); first | refine qv rfl (qp rfl) rfl rfl ?_ | refine qv rfl (rr_idxc Und.eq TyC.ty rfl rfl c6) rfl rfl ?_ | refine qv rfl (rr_loadN TyC.ty rfl rfl hat) rfl rfl ?_ | refine qv rfl (qlen Und.eq rfl) rfl rfl ?_ | refine qv rfl (qfld FldC.fld rfl rfl) rfl rfl ?_ | refine qv rfl (rr_lss rfl rfl (qT (by omega))) rfl rfl ?_ | refine qv rfl (rr_lss rfl rfl (qF (by omega))) rfl rfl ?_ | refine qv rfl (rr_eql rfl rfl (qT (by omega))) rfl rfl ?_ | refine qv rfl (rr_eql rfl rfl (qF (by omega))) rfl rfl ?_ | refine qv rfl (rr_add64 rfl rfl (by omega) (by omega) rfl) rfl rfl ?_ | refine qv rfl (rr_not rfl rfl) rfl rfl ?_))
          refine TL_new rfl fun g8 => ?_
          refine TL_storeB (i := 0) rfl rfl rfl rfl rfl rfl ?_
          repeat (first
            | refine qv rfl (qp rfl) rfl rfl ?_ | refine TL_nil ?_ | refine T_seq ?_ | refine T_region ?_ | refine qcT rfl ?_ | refine qcF rfl ?_ | refine T_skip ?_
            | refine T_exit ?_ | refine T_ret ?_ | refine T_block ?_ | refine E_then ?_ | refine E_thenX ?_ | refine E_thenR ?_ | refine E_blockN ?_
            | refine E_blockR ?_ | refine E_blockX ?_ | refine E_blockO rfl ?_ | refine qs rfl rfl rfl rfl rfl rfl ?_
            | ((try refine qg rfl rfl rfl ?_); first | refine qv rfl (qp rfl) rfl rfl ?_ | refine qv rfl (rr_load1 TyC.ty rfl (at_blk (i := 0) rfl rfl)) rfl rfl ?_ | refine qv rfl (rr_idx1 Und.eq TyC.ty rfl rfl hmm) rfl rfl ?_ | refine qv rfl (rr_load1 TyC.ty rfl (at_rd hr' hcell)) rfl rfl ?_ | refine qv rfl (qlen Und.eq rfl) rfl rfl ?_ | refine qv rfl (qfld FldC.fld rfl rfl) rfl rfl ?_ | refine qv rfl (rr_lss rfl rfl (qT (by omega))) rfl rfl ?_ | refine qv rfl (rr_lss rfl rfl (qF (by omega))) rfl rfl ?_ | refine qv rfl (rr_eql rfl rfl (qT (by omega))) rfl rfl ?_ | refine qv rfl (rr_eql rfl rfl (qF (by omega))) rfl rfl ?_ | refine qv rfl (rr_add64 rfl rfl (by omega) (by omega) rfl) rfl rfl ?_ | refine qv rfl (rr_not rfl rfl) rfl rfl ?_))
          refine E_pick [] (by decide) rfl ?_
          exact E_round (k + 1) ⟨by omega, by simp⟩ (by show body.length - (k + 1) < body.length - k; omega) (by repeat' (first | exact True.intro | refine And.intro rfl ?_)) rfl
      · rw [if_neg c2]
        repeat (first
          | refine qv rfl (qp rfl) rfl rfl ?_ | refine TL_nil ?_ | refine T_seq ?_ | refine T_region ?_ | refine qcT rfl ?_ | refine qcF rfl ?_ | refine T_skip ?_
          | refine T_exit ?_ | refine T_ret ?_ | refine T_block ?_ | refine E_then ?_ | refine E_thenX ?_ | refine E_thenR ?_ | refine E_blockN ?_
          | refine E_blockR ?_ | refine E_blockX ?_ | refine E_blockO rfl ?_ | refine qs rfl rfl rfl rfl rfl rfl ?_
          | ((try refine qg rfl rfl rfl ?_); first | refine qv rfl (qp rfl) rfl rfl ?_ | refine qv rfl (rr_idxc Und.eq TyC.ty rfl rfl c6) rfl rfl ?_ | refine qv rfl (rr_loadN TyC.ty rfl rfl hat) rfl rfl ?_ | refine qv rfl (qlen Und.eq rfl) rfl rfl ?_ | refine qv rfl (qfld FldC.fld rfl rfl) rfl rfl ?_ | refine qv rfl (rr_lss rfl rfl (qT (by omega))) rfl rfl ?_ | refine qv rfl (rr_lss rfl rfl (qF (by omega))) rfl rfl ?_ | refine qv rfl (rr_eql rfl rfl (qT (by omega))) rfl rfl ?_ | refine qv rfl (rr_eql rfl rfl (qF (by omega))) rfl rfl ?_ | refine qv rfl (rr_add64 rfl rfl (by omega) (by omega) rfl) rfl rfl ?_ | refine qv rfl (rr_not rfl rfl) rfl rfl ?_))
        refine TL_new rfl fun g8 => ?_
        refine TL_storeB (i := 0) rfl rfl rfl rfl rfl rfl ?_
        repeat (first
          | refine qv rfl (qp rfl) rfl rfl ?_ | refine TL_nil ?_ | refine T_seq ?_ | refine T_region ?_ | refine qcT rfl ?_ | refine qcF rfl ?_ | refine T_skip ?_
          | refine T_exit ?_ | refine T_ret ?_ | refine T_block ?_ | refine E_then ?_ | refine E_thenX ?_ | refine E_thenR ?_ | refine E_blockN ?_
          | refine E_blockR ?_ | refine E_blockX ?_ | refine E_blockO rfl ?_ | refine qs rfl rfl rfl rfl rfl rfl ?_
          | ((try refine qg rfl rfl rfl ?_); first | refine qv rfl (qp rfl) rfl rfl ?_ | refine qv rfl (rr_load1 TyC.ty rfl (at_blk (i := 0) rfl rfl)) rfl rfl ?_ | refine qv rfl (qlen Und.eq rfl) rfl rfl ?_ | refine qv rfl (qfld FldC.fld rfl rfl) rfl rfl ?_ | refine qv rfl (rr_lss rfl rfl (qT (by omega))) rfl rfl ?_ | refine qv rfl (rr_lss rfl rfl (qF (by omega))) rfl rfl ?_ | refine qv rfl (rr_eql rfl rfl (qT (by omega))) rfl rfl ?_ | refine qv rfl (rr_eql rfl rfl (qF (by omega))) rfl rfl ?_ | refine qv rfl (rr_add64 rfl rfl (by omega) (by omega) rfl) rfl rfl ?_ | refine qv rfl (rr_not rfl rfl) rfl rfl ?_))
        refine E_pick [] (by decide) rfl ?_
        exact E_round (k + 1) ⟨by omega, by simp⟩ (by show body.length - (k + 1) < body.length - k; omega) (by repeat' (first | exact True.intro | refine And.intro rfl ?_)) rfl
  · rw [List.drop_of_length_le (by omega)]
    repeat (first
      | refine qv rfl (qp rfl) rfl rfl ?_ | refine TL_nil ?_ | refine T_seq ?_ | refine T_region ?_ | refine qcT rfl ?_ | refine qcF rfl ?_ | refine T_skip ?_
      | refine T_exit ?_ | refine T_ret ?_ | refine T_block ?_ | refine E_then ?_ | refine E_thenX ?_ | refine E_thenR ?_ | refine E_blockN ?_
      | refine E_blockR ?_ | refine E_blockX ?_ | refine E_blockO rfl ?_ | refine qs rfl rfl rfl rfl rfl rfl ?_
      | ((try refine qg rfl rfl rfl ?_); first | refine qv rfl (qp rfl) rfl rfl ?_ | refine qv rfl (qlen Und.eq rfl) rfl rfl ?_ | refine qv rfl (qfld FldC.fld rfl rfl) rfl rfl ?_ | refine qv rfl (rr_lss rfl rfl (qT (by omega))) rfl rfl ?_ | refine qv rfl (rr_lss rfl rfl (qF (by omega))) rfl rfl ?_ | refine qv rfl (rr_eql rfl rfl (qT (by omega))) rfl rfl ?_ | refine qv rfl (rr_eql rfl rfl (qF (by omega))) rfl rfl ?_ | refine qv rfl (rr_add64 rfl rfl (by omega) (by omega) rfl) rfl rfl ?_ | refine qv rfl (rr_not rfl rfl) rfl rfl ?_))
    exact E_ret1 rfl rfl fun w hm => hm.ret
end Go.Proofs.Ytmcclhddjielnaa.eng

/- FactsB -/
namespace Go.Proofs.Ytmcclhddjielnaa.eng
open Go.RowKit kit mix gramL factsL
theorem bits_orN {x y : Nat} (hx : x < 18446744073709551616) (hy : y < 18446744073709551616) : bits .or .u64 (x : Int) (y : Int) = ((x ||| y : Nat) : Int) := by
  have h := bits_nat .u64 64 (by decide) (fun n h0 h1 => by rw [IntKind.wrap_u64]; omega) x y (by simpa using hx) (by simpa using hy)
  exact h.2
theorem or_lt {x y : Nat} (hx : x < 18446744073709551616) (hy : y < 18446744073709551616) : x ||| y < 18446744073709551616 := Nat.or_lt_two_pow (n := 64) hx hy
theorem pow_lt64 {m : Nat} (h : m < 64) : 2 ^ m < 18446744073709551616 := by
  have : (2 : Nat) ^ m < 2 ^ 64 := Nat.pow_lt_pow_right (by decide) h
  simpa using this
theorem shl1 {P : Program} (m : Nat) (hm : m < 64) (w : World) : (Op.shift .shl .u64 1 .i64 (m : Int)).run P w = .ok (.int .u64 ((2 ^ m : Nat) : Int)) w := by
  have e : min m 64 = m := by omega
  have hp := pow_lt64 hm
  have e2 : (2 : Int) ^ m = ((2 ^ m : Nat) : Int) := by rw [Int.natCast_pow]; rfl
  have e3 : IntKind.u64.wrap ((1 : Int) * 2 ^ m) = ((2 ^ m : Nat) : Int) := by
    rw [e2, IntKind.wrap_u64, Int.one_mul]
    generalize 2 ^ m = q at hp
    omega
  have h0 : ¬ ((m : Int) < 0) := by omega
  simp only [Op.shift, if_neg h0, IntKind.bits, Int.toNat_natCast, e, e3, Sem.run_pure]
attribute [local irreducible] Op.shift Go.bits in
set_option maxHeartbeats 1000000 in
theorem add_calls (g cap : Nat) (l : List Nat) (i b : Nat) (w : World) (B : Base) (hi : i < l.length) (h64 : ∀ x ∈ l, x < 18446744073709551616) (hb : b < 18446744073709551616) (hm : Mem B [rowO 72 1 (.slice (some ⟨g, 0, none⟩) l.length cap) l.length (l.map bitV)] w) :
    Calls Try.prog 63 #[.slice (some ⟨g, 0, none⟩) l.length cap, .int .i64 (i : Int), bitV b] w (MeetsB ⟨fun (_ : Unit) => True, fun _ => .bool (addF l i b).2, fun _ => [rowO 72 1 (.slice (some ⟨g, 0, none⟩) l.length cap) l.length ((addF l i b).1.map bitV)]⟩ B) := by
  have hc := bit_at hi
  have hx64 : l.getD i 0 < 18446744073709551616 := by
    have e : l.getD i 0 = l[i] := by rw [List.getD_eq_getElem?_getD, List.getElem?_eq_getElem hi]; rfl
    rw [e]; exact h64 _ (List.getElem_mem hi)
  refine enterB hm (args := [.slice (some ⟨g, 0, none⟩) l.length cap, .int .i64 (i : Int), bitV b]) (n := 25) Try.func63 rfl rfl rfl ?_
  unfold addF
  generalize l.getD i 0 = x at *
  have hor := bits_orN hx64 hb
  have hset : ((l.map bitV).set i (.int .u64 ((x ||| b : Nat) : Int)))[0 + i]? = some (.int .u64 ((x ||| b : Nat) : Int)) := by
    rw [Nat.zero_add, List.getElem?_set_self (by simpa using hi)]
  generalize x ||| b = y at *
  by_cases c : y = x
  · rw [show (!decide (y = x)) = false by simp [c]]
    repeat (first
      | refine qv rfl (qp rfl) rfl rfl ?_ | refine TL_nil ?_ | refine T_seq ?_ | refine T_region ?_ | refine T_ret ?_ | refine E_then ?_ | refine E_thenR ?_
      | refine qv rfl (rr_idx1 Und.eq TyC.ty rfl rfl hi) rfl rfl ?_
      | refine qv rfl (rr_load1 TyC.ty rfl (at_row (i := 0) rfl (by rw [Nat.zero_add]; exact hc))) rfl rfl ?_ | refine qv rfl (rr_or rfl rfl hor) rfl rfl ?_
      | refine qv rfl (rr_neq rfl rfl (qT (by omega))) rfl rfl ?_ | refine qv rfl (rr_neq rfl rfl (qF (by omega))) rfl rfl ?_)
    refine TL_storeRow (i := 0) TyC.ty rfl rfl rfl rfl rfl rfl (by simpa using hi) ?_
    conv => arg 8; simp only [List.set_cons_zero, Nat.zero_add]
    repeat (first
      | refine qv rfl (qp rfl) rfl rfl ?_ | refine TL_nil ?_ | refine T_seq ?_ | refine T_region ?_ | refine T_ret ?_ | refine E_then ?_ | refine E_thenR ?_
      | refine qv rfl (rr_idx1 Und.eq TyC.ty rfl rfl hi) rfl rfl ?_ | refine qv rfl (rr_load1 TyC.ty rfl (at_row (i := 0) rfl hset)) rfl rfl ?_
      | refine qv rfl (rr_neq rfl rfl (qT (by omega))) rfl rfl ?_ | refine qv rfl (rr_neq rfl rfl (qF (by omega))) rfl rfl ?_)
    exact E_ret1 rfl rfl fun w hm => hm.meetsB (S := ⟨fun (_ : Unit) => True, fun _ => .bool false, fun _ => [rowO 72 1 (.slice (some ⟨g, 0, none⟩) l.length cap) l.length ((l.set i y).map bitV)]⟩) () trivial [0] (by decide) (by simp [List.map_set]; rfl)
  · rw [show (!decide (y = x)) = true by simp [c]]
    repeat (first
      | refine qv rfl (qp rfl) rfl rfl ?_ | refine TL_nil ?_ | refine T_seq ?_ | refine T_region ?_ | refine T_ret ?_ | refine E_then ?_ | refine E_thenR ?_
      | refine qv rfl (rr_idx1 Und.eq TyC.ty rfl rfl hi) rfl rfl ?_
      | refine qv rfl (rr_load1 TyC.ty rfl (at_row (i := 0) rfl (by rw [Nat.zero_add]; exact hc))) rfl rfl ?_ | refine qv rfl (rr_or rfl rfl hor) rfl rfl ?_
      | refine qv rfl (rr_neq rfl rfl (qT (by omega))) rfl rfl ?_ | refine qv rfl (rr_neq rfl rfl (qF (by omega))) rfl rfl ?_)
    refine TL_storeRow (i := 0) TyC.ty rfl rfl rfl rfl rfl rfl (by simpa using hi) ?_
    conv => arg 8; simp only [List.set_cons_zero, Nat.zero_add]
    repeat (first
      | refine qv rfl (qp rfl) rfl rfl ?_ | refine TL_nil ?_ | refine T_seq ?_ | refine T_region ?_ | refine T_ret ?_ | refine E_then ?_ | refine E_thenR ?_
      | refine qv rfl (rr_idx1 Und.eq TyC.ty rfl rfl hi) rfl rfl ?_ | refine qv rfl (rr_load1 TyC.ty rfl (at_row (i := 0) rfl hset)) rfl rfl ?_
      | refine qv rfl (rr_neq rfl rfl (qT (by omega))) rfl rfl ?_ | refine qv rfl (rr_neq rfl rfl (qF (by omega))) rfl rfl ?_)
    exact E_ret1 rfl rfl fun w hm => hm.meetsB (S := ⟨fun (_ : Unit) => True, fun _ => .bool true, fun _ => [rowO 72 1 (.slice (some ⟨g, 0, none⟩) l.length cap) l.length ((l.set i y).map bitV)]⟩) () trivial [0] (by decide) (by simp [List.map_set]; rfl)
theorem beginGo_cons (E : List Bool) (F : List Nat) (behind : Nat) (x : Sym) (r : List Sym) (out : Nat) : beginGo E F behind (x :: r) out = if x.1 = 1 then out ||| 2 ^ x.2.toNat else if E.getD x.2.toNat false = true then beginGo E F behind r (out ||| F.getD x.2.toNat 0) else out ||| F.getD x.2.toNat 0 := rfl
theorem beginGo_nil (E : List Bool) (F : List Nat) (behind out : Nat) : beginGo E F behind [] out = out ||| behind := rfl
def facV (vE vF vL vR vM : Value) : Value := .agg #[vE, vF, vL, vR, vM]
attribute [local irreducible] Op.shift Go.bits in
set_option maxHeartbeats 2000000 in
theorem begin_calls (vE vF vL vR vM vb : Value) (E : List Bool) (F : List Nat) (body : List Sym) (behind : Nat) (w : World) (hE : Sl w vE E.length (E.map .bool)) (hF : Sl w vF F.length (F.map bitV)) (hs : Sl w vb body.length (body.flatMap symC)) (hEF : E.length = F.length)
    (hok : ∀ x ∈ body, (x.1 = 1 → 0 ≤ x.2 ∧ x.2 < 64) ∧ (x.1 ≠ 1 → 0 ≤ x.2 ∧ x.2 < F.length)) (h64 : ∀ x ∈ F, x < 18446744073709551616) (hb : behind < 18446744073709551616) :
    Calls Try.prog 42 #[facV vE vF vL vR vM, vb, bitV behind] w (Meets (ret (bitV (beginF E F body behind))) w) := by
  obtain ⟨bE, cE, rfl, e1, e2, e3⟩ := hE
  obtain ⟨bF, cF, rfl, f1, f2, f3⟩ := hF
  obtain ⟨bb, cb, rfl, h4, h5, h6⟩ := hs
  unfold maxLen at e2 f2 h5
  refine enter (args := [facV (.slice bE E.length cE) (.slice bF F.length cF) vL vR vM, .slice bb body.length cb, bitV behind]) (n := 44) Try.func42 rfl rfl rfl ?_
  refine T_seq (T_region (TL_box rfl rfl rfl fun g3 => ?_))
  repeat (first
    | refine qv rfl (qp rfl) rfl rfl ?_ | refine TL_nil ?_ | refine T_seq ?_ | refine T_region ?_ | refine qcT rfl ?_ | refine qcF rfl ?_ | refine T_skip ?_
    | refine T_exit ?_ | refine T_ret ?_ | refine T_block ?_ | refine E_then ?_ | refine E_thenX ?_ | refine E_thenR ?_ | refine E_blockN ?_
    | refine E_blockR ?_ | refine E_blockX ?_ | refine E_blockO rfl ?_ | refine qv rfl (qlen Und.eq rfl) rfl rfl ?_
    | refine qv rfl (qfld FldC.fld rfl rfl) rfl rfl ?_ | refine qv rfl (rr_not rfl rfl) rfl rfl ?_
    | refine qv rfl (rr_lss rfl rfl (qT (by omega))) rfl rfl ?_ | refine qv rfl (rr_lss rfl rfl (qF (by omega))) rfl rfl ?_
    | refine qv rfl (rr_eql rfl rfl (qT (by omega))) rfl rfl ?_ | refine qv rfl (rr_eql rfl rfl (qF (by omega))) rfl rfl ?_
    | refine qv rfl (rr_add64 rfl rfl (by omega) (by omega) rfl) rfl rfl ?_)
  unfold beginF
  refine T_loop (ι := Nat × Nat) (fun (k, out) => k ≤ body.length ∧ out < 18446744073709551616 ∧ beginGo E F behind body 0 = beginGo E F behind (body.drop k) out) (fun (k, out) => [(2, bitV behind), (3, .pointer (some ⟨g3, 0, none⟩)), (7, bitV out), (10, .slice bb body.length cb), (11, .int .i64 body.length), (12, .int .i64 (k : Int))]) (fun _ => [blkO g3 (facV (.slice bE E.length cE) (.slice bF F.length cF) vL vR vM).cells 93]) (fun (k, _) => body.length - k) (0, 0) ⟨Nat.zero_le _, by decide, rfl⟩ (by repeat' (first | exact True.intro | refine And.intro rfl ?_)) rfl ?_
  rintro ⟨k, out⟩ ⟨i1, i3, i2⟩
  dsimp only at i1 i3 i2 ⊢
  rw [i2]
  clear i2
  by_cases c6 : k < body.length
  · obtain ⟨b, off, rfl, hr⟩ := h6 (by omega)
    have hat := at_el (L := [blkO g3 (facV (.slice bE E.length cE) (.slice bF F.length cF) vL vR vM).cells 93]) SymS_len hr c6
    have hokx := hok body[k] (List.getElem_mem c6)
    have hd : beginGo E F behind (body.drop k) out = beginGo E F behind (body[k] :: body.drop (k + 1)) out := by
      rw [List.drop_eq_getElem_cons c6]
    rw [hd]
    clear hd h6 hok hr
    generalize body[k] = x at *
    obtain ⟨q, m⟩ := x
    dsimp only at *
    rw [beginGo_cons]
    dsimp only
    by_cases c1 : q = 1
    · rw [if_pos c1]
      obtain ⟨o1, o2⟩ := hokx.1 c1
      obtain ⟨mm, rfl⟩ : ∃ mm : Nat, m = mm := ⟨m.toNat, by omega⟩
      rw [Int.toNat_natCast]
      have hsh := fun w => shl1 (P := Try.prog) mm (by omega) w
      have hor := bits_orN i3 (pow_lt64 (m := mm) (by omega))
      repeat (first
        | refine qv rfl (qp rfl) rfl rfl ?_ | refine TL_nil ?_ | refine T_seq ?_ | refine T_region ?_ | refine qcT rfl ?_ | refine qcF rfl ?_ | refine T_skip ?_
        | refine T_exit ?_ | refine T_ret ?_ | refine T_block ?_ | refine E_then ?_ | refine E_thenX ?_ | refine E_thenR ?_ | refine E_blockN ?_
        | refine E_blockR ?_ | refine E_blockX ?_ | refine E_blockO rfl ?_ | refine qv rfl (rr_idxc Und.eq TyC.ty rfl rfl c6) rfl rfl ?_
        | refine qv rfl (rr_loadN TyC.ty rfl rfl hat) rfl rfl ?_ | refine qv rfl (qlen Und.eq rfl) rfl rfl ?_ | refine qv rfl (qfld FldC.fld rfl rfl) rfl rfl ?_
        | refine qv rfl (rr_not rfl rfl) rfl rfl ?_ | refine qv rfl (rr_lss rfl rfl (qT (by omega))) rfl rfl ?_
        | refine qv rfl (rr_lss rfl rfl (qF (by omega))) rfl rfl ?_ | refine qv rfl (rr_eql rfl rfl (qT (by omega))) rfl rfl ?_
        | refine qv rfl (rr_eql rfl rfl (qF (by omega))) rfl rfl ?_ | refine qv rfl (rr_add64 rfl rfl (by omega) (by omega) rfl) rfl rfl ?_)
      refine TL_new rfl fun g8 => ?_
      refine TL_storeB (i := 1) rfl rfl rfl rfl rfl rfl ?_
      repeat (first
        | refine qv rfl (qp rfl) rfl rfl ?_ | refine TL_nil ?_ | refine T_seq ?_ | refine T_region ?_ | refine qcT rfl ?_ | refine qcF rfl ?_ | refine T_skip ?_
        | refine T_exit ?_ | refine T_ret ?_ | refine T_block ?_ | refine E_then ?_ | refine E_thenX ?_ | refine E_thenR ?_ | refine E_blockN ?_
        | refine E_blockR ?_ | refine E_blockX ?_ | refine E_blockO rfl ?_ | refine qv rfl (rr_load1 TyC.ty rfl (at_blk (i := 1) rfl rfl)) rfl rfl ?_
        | refine qv rfl (rr_shl rfl rfl hsh) rfl rfl ?_ | refine qv rfl (rr_or rfl rfl hor) rfl rfl ?_ | refine qv rfl (qlen Und.eq rfl) rfl rfl ?_
        | refine qv rfl (qfld FldC.fld rfl rfl) rfl rfl ?_ | refine qv rfl (rr_not rfl rfl) rfl rfl ?_
        | refine qv rfl (rr_lss rfl rfl (qT (by omega))) rfl rfl ?_ | refine qv rfl (rr_lss rfl rfl (qF (by omega))) rfl rfl ?_
        | refine qv rfl (rr_eql rfl rfl (qT (by omega))) rfl rfl ?_ | refine qv rfl (rr_eql rfl rfl (qF (by omega))) rfl rfl ?_
        | refine qv rfl (rr_add64 rfl rfl (by omega) (by omega) rfl) rfl rfl ?_)
      exact E_ret1 rfl rfl fun w hm => hm.ret
    · rw [if_neg c1]
      obtain ⟨o1, o2⟩ := hokx.2 c1
      obtain ⟨mm, rfl⟩ : ∃ mm : Nat, m = mm := ⟨m.toNat, by omega⟩
      rw [Int.toNat_natCast]
      have hmm : mm < F.length := by omega
      have hmE : mm < E.length := by omega
      obtain ⟨b1, off1, rfl, hr1⟩ := e3 (by omega)
      obtain ⟨b2, off2, rfl, hr2⟩ := f3 (by omega)
      have hcE := bool_at hmE
      have hcF := bit_at hmm
      have hx64 : F.getD mm 0 < 18446744073709551616 := by
        have e : F.getD mm 0 = F[mm] := by rw [List.getD_eq_getElem?_getD, List.getElem?_eq_getElem hmm]; rfl
        rw [e]; exact h64 _ (List.getElem_mem hmm)
      have hor := bits_orN i3 hx64
      have hlt := or_lt i3 hx64
      generalize E.getD mm false = y at *
      generalize F.getD mm 0 = z at *
      generalize out ||| z = o2 at *
      cases y
      · rw [if_neg (by decide)]
        repeat (first
          | refine qv rfl (qp rfl) rfl rfl ?_ | refine TL_nil ?_ | refine T_seq ?_ | refine T_region ?_ | refine qcT rfl ?_ | refine qcF rfl ?_ | refine T_skip ?_
          | refine T_exit ?_ | refine T_ret ?_ | refine T_block ?_ | refine E_then ?_ | refine E_thenX ?_ | refine E_thenR ?_ | refine E_blockN ?_
          | refine E_blockR ?_ | refine E_blockX ?_ | refine E_blockO rfl ?_ | refine qv rfl (rr_idxc Und.eq TyC.ty rfl rfl c6) rfl rfl ?_
          | refine qv rfl (rr_loadN TyC.ty rfl rfl hat) rfl rfl ?_ | refine qv rfl (qlen Und.eq rfl) rfl rfl ?_ | refine qv rfl (qfld FldC.fld rfl rfl) rfl rfl ?_
          | refine qv rfl (rr_not rfl rfl) rfl rfl ?_ | refine qv rfl (rr_lss rfl rfl (qT (by omega))) rfl rfl ?_
          | refine qv rfl (rr_lss rfl rfl (qF (by omega))) rfl rfl ?_ | refine qv rfl (rr_eql rfl rfl (qT (by omega))) rfl rfl ?_
          | refine qv rfl (rr_eql rfl rfl (qF (by omega))) rfl rfl ?_ | refine qv rfl (rr_add64 rfl rfl (by omega) (by omega) rfl) rfl rfl ?_)
        refine TL_new rfl fun g8 => ?_
        refine TL_storeB (i := 1) rfl rfl rfl rfl rfl rfl ?_
        repeat (first
          | refine qv rfl (qp rfl) rfl rfl ?_ | refine TL_nil ?_ | refine T_seq ?_ | refine T_region ?_ | refine qcT rfl ?_ | refine qcF rfl ?_ | refine T_skip ?_
          | refine T_exit ?_ | refine T_ret ?_ | refine T_block ?_ | refine E_then ?_ | refine E_thenX ?_ | refine E_thenR ?_ | refine E_blockN ?_
          | refine E_blockR ?_ | refine E_blockX ?_ | refine E_blockO rfl ?_ | refine qv rfl (rr_load1 TyC.ty rfl (at_blk (i := 1) rfl rfl)) rfl rfl ?_
          | refine qv rfl (rr_load1 TyC.ty rfl (at_blk (i := 0) rfl rfl)) rfl rfl ?_ | refine qv rfl (rr_idx1 Und.eq TyC.ty rfl rfl hmm) rfl rfl ?_
          | refine qv rfl (rr_idx1 Und.eq TyC.ty rfl rfl hmE) rfl rfl ?_ | refine qv rfl (rr_load1 TyC.ty rfl (at_rd hr1 hcE)) rfl rfl ?_
          | refine qv rfl (rr_load1 TyC.ty rfl (at_rd hr2 hcF)) rfl rfl ?_ | refine qv rfl (rr_or rfl rfl hor) rfl rfl ?_
          | refine qv rfl (qlen Und.eq rfl) rfl rfl ?_ | refine qv rfl (qfld FldC.fld rfl rfl) rfl rfl ?_ | refine qv rfl (rr_not rfl rfl) rfl rfl ?_
          | refine qv rfl (rr_lss rfl rfl (qT (by omega))) rfl rfl ?_ | refine qv rfl (rr_lss rfl rfl (qF (by omega))) rfl rfl ?_
          | refine qv rfl (rr_eql rfl rfl (qT (by omega))) rfl rfl ?_ | refine qv rfl (rr_eql rfl rfl (qF (by omega))) rfl rfl ?_
          | refine qv rfl (rr_add64 rfl rfl (by omega) (by omega) rfl) rfl rfl ?_)
        exact E_ret1 rfl rfl fun w hm => hm.ret
      · rw [if_pos rfl]
        repeat (first
          | refine qv rfl (qp rfl) rfl rfl ?_ | refine TL_nil ?_ | refine T_seq ?_ | refine T_region ?_ | refine qcT rfl ?_ | refine qcF rfl ?_ | refine T_skip ?_
          | refine T_exit ?_ | refine T_ret ?_ | refine T_block ?_ | refine E_then ?_ | refine E_thenX ?_ | refine E_thenR ?_ | refine E_blockN ?_
          | refine E_blockR ?_ | refine E_blockX ?_ | refine E_blockO rfl ?_ | refine qv rfl (rr_idxc Und.eq TyC.ty rfl rfl c6) rfl rfl ?_
          | refine qv rfl (rr_loadN TyC.ty rfl rfl hat) rfl rfl ?_ | refine qv rfl (qlen Und.eq rfl) rfl rfl ?_ | refine qv rfl (qfld FldC.fld rfl rfl) rfl rfl ?_
          | refine qv rfl (rr_not rfl rfl) rfl rfl ?_ | refine qv rfl (rr_lss rfl rfl (qT (by omega))) rfl rfl ?_
          | refine qv rfl (rr_lss rfl rfl (qF (by omega))) rfl rfl ?_ | refine qv rfl (rr_eql rfl rfl (qT (by omega))) rfl rfl ?_
          | refine qv rfl (rr_eql rfl rfl (qF (by omega))) rfl rfl ?_ | refine qv rfl (rr_add64 rfl rfl (by omega) (by omega) rfl) rfl rfl ?_)
        refine TL_new rfl fun g8 => ?_
        refine TL_storeB (i := 1) rfl rfl rfl rfl rfl rfl ?_
        repeat (first
          | refine qv rfl (qp rfl) rfl rfl ?_ | refine TL_nil ?_ | refine T_seq ?_ | refine T_region ?_ | refine qcT rfl ?_ | refine qcF rfl ?_ | refine T_skip ?_
          | refine T_exit ?_ | refine T_ret ?_ | refine T_block ?_ | refine E_then ?_ | refine E_thenX ?_ | refine E_thenR ?_ | refine E_blockN ?_
          | refine E_blockR ?_ | refine E_blockX ?_ | refine E_blockO rfl ?_ | refine qv rfl (rr_load1 TyC.ty rfl (at_blk (i := 1) rfl rfl)) rfl rfl ?_
          | refine qv rfl (rr_load1 TyC.ty rfl (at_blk (i := 0) rfl rfl)) rfl rfl ?_ | refine qv rfl (rr_idx1 Und.eq TyC.ty rfl rfl hmm) rfl rfl ?_
          | refine qv rfl (rr_idx1 Und.eq TyC.ty rfl rfl hmE) rfl rfl ?_ | refine qv rfl (rr_load1 TyC.ty rfl (at_rd hr1 hcE)) rfl rfl ?_
          | refine qv rfl (rr_load1 TyC.ty rfl (at_rd hr2 hcF)) rfl rfl ?_ | refine qv rfl (rr_or rfl rfl hor) rfl rfl ?_
          | refine qv rfl (qlen Und.eq rfl) rfl rfl ?_ | refine qv rfl (qfld FldC.fld rfl rfl) rfl rfl ?_ | refine qv rfl (rr_not rfl rfl) rfl rfl ?_
          | refine qv rfl (rr_lss rfl rfl (qT (by omega))) rfl rfl ?_ | refine qv rfl (rr_lss rfl rfl (qF (by omega))) rfl rfl ?_
          | refine qv rfl (rr_eql rfl rfl (qT (by omega))) rfl rfl ?_ | refine qv rfl (rr_eql rfl rfl (qF (by omega))) rfl rfl ?_
          | refine qv rfl (rr_add64 rfl rfl (by omega) (by omega) rfl) rfl rfl ?_)
        refine E_pick [0] (by decide) rfl ?_
        exact E_round (k + 1, o2) ⟨by omega, hlt, rfl⟩ (by show body.length - (k + 1) < body.length - k; omega) (by repeat' (first | exact True.intro | refine And.intro rfl ?_)) rfl
  · rw [List.drop_of_length_le (by omega)]
    have hor := bits_orN i3 hb
    rw [beginGo_nil]
    repeat (first
      | refine qv rfl (qp rfl) rfl rfl ?_ | refine TL_nil ?_ | refine T_seq ?_ | refine T_region ?_ | refine qcT rfl ?_ | refine qcF rfl ?_ | refine T_skip ?_
      | refine T_exit ?_ | refine T_ret ?_ | refine T_block ?_ | refine E_then ?_ | refine E_thenX ?_ | refine E_thenR ?_ | refine E_blockN ?_
      | refine E_blockR ?_ | refine E_blockX ?_ | refine E_blockO rfl ?_ | refine qv rfl (rr_or rfl rfl hor) rfl rfl ?_
      | refine qv rfl (qlen Und.eq rfl) rfl rfl ?_ | refine qv rfl (qfld FldC.fld rfl rfl) rfl rfl ?_ | refine qv rfl (rr_not rfl rfl) rfl rfl ?_
      | refine qv rfl (rr_lss rfl rfl (qT (by omega))) rfl rfl ?_ | refine qv rfl (rr_lss rfl rfl (qF (by omega))) rfl rfl ?_
      | refine qv rfl (rr_eql rfl rfl (qT (by omega))) rfl rfl ?_ | refine qv rfl (rr_eql rfl rfl (qF (by omega))) rfl rfl ?_
      | refine qv rfl (rr_add64 rfl rfl (by omega) (by omega) rfl) rfl rfl ?_)
    exact E_ret1 rfl rfl fun w hm => hm.ret
end Go.Proofs.Ytmcclhddjielnaa.eng

/- FactsC -/
namespace Go.Proofs.Ytmcclhddjielnaa.eng
open Go.RowKit kit mix gramL factsL
/-- a row of bools of a given number -/
def rowBn (n g c : Nat) (l : List Bool) : Own := rowO 4 1 (.slice (some ⟨g, 0, none⟩) n c) n (l.map .bool)
theorem mark2_calls (n g cap : Nat) (l : List Bool) (i : Nat) (b : Bool) (w : World) (B : Base) (hl : l.length = n) (hi : i < n) (hm : Mem B [rowBn n g cap l] w) :
    Calls Try.prog 61 #[.slice (some ⟨g, 0, none⟩) n cap, .int .i64 (i : Int), .bool b] w (MeetsB ⟨fun (_ : Unit) => True, fun _ => .bool (markF l i b).2, fun _ => [rowBn n g cap (markF l i b).1]⟩ B) := by
  subst hl
  exact mark_calls g cap l i b w B hi hm
structure Rows3 where
  gE : Nat
  cE : Nat
  gR : Nat
  cR : Nat
  gM : Nat
  cM : Nat
def vRow (n g c : Nat) : Value := .slice (some ⟨g, 0, none⟩) n c
theorem roundR_cons (h : Nat) (x : Sym) (r : List Sym) (R : List Bool) (more : Bool) : roundR h (x :: r) R more = roundR h r (stepR h x R more).1 (stepR h x R more).2 := rfl
theorem roundL_cons (p : gramL.Prod) (r : List gramL.Prod) (s : FS) : roundL (p :: r) s = roundL r (roundP p s) := rfl
set_option maxHeartbeats 8000000 in
theorem round_calls (w0 : World) (v : Value) (g : Gram) (h : GraR (fun k => k < w0.heap.size) w0 v g) (hck : checkG g = 0) (n : Nat) (hn : g.nons = n) (x : Rows3) (vF vL : Value) (E R M : List Bool) (hE : E.length = n) (hR : R.length = n) (hM : M.length = n) (w : World) (B : Base) (ho : Old w0 B) (hm : Mem B [rowBn n x.gE x.cE E, rowBn n x.gR x.cR R, rowBn n x.gM x.cM M] w) :
    Calls Try.prog 54 #[v, facV (vRow n x.gE x.cE) vF vL (vRow n x.gR x.cR) (vRow n x.gM x.cM)] w (MeetsB ⟨fun (_ : Unit) => True, fun _ => .bool (roundL g.prods ⟨E, R, M, false⟩).more, fun _ => [rowBn n x.gE x.cE (roundL g.prods ⟨E, R, M, false⟩).E, rowBn n x.gR x.cR (roundL g.prods ⟨E, R, M, false⟩).R, rowBn n x.gM x.cM (roundL g.prods ⟨E, R, M, false⟩).M]⟩ B) := by
  obtain ⟨gE, cE, gR, cR, gM, cM⟩ := x
  dsimp only at *
  obtain ⟨_, _, _, _, hlen, hps⟩ := checkG_ok hck
  obtain ⟨vp, rfl, h1, _⟩ := h
  obtain ⟨bp, cp, rfl, hcp, hmp, hrp⟩ := h1
  unfold maxLen at hmp
  obtain ⟨t, nn, prods⟩ := g
  dsimp only at *
  subst hn
  refine enterB hm (args := [graV t (n : Int) (.slice bp prods.length cp), facV (vRow n gE cE) vF vL (vRow n gR cR) (vRow n gM cM)]) (n := 70) Try.func54 rfl rfl rfl ?_
  refine T_seq (T_region (TL_box rfl rfl rfl fun g2 => TL_box rfl rfl rfl fun g3 => ?_))
  conv => arg 8; simp only [zA, zB, zC, zD, zE, zF, zG, zH, zI, rowS, ret, id_eq]
  repeat (first
    | refine qv rfl (qp rfl) rfl rfl ?_ | refine TL_nil ?_ | refine T_seq ?_ | refine T_region ?_ | refine qcT rfl ?_ | refine qcF rfl ?_ | refine T_skip ?_
    | refine T_exit ?_ | refine T_ret ?_ | refine T_block ?_ | refine E_then ?_ | refine E_thenX ?_ | refine E_thenR ?_ | refine E_blockN ?_
    | refine E_blockR ?_ | refine E_blockX ?_ | refine E_blockO rfl ?_ | refine qs rfl rfl rfl rfl rfl rfl ?_
    | ((try refine qg rfl rfl rfl ?_); first | refine qv rfl (qp rfl) rfl rfl ?_ | refine qv rfl (rr_load1 TyC.ty rfl (at_blk (i := 3) rfl rfl)) rfl rfl ?_ | refine qv rfl (qlen Und.eq rfl) rfl rfl ?_ | refine qv rfl (qfld FldC.fld rfl rfl) rfl rfl ?_ | refine qv rfl (rr_lss rfl rfl (qT (by omega))) rfl rfl ?_ | refine qv rfl (rr_lss rfl rfl (qF (by omega))) rfl rfl ?_ | refine qv rfl (rr_eql rfl rfl (qT (by omega))) rfl rfl ?_ | refine qv rfl (rr_eql rfl rfl (qF (by omega))) rfl rfl ?_ | refine qv rfl (rr_add64 rfl rfl (by omega) (by omega) rfl) rfl rfl ?_))
  refine T_pick [0, 1, 2, 4] (by decide) rfl ?_
  generalize hfin : roundL prods ⟨E, R, M, false⟩ = fin
  refine T_loop (ι := Nat × FS) (fun (k, s) => k ≤ prods.length ∧ s.E.length = n ∧ s.R.length = n ∧ s.M.length = n ∧ roundL (prods.drop k) s = fin) (fun (k, s) => [(3, .pointer (some ⟨g3, 0, none⟩)), (5, .bool s.more), (11, .slice bp prods.length cp), (12, .int .i64 prods.length), (13, .int .i64 (k : Int))])
    (fun (_, s) => [rowBn n gE cE s.E, rowBn n gR cR s.R, rowBn n gM cM s.M, blkO g3 (facV (vRow n gE cE) vF vL (vRow n gR cR) (vRow n gM cM)).cells 93]) (fun (k, _) => prods.length - k) (0, ⟨E, R, M, false⟩) ⟨Nat.zero_le _, hE, hR, hM, hfin⟩ (by repeat' (first | exact True.intro | refine And.intro rfl ?_)) rfl ?_
  clear hm hE hR hM hfin
  rintro ⟨k, E, R, M, more⟩ ⟨i1, i2, i3, i4, i5⟩
  dsimp only at i1 i2 i3 i4 i5 ⊢
  by_cases c6 : k < prods.length
  · obtain ⟨b, off, rfl, _, hr⟩ := hrp (by omega)
    obtain ⟨bb, cb, q1, q2, q3⟩ := prod_at hr c6
    have hpk := hps prods[k] (List.getElem_mem c6)
    rw [List.drop_eq_getElem_cons c6, roundL_cons] at i5
    have hat : ∀ (L : List Own) (j : Nat) (v : Value), ([.int .i64 prods[k].1, .slice bb prods[k].2.length cb] : List Value)[j]? = some v → At B L ⟨b, off + k * 2 + j, none⟩ v := fun L j v hj => at_old0 ho (q1 j v hj)
    have hfl := q3.flat (by decide)
    clear hr hrp q1 hps q3
    generalize prods[k] = p at *
    obtain ⟨hd, body⟩ := p
    obtain ⟨p1, p2, p3, p4⟩ := hpk
    dsimp only at *
    obtain ⟨hn, rfl⟩ : ∃ hn : Nat, hd = hn := ⟨hd.toNat, by omega⟩
    have hhn : hn < n := by omega
    have hbody : ∀ x ∈ body, x.1 = 2 → 0 ≤ x.2 ∧ x.2 < (n : Int) := fun x hx hx2 => by
      have := p4 x hx
      unfold right at this
      rw [if_neg (by omega), if_pos hx2] at this
      simpa using this
    have hsb : ∀ w' L, Mem B L w' → Sl w' (.slice bb body.length cb) body.length (body.flatMap symC) := fun w' L hm => hfl.gr (ho.mem hm)
    unfold roundP at i5
    dsimp only at i5
    rw [Int.toNat_natCast] at i5
    have hall1 := fun w' L (hm : Mem B L w') (hx : Sl w' (vRow n gE cE) E.length (E.map .bool)) => allB_calls (vRow n gE cE) (.slice bb body.length cb) E body false w' hx (hsb w' L hm) (fun x hx hx2 => by rw [i2]; exact hbody x hx hx2)
    have hall2 := fun w' L (hm : Mem B L w') (hx : Sl w' (vRow n gM cM) M.length (M.map .bool)) => allB_calls (vRow n gM cM) (.slice bb body.length cb) M body true w' hx (hsb w' L hm) (fun x hx hx2 => by rw [i4]; exact hbody x hx hx2)
    generalize allF E body false = a1 at *
    generalize allF M body true = a2 at *
    have hmk1 := fun w' B' hm => mark2_calls n gE cE E hn a1 w' B' i2 hhn hm
    have hmk2 := fun w' B' hm => mark2_calls n gM cM M hn a2 w' B' i4 hhn hm
    have hl1 := markF_len E hn a1
    have hl2 := markF_len M hn a2
    rw [i2] at hl1 hall1
    rw [i4] at hl2 hall2
    generalize markF E hn a1 = m1 at *
    generalize markF M hn a2 = m2 at *
    obtain ⟨E1, b1⟩ := m1
    obtain ⟨M1, b2⟩ := m2
    dsimp only at *
    repeat (first
      | refine qv rfl (qp rfl) rfl rfl ?_ | refine TL_nil ?_ | refine T_seq ?_ | refine T_region ?_ | refine qcT rfl ?_ | refine qcF rfl ?_ | refine T_skip ?_
      | refine T_exit ?_ | refine T_ret ?_ | refine T_block ?_ | refine E_then ?_ | refine E_thenX ?_ | refine E_thenR ?_ | refine E_blockN ?_
      | refine E_blockR ?_ | refine E_blockX ?_ | refine E_blockO rfl ?_ | refine qs rfl rfl rfl rfl rfl rfl ?_
      | ((try refine qg rfl rfl rfl ?_); first | refine qv rfl (qp rfl) rfl rfl ?_ | refine qv rfl (rr_idxc Und.eq TyC.ty rfl rfl c6) rfl rfl ?_ | refine qv rfl (rr_loadN TyC.ty rfl rfl (hat _)) rfl rfl ?_ | refine qv rfl (qlen Und.eq rfl) rfl rfl ?_ | refine qv rfl (qfld FldC.fld rfl rfl) rfl rfl ?_ | refine qv rfl (rr_lss rfl rfl (qT (by omega))) rfl rfl ?_ | refine qv rfl (rr_lss rfl rfl (qF (by omega))) rfl rfl ?_ | refine qv rfl (rr_eql rfl rfl (qT (by omega))) rfl rfl ?_ | refine qv rfl (rr_eql rfl rfl (qF (by omega))) rfl rfl ?_ | refine qv rfl (rr_add64 rfl rfl (by omega) (by omega) rfl) rfl rfl ?_))
    clear hat
    refine TL_new rfl fun g7 => ?_
    refine TL_storeB (i := 4) rfl rfl rfl rfl rfl rfl ?_
    conv => arg 8; simp only [zA, zB, zC, zD, zE, zF, zG, zH, zI, rowS, ret, id_eq]
    repeat (first
      | refine qv rfl (qp rfl) rfl rfl ?_ | refine TL_nil ?_ | refine E_then ?_ | refine qs rfl rfl rfl rfl rfl rfl ?_
      | ((try refine qg rfl rfl rfl ?_); first | refine qv rfl (qp rfl) rfl rfl ?_ | refine qv rfl (qlen Und.eq rfl) rfl rfl ?_ | refine qv rfl (qfld FldC.fld rfl rfl) rfl rfl ?_ | refine qv rfl (rr_lss rfl rfl (qT (by omega))) rfl rfl ?_ | refine qv rfl (rr_lss rfl rfl (qF (by omega))) rfl rfl ?_ | refine qv rfl (rr_eql rfl rfl (qT (by omega))) rfl rfl ?_ | refine qv rfl (rr_eql rfl rfl (qF (by omega))) rfl rfl ?_ | refine qv rfl (rr_add64 rfl rfl (by omega) (by omega) rfl) rfl rfl ?_))
    (repeat refine T_seq ?_)
    refine T_midq (ι := Unit) (fun _ => True) (fun _ => [(3, .pointer (some ⟨g3, 0, none⟩)), (5, .bool (b1 || more)), (7, .pointer (some ⟨g7, 0, none⟩)), (11, .slice (some ⟨b, off, none⟩) prods.length cp), (12, .int .i64 prods.length), (13, .int .i64 (k : Int))])
      (fun _ => [rowBn n gE cE E1, rowBn n gR cR R, rowBn n gM cM M, blkO g3 (facV (vRow n gE cE) vF vL (vRow n gR cR) (vRow n gM cM)).cells 93, blkO g7 #[.int .i64 (hn : Int), .slice bb body.length cb] 55]) ?_ ?_
    · refine T_ord ([blkO g3 (facV (vRow n gE cE) vF vL (vRow n gR cR) (vRow n gM cM)).cells 93, blkO g7 #[.int .i64 (hn : Int), .slice bb body.length cb] 55]) (.calm 0 (.calm 1 (.calm 2 (.calm 3 (.calm 4 (.calm 5 (.calm 6 (.calm 7 (.one 8 (.one 9 (.calm 10 (.calm 11 (.calm 12 (.calm 13 (.done))))))))))))))) (sub_pick [3, 4] (by decide) rfl) (by kernel_rfl) (by kernel_rfl) (by intro c a d v w h; cases d <;> exact h) ?_
      repeat (first
        | ((first | refine TW_plain rfl rfl ?_ | refine TW_gmet rfl rfl rfl rfl ?_); first | refine TN_val (qp rfl) rfl rfl ?_ | refine TN_val (rr_load1 TyC.ty rfl (at_blk (i := 0) rfl rfl)) rfl rfl ?_ | refine TN_val (rr_load1 TyC.ty rfl (at_blk (i := 1) rfl rfl)) rfl rfl ?_ | refine TN_val (qlen Und.eq rfl) rfl rfl ?_ | refine TN_val (qfld FldC.fld rfl rfl) rfl rfl ?_ | refine TN_val (rr_lss rfl rfl (qT (by omega))) rfl rfl ?_ | refine TN_val (rr_lss rfl rfl (qF (by omega))) rfl rfl ?_ | refine TN_val (rr_eql rfl rfl (qT (by omega))) rfl rfl ?_ | refine TN_val (rr_eql rfl rfl (qF (by omega))) rfl rfl ?_ | refine TN_val (rr_add64 rfl rfl (by omega) (by omega) rfl) rfl rfl ?_)
        | refine TW_skip rfl rfl rfl rfl rfl rfl rfl ?_ | refine TW_done ?_)
      refine TW_one rfl ?_
      refine TL_call (he3 EntersC.en rfl rfl rfl rfl) (fun w hm => hall1 _ _ hm (sl_row (i := 0) rfl w hm)) rfl rfl rfl ?_
      intro _ _
      conv => arg 8; simp only [zA, zB, zC, zD, zE, zF, zG, zH, zI, rowS, ret, id_eq]
      refine TW_on (sub_pick [3, 4] (by decide) rfl) ?_
      refine TW_one rfl ?_
      refine TL_callB [0] [1, 2, 3, 4] (by decide) rfl rfl (he3 EntersC.en rfl rfl rfl rfl) (fun w hm hb => hmk1 w _ hb) rfl rfl rfl ?_
      intro _ _
      conv => arg 8; simp only [zA, zB, zC, zD, zE, zF, zG, zH, zI, rowS, ret, id_eq]
      refine TW_on (sub_pick [2, 3] (by decide) rfl) ?_
      cases b1
      · repeat (first
          | ((first | refine TW_plain rfl rfl ?_ | refine TW_gmet rfl rfl rfl rfl ?_); first | refine TN_val (qp rfl) rfl rfl ?_ | refine TN_val (qlen Und.eq rfl) rfl rfl ?_ | refine TN_val (qfld FldC.fld rfl rfl) rfl rfl ?_ | refine TN_val (rr_lss rfl rfl (qT (by omega))) rfl rfl ?_ | refine TN_val (rr_lss rfl rfl (qF (by omega))) rfl rfl ?_ | refine TN_val (rr_eql rfl rfl (qT (by omega))) rfl rfl ?_ | refine TN_val (rr_eql rfl rfl (qF (by omega))) rfl rfl ?_ | refine TN_val (rr_add64 rfl rfl (by omega) (by omega) rfl) rfl rfl ?_)
          | refine TW_skip rfl rfl rfl rfl rfl rfl rfl ?_ | refine TW_done ?_)
        refine E_pick [4, 0, 1, 2, 3] (by decide) rfl ?_
        exact E_mid () trivial (by repeat' (first | exact True.intro | refine And.intro rfl ?_)) rfl
      · repeat (first
          | ((first | refine TW_plain rfl rfl ?_ | refine TW_gmet rfl rfl rfl rfl ?_); first | refine TN_val (qp rfl) rfl rfl ?_ | refine TN_val (qlen Und.eq rfl) rfl rfl ?_ | refine TN_val (qfld FldC.fld rfl rfl) rfl rfl ?_ | refine TN_val (rr_lss rfl rfl (qT (by omega))) rfl rfl ?_ | refine TN_val (rr_lss rfl rfl (qF (by omega))) rfl rfl ?_ | refine TN_val (rr_eql rfl rfl (qT (by omega))) rfl rfl ?_ | refine TN_val (rr_eql rfl rfl (qF (by omega))) rfl rfl ?_ | refine TN_val (rr_add64 rfl rfl (by omega) (by omega) rfl) rfl rfl ?_)
          | refine TW_skip rfl rfl rfl rfl rfl rfl rfl ?_ | refine TW_done ?_)
        refine E_pick [4, 0, 1, 2, 3] (by decide) rfl ?_
        exact E_mid () trivial (by repeat' (first | exact True.intro | refine And.intro rfl ?_)) rfl
    intro _ _
    (repeat refine T_seq ?_)
    refine T_midq (ι := Unit) (fun _ => True) (fun _ => [(3, .pointer (some ⟨g3, 0, none⟩)), (5, .bool (b2 || (b1 || more))), (7, .pointer (some ⟨g7, 0, none⟩)), (11, (.slice (some ⟨b, off, none⟩) prods.length cp)), (12, .int .i64 prods.length), (13, .int .i64 (k : Int))])
      (fun _ => [rowBn n gE cE E1, rowBn n gR cR R, rowBn n gM cM M1, blkO g3 (facV (vRow n gE cE) vF vL (vRow n gR cR) (vRow n gM cM)).cells 93, blkO g7 #[.int .i64 (hn : Int), .slice bb body.length cb] 55]) ?_ ?_
    · refine T_ord ([blkO g3 (facV (vRow n gE cE) vF vL (vRow n gR cR) (vRow n gM cM)).cells 93, blkO g7 #[.int .i64 (hn : Int), .slice bb body.length cb] 55]) (.calm 0 (.calm 1 (.calm 2 (.calm 3 (.calm 4 (.calm 5 (.calm 6 (.calm 7 (.one 8 (.one 9 (.calm 10 (.calm 11 (.calm 12 (.calm 13 (.done))))))))))))))) (sub_pick [3, 4] (by decide) rfl) (by kernel_rfl) (by kernel_rfl) (by intro c a d v w h; cases d <;> exact h) ?_
      repeat (first
        | ((first | refine TW_plain rfl rfl ?_ | refine TW_gmet rfl rfl rfl rfl ?_); first | refine TN_val (qp rfl) rfl rfl ?_ | refine TN_val (rr_load1 TyC.ty rfl (at_blk (i := 0) rfl rfl)) rfl rfl ?_ | refine TN_val (rr_load1 TyC.ty rfl (at_blk (i := 1) rfl rfl)) rfl rfl ?_ | refine TN_val (qlen Und.eq rfl) rfl rfl ?_ | refine TN_val (qfld FldC.fld rfl rfl) rfl rfl ?_ | refine TN_val (rr_lss rfl rfl (qT (by omega))) rfl rfl ?_ | refine TN_val (rr_lss rfl rfl (qF (by omega))) rfl rfl ?_ | refine TN_val (rr_eql rfl rfl (qT (by omega))) rfl rfl ?_ | refine TN_val (rr_eql rfl rfl (qF (by omega))) rfl rfl ?_ | refine TN_val (rr_add64 rfl rfl (by omega) (by omega) rfl) rfl rfl ?_)
        | refine TW_skip rfl rfl rfl rfl rfl rfl rfl ?_ | refine TW_done ?_)
      refine TW_one rfl ?_
      refine TL_call (he3 EntersC.en rfl rfl rfl rfl) (fun w hm => hall2 _ _ hm (sl_row (i := 2) rfl w hm)) rfl rfl rfl ?_
      intro _ _
      conv => arg 8; simp only [zA, zB, zC, zD, zE, zF, zG, zH, zI, rowS, ret, id_eq]
      refine TW_on (sub_pick [3, 4] (by decide) rfl) ?_
      refine TW_one rfl ?_
      refine TL_callB [2] [0, 1, 3, 4] (by decide) rfl rfl (he3 EntersC.en rfl rfl rfl rfl) (fun w hm hb => hmk2 w _ hb) rfl rfl rfl ?_
      intro _ _
      conv => arg 8; simp only [zA, zB, zC, zD, zE, zF, zG, zH, zI, rowS, ret, id_eq]
      refine TW_on (sub_pick [2, 3] (by decide) rfl) ?_
      generalize (b1 || more) = mo
      cases b2
      · repeat (first
          | ((first | refine TW_plain rfl rfl ?_ | refine TW_gmet rfl rfl rfl rfl ?_); first | refine TN_val (qp rfl) rfl rfl ?_ | refine TN_val (qlen Und.eq rfl) rfl rfl ?_ | refine TN_val (qfld FldC.fld rfl rfl) rfl rfl ?_ | refine TN_val (rr_lss rfl rfl (qT (by omega))) rfl rfl ?_ | refine TN_val (rr_lss rfl rfl (qF (by omega))) rfl rfl ?_ | refine TN_val (rr_eql rfl rfl (qT (by omega))) rfl rfl ?_ | refine TN_val (rr_eql rfl rfl (qF (by omega))) rfl rfl ?_ | refine TN_val (rr_add64 rfl rfl (by omega) (by omega) rfl) rfl rfl ?_)
          | refine TW_skip rfl rfl rfl rfl rfl rfl rfl ?_ | refine TW_done ?_)
        refine E_pick [0, 1, 4, 2, 3] (by decide) rfl ?_
        exact E_mid () trivial (by repeat' (first | exact True.intro | refine And.intro rfl ?_)) rfl
      · repeat (first
          | ((first | refine TW_plain rfl rfl ?_ | refine TW_gmet rfl rfl rfl rfl ?_); first | refine TN_val (qp rfl) rfl rfl ?_ | refine TN_val (qlen Und.eq rfl) rfl rfl ?_ | refine TN_val (qfld FldC.fld rfl rfl) rfl rfl ?_ | refine TN_val (rr_lss rfl rfl (qT (by omega))) rfl rfl ?_ | refine TN_val (rr_lss rfl rfl (qF (by omega))) rfl rfl ?_ | refine TN_val (rr_eql rfl rfl (qT (by omega))) rfl rfl ?_ | refine TN_val (rr_eql rfl rfl (qF (by omega))) rfl rfl ?_ | refine TN_val (rr_add64 rfl rfl (by omega) (by omega) rfl) rfl rfl ?_)
          | refine TW_skip rfl rfl rfl rfl rfl rfl rfl ?_ | refine TW_done ?_)
        refine E_pick [0, 1, 4, 2, 3] (by decide) rfl ?_
        exact E_mid () trivial (by repeat' (first | exact True.intro | refine And.intro rfl ?_)) rfl
    intro _ _
    generalize (b2 || (b1 || more)) = mo at *
    clear hmk1 hmk2 hall1 hall2
    repeat (first
      | refine qv rfl (qp rfl) rfl rfl ?_ | refine TL_nil ?_ | refine T_seq ?_ | refine T_region ?_ | refine qcT rfl ?_ | refine qcF rfl ?_ | refine T_skip ?_
      | refine T_exit ?_ | refine T_ret ?_ | refine T_block ?_ | refine E_then ?_ | refine E_thenX ?_ | refine E_thenR ?_ | refine E_blockN ?_
      | refine E_blockR ?_ | refine E_blockX ?_ | refine E_blockO rfl ?_ | refine qs rfl rfl rfl rfl rfl rfl ?_
      | ((try refine qg rfl rfl rfl ?_); first | refine qv rfl (qp rfl) rfl rfl ?_ | refine qv rfl (rr_load1 TyC.ty rfl (at_blk (i := 4) rfl rfl)) rfl rfl ?_ | refine qv rfl (qlen Und.eq rfl) rfl rfl ?_ | refine qv rfl (qfld FldC.fld rfl rfl) rfl rfl ?_ | refine qv rfl (rr_lss rfl rfl (qT (by omega))) rfl rfl ?_ | refine qv rfl (rr_lss rfl rfl (qF (by omega))) rfl rfl ?_ | refine qv rfl (rr_eql rfl rfl (qT (by omega))) rfl rfl ?_ | refine qv rfl (rr_eql rfl rfl (qF (by omega))) rfl rfl ?_ | refine qv rfl (rr_add64 rfl rfl (by omega) (by omega) rfl) rfl rfl ?_))
    generalize hfr : roundR hn body R mo = fr at *
    obtain ⟨R2, mo2⟩ := fr
    dsimp only at i5
    refine T_loop (ι := Nat × List Bool × Bool) (fun (j, R', m') => j ≤ body.length ∧ R'.length = n ∧ roundR hn (body.drop j) R' m' = (R2, mo2)) (fun (j, _, m') => [(3, .pointer (some ⟨g3, 0, none⟩)), (5, .bool m'), (7, .pointer (some ⟨g7, 0, none⟩)), (11, (.slice (some ⟨b, off, none⟩) prods.length cp)), (12, .int .i64 prods.length), (13, .int .i64 (k : Int)), (44, .slice bb body.length cb), (45, .int .i64 body.length), (46, .int .i64 (j : Int))])
      (fun (_, R', _) => [rowBn n gE cE E1, rowBn n gR cR R', rowBn n gM cM M1, blkO g3 (facV (vRow n gE cE) vF vL (vRow n gR cR) (vRow n gM cM)).cells 93, blkO g7 #[.int .i64 (hn : Int), .slice bb body.length cb] 55]) (fun (j, _, _) => body.length - j) (0, R, mo) ⟨Nat.zero_le _, i3, hfr⟩ (by repeat' (first | exact True.intro | refine And.intro rfl ?_)) rfl ?_
    clear hfr
    rintro ⟨j, R', m'⟩ ⟨j1, j2, j3⟩
    dsimp only at j1 j2 j3 ⊢
    by_cases c7 : j < body.length
    · obtain ⟨b', off', rfl, hrb⟩ := (by
        obtain ⟨bs, cs, hv, _, _, hrd⟩ := hfl
        simp only [Value.slice.injEq, true_and] at hv
        obtain ⟨rfl, rfl⟩ := hv
        exact hrd (by omega) : ∃ b' off', bb = some ⟨b', off', none⟩ ∧ Rd w0 b' off' (body.flatMap symC))
      have hatx : ∀ (L : List Own) (q : Nat) (u : Value), (symC body[j])[q]? = some u → At B L ⟨b', off' + j * 2 + q, none⟩ u := fun L => at_elL SymS_len (fun q u hq => at_old0 ho (hrb q u hq)) c7
      have hx2 := hbody body[j] (List.getElem_mem c7)
      rw [List.drop_eq_getElem_cons c7, roundR_cons] at j3
      clear hbody hrb hfl hsb p4
      generalize body[j] = x at *
      obtain ⟨q, m⟩ := x
      dsimp only at hx2
      unfold stepR at j3
      dsimp only at j3
      by_cases c8 : q = 2
      · subst c8
        rw [if_pos rfl] at j3
        obtain ⟨y1, y2⟩ := hx2 rfl
        obtain ⟨mm, rfl⟩ : ∃ mm : Nat, m = mm := ⟨m.toNat, by omega⟩
        rw [Int.toNat_natCast] at j3
        have hcell := bool_at (l := R') (i := hn) (by omega)
        generalize R'.getD hn false = bh at *
        have hmk := fun w' B' hm => mark2_calls n gR cR R' mm bh w' B' j2 (by omega) hm
        have hl3 := markF_len R' mm bh
        rw [j2] at hl3
        generalize markF R' mm bh = m3 at *
        obtain ⟨R3, b3⟩ := m3
        dsimp only at *
        repeat (first
          | refine qv rfl (qp rfl) rfl rfl ?_ | refine TL_nil ?_ | refine T_seq ?_ | refine T_region ?_ | refine qcT rfl ?_ | refine qcF rfl ?_ | refine T_skip ?_
          | refine T_exit ?_ | refine T_ret ?_ | refine T_block ?_ | refine E_then ?_ | refine E_thenX ?_ | refine E_thenR ?_ | refine E_blockN ?_
          | refine E_blockR ?_ | refine E_blockX ?_ | refine E_blockO rfl ?_ | refine qs rfl rfl rfl rfl rfl rfl ?_
          | ((try refine qg rfl rfl rfl ?_); first | refine qv rfl (qp rfl) rfl rfl ?_ | refine qv rfl (rr_idxc Und.eq TyC.ty rfl rfl c7) rfl rfl ?_ | refine qv rfl (rr_loadN TyC.ty rfl rfl (hatx _)) rfl rfl ?_ | refine qv rfl (qlen Und.eq rfl) rfl rfl ?_ | refine qv rfl (qfld FldC.fld rfl rfl) rfl rfl ?_ | refine qv rfl (rr_lss rfl rfl (qT (by omega))) rfl rfl ?_ | refine qv rfl (rr_lss rfl rfl (qF (by omega))) rfl rfl ?_ | refine qv rfl (rr_eql rfl rfl (qT (by omega))) rfl rfl ?_ | refine qv rfl (rr_eql rfl rfl (qF (by omega))) rfl rfl ?_ | refine qv rfl (rr_add64 rfl rfl (by omega) (by omega) rfl) rfl rfl ?_))
        clear hatx
        refine TL_new rfl fun g9 => ?_
        refine TL_storeB (i := 5) rfl rfl rfl rfl rfl rfl ?_
        conv => arg 8; simp only [zA, zB, zC, zD, zE, zF, zG, zH, zI, rowS, ret, id_eq]
        repeat (first
          | refine qv rfl (qp rfl) rfl rfl ?_ | refine TL_nil ?_ | refine T_seq ?_ | refine T_region ?_ | refine qcT rfl ?_ | refine qcF rfl ?_ | refine T_skip ?_
          | refine T_exit ?_ | refine T_ret ?_ | refine T_block ?_ | refine E_then ?_ | refine E_thenX ?_ | refine E_thenR ?_ | refine E_blockN ?_
          | refine E_blockR ?_ | refine E_blockX ?_ | refine E_blockO rfl ?_ | refine qs rfl rfl rfl rfl rfl rfl ?_
          | ((try refine qg rfl rfl rfl ?_); first | refine qv rfl (qp rfl) rfl rfl ?_ | refine qv rfl (rr_load1 TyC.ty rfl (at_blk (i := 5) rfl rfl)) rfl rfl ?_ | refine qv rfl (qlen Und.eq rfl) rfl rfl ?_ | refine qv rfl (qfld FldC.fld rfl rfl) rfl rfl ?_ | refine qv rfl (rr_lss rfl rfl (qT (by omega))) rfl rfl ?_ | refine qv rfl (rr_lss rfl rfl (qF (by omega))) rfl rfl ?_ | refine qv rfl (rr_eql rfl rfl (qT (by omega))) rfl rfl ?_ | refine qv rfl (rr_eql rfl rfl (qF (by omega))) rfl rfl ?_ | refine qv rfl (rr_add64 rfl rfl (by omega) (by omega) rfl) rfl rfl ?_))
        refine T_ord ([blkO g3 (facV (vRow n gE cE) vF vL (vRow n gR cR) (vRow n gM cM)).cells 93, blkO g7 #[.int .i64 (hn : Int), .slice (some ⟨b', off', none⟩) body.length cb] 55, blkO g9 #[.int .i64 2, .int .i64 (mm : Int)] 46]) (.calm 0 (.calm 1 (.calm 2 (.calm 3 (.calm 4 (.calm 5 (.calm 6 (.calm 7 (.calm 8 (.one 9 (.one 10 (.calm 11 (.calm 12 (.calm 13 (.calm 14 (.done)))))))))))))))) (sub_pick [3, 4, 5] (by decide) rfl) (by kernel_rfl) (by kernel_rfl) (by intro c a d v w h; cases d <;> exact h) ?_
        repeat (first
          | ((first | refine TW_plain rfl rfl ?_ | refine TW_gmet rfl rfl rfl rfl ?_); first | refine TN_val (qp rfl) rfl rfl ?_ | refine TN_val (rr_load1 TyC.ty rfl (at_blk (i := 0) rfl rfl)) rfl rfl ?_ | refine TN_val (rr_load1 TyC.ty rfl (at_blk (i := 1) rfl rfl)) rfl rfl ?_ | refine TN_val (rr_load1 TyC.ty rfl (at_blk (i := 2) rfl rfl)) rfl rfl ?_ | refine TN_val (rr_idx1 Und.eq TyC.ty rfl rfl (show hn < n by omega)) rfl rfl ?_ | refine TN_val (qlen Und.eq rfl) rfl rfl ?_ | refine TN_val (qfld FldC.fld rfl rfl) rfl rfl ?_ | refine TN_val (rr_lss rfl rfl (qT (by omega))) rfl rfl ?_ | refine TN_val (rr_lss rfl rfl (qF (by omega))) rfl rfl ?_ | refine TN_val (rr_eql rfl rfl (qT (by omega))) rfl rfl ?_ | refine TN_val (rr_eql rfl rfl (qF (by omega))) rfl rfl ?_ | refine TN_val (rr_add64 rfl rfl (by omega) (by omega) rfl) rfl rfl ?_)
          | refine TW_skip rfl rfl rfl rfl rfl rfl rfl ?_ | refine TW_done ?_)
        refine TW_one rfl (TL_val (rr_load1 TyC.ty rfl (at_row (i := 1) rfl (by rw [Nat.zero_add]; exact hcell))) rfl rfl rfl (TW_on (sub_pick [3, 4, 5] (by decide) rfl) ?_))
        refine TW_one rfl ?_
        refine TL_callB [1] [0, 2, 3, 4, 5] (by decide) rfl rfl (he3 EntersC.en rfl rfl rfl rfl) (fun w hm hb => hmk w _ hb) rfl rfl rfl ?_
        intro _ _
        conv => arg 8; simp only [zA, zB, zC, zD, zE, zF, zG, zH, zI, rowS, ret, id_eq]
        refine TW_on (sub_pick [2, 3, 4] (by decide) rfl) ?_
        cases b3
        · repeat (first
            | ((first | refine TW_plain rfl rfl ?_ | refine TW_gmet rfl rfl rfl rfl ?_); first | refine TN_val (qp rfl) rfl rfl ?_ | refine TN_val (qlen Und.eq rfl) rfl rfl ?_ | refine TN_val (qfld FldC.fld rfl rfl) rfl rfl ?_ | refine TN_val (rr_lss rfl rfl (qT (by omega))) rfl rfl ?_ | refine TN_val (rr_lss rfl rfl (qF (by omega))) rfl rfl ?_ | refine TN_val (rr_eql rfl rfl (qT (by omega))) rfl rfl ?_ | refine TN_val (rr_eql rfl rfl (qF (by omega))) rfl rfl ?_ | refine TN_val (rr_add64 rfl rfl (by omega) (by omega) rfl) rfl rfl ?_)
            | refine TW_skip rfl rfl rfl rfl rfl rfl rfl ?_ | refine TW_done ?_)
          repeat (first
            | refine qv rfl (qp rfl) rfl rfl ?_ | refine TL_nil ?_ | refine T_seq ?_ | refine T_region ?_ | refine qcT rfl ?_ | refine qcF rfl ?_ | refine T_skip ?_
            | refine T_exit ?_ | refine T_ret ?_ | refine T_block ?_ | refine E_then ?_ | refine E_thenX ?_ | refine E_thenR ?_ | refine E_blockN ?_
            | refine E_blockR ?_ | refine E_blockX ?_ | refine E_blockO rfl ?_ | refine qs rfl rfl rfl rfl rfl rfl ?_
            | ((try refine qg rfl rfl rfl ?_); first | refine qv rfl (qp rfl) rfl rfl ?_ | refine qv rfl (qlen Und.eq rfl) rfl rfl ?_ | refine qv rfl (qfld FldC.fld rfl rfl) rfl rfl ?_ | refine qv rfl (rr_lss rfl rfl (qT (by omega))) rfl rfl ?_ | refine qv rfl (rr_lss rfl rfl (qF (by omega))) rfl rfl ?_ | refine qv rfl (rr_eql rfl rfl (qT (by omega))) rfl rfl ?_ | refine qv rfl (rr_eql rfl rfl (qF (by omega))) rfl rfl ?_ | refine qv rfl (rr_add64 rfl rfl (by omega) (by omega) rfl) rfl rfl ?_))
          refine E_pick [0, 5, 1, 2, 3] (by decide) rfl ?_
          exact E_round (j + 1, R3, false || m') ⟨by omega, hl3, j3⟩ (by show body.length - (j + 1) < body.length - j; omega) (by repeat' (first | exact True.intro | refine And.intro rfl ?_)) rfl
        · repeat (first
            | ((first | refine TW_plain rfl rfl ?_ | refine TW_gmet rfl rfl rfl rfl ?_); first | refine TN_val (qp rfl) rfl rfl ?_ | refine TN_val (qlen Und.eq rfl) rfl rfl ?_ | refine TN_val (qfld FldC.fld rfl rfl) rfl rfl ?_ | refine TN_val (rr_lss rfl rfl (qT (by omega))) rfl rfl ?_ | refine TN_val (rr_lss rfl rfl (qF (by omega))) rfl rfl ?_ | refine TN_val (rr_eql rfl rfl (qT (by omega))) rfl rfl ?_ | refine TN_val (rr_eql rfl rfl (qF (by omega))) rfl rfl ?_ | refine TN_val (rr_add64 rfl rfl (by omega) (by omega) rfl) rfl rfl ?_)
            | refine TW_skip rfl rfl rfl rfl rfl rfl rfl ?_ | refine TW_done ?_)
          repeat (first
            | refine qv rfl (qp rfl) rfl rfl ?_ | refine TL_nil ?_ | refine T_seq ?_ | refine T_region ?_ | refine qcT rfl ?_ | refine qcF rfl ?_ | refine T_skip ?_
            | refine T_exit ?_ | refine T_ret ?_ | refine T_block ?_ | refine E_then ?_ | refine E_thenX ?_ | refine E_thenR ?_ | refine E_blockN ?_
            | refine E_blockR ?_ | refine E_blockX ?_ | refine E_blockO rfl ?_ | refine qs rfl rfl rfl rfl rfl rfl ?_
            | ((try refine qg rfl rfl rfl ?_); first | refine qv rfl (qp rfl) rfl rfl ?_ | refine qv rfl (qlen Und.eq rfl) rfl rfl ?_ | refine qv rfl (qfld FldC.fld rfl rfl) rfl rfl ?_ | refine qv rfl (rr_lss rfl rfl (qT (by omega))) rfl rfl ?_ | refine qv rfl (rr_lss rfl rfl (qF (by omega))) rfl rfl ?_ | refine qv rfl (rr_eql rfl rfl (qT (by omega))) rfl rfl ?_ | refine qv rfl (rr_eql rfl rfl (qF (by omega))) rfl rfl ?_ | refine qv rfl (rr_add64 rfl rfl (by omega) (by omega) rfl) rfl rfl ?_))
          refine E_pick [0, 5, 1, 2, 3] (by decide) rfl ?_
          exact E_round (j + 1, R3, true || m') ⟨by omega, hl3, j3⟩ (by show body.length - (j + 1) < body.length - j; omega) (by repeat' (first | exact True.intro | refine And.intro rfl ?_)) rfl
      · rw [if_neg c8] at j3
        dsimp only at j3
        repeat (first
          | refine qv rfl (qp rfl) rfl rfl ?_ | refine TL_nil ?_ | refine T_seq ?_ | refine T_region ?_ | refine qcT rfl ?_ | refine qcF rfl ?_ | refine T_skip ?_
          | refine T_exit ?_ | refine T_ret ?_ | refine T_block ?_ | refine E_then ?_ | refine E_thenX ?_ | refine E_thenR ?_ | refine E_blockN ?_
          | refine E_blockR ?_ | refine E_blockX ?_ | refine E_blockO rfl ?_ | refine qs rfl rfl rfl rfl rfl rfl ?_
          | ((try refine qg rfl rfl rfl ?_); first | refine qv rfl (qp rfl) rfl rfl ?_ | refine qv rfl (rr_idxc Und.eq TyC.ty rfl rfl c7) rfl rfl ?_ | refine qv rfl (rr_loadN TyC.ty rfl rfl (hatx _)) rfl rfl ?_ | refine qv rfl (qlen Und.eq rfl) rfl rfl ?_ | refine qv rfl (qfld FldC.fld rfl rfl) rfl rfl ?_ | refine qv rfl (rr_lss rfl rfl (qT (by omega))) rfl rfl ?_ | refine qv rfl (rr_lss rfl rfl (qF (by omega))) rfl rfl ?_ | refine qv rfl (rr_eql rfl rfl (qT (by omega))) rfl rfl ?_ | refine qv rfl (rr_eql rfl rfl (qF (by omega))) rfl rfl ?_ | refine qv rfl (rr_add64 rfl rfl (by omega) (by omega) rfl) rfl rfl ?_))
        clear hatx
        refine TL_new rfl fun g9 => ?_
        refine TL_storeB (i := 5) rfl rfl rfl rfl rfl rfl ?_
        conv => arg 8; simp only [zA, zB, zC, zD, zE, zF, zG, zH, zI, rowS, ret, id_eq]
        repeat (first
          | refine qv rfl (qp rfl) rfl rfl ?_ | refine TL_nil ?_ | refine T_seq ?_ | refine T_region ?_ | refine qcT rfl ?_ | refine qcF rfl ?_ | refine T_skip ?_
          | refine T_exit ?_ | refine T_ret ?_ | refine T_block ?_ | refine E_then ?_ | refine E_thenX ?_ | refine E_thenR ?_ | refine E_blockN ?_
          | refine E_blockR ?_ | refine E_blockX ?_ | refine E_blockO rfl ?_ | refine qs rfl rfl rfl rfl rfl rfl ?_
          | ((try refine qg rfl rfl rfl ?_); first | refine qv rfl (qp rfl) rfl rfl ?_ | refine qv rfl (rr_load1 TyC.ty rfl (at_blk (i := 5) rfl rfl)) rfl rfl ?_ | refine qv rfl (qlen Und.eq rfl) rfl rfl ?_ | refine qv rfl (qfld FldC.fld rfl rfl) rfl rfl ?_ | refine qv rfl (rr_lss rfl rfl (qT (by omega))) rfl rfl ?_ | refine qv rfl (rr_lss rfl rfl (qF (by omega))) rfl rfl ?_ | refine qv rfl (rr_eql rfl rfl (qT (by omega))) rfl rfl ?_ | refine qv rfl (rr_eql rfl rfl (qF (by omega))) rfl rfl ?_ | refine qv rfl (rr_add64 rfl rfl (by omega) (by omega) rfl) rfl rfl ?_))
        refine E_pick [0, 1, 2, 3, 4] (by decide) rfl ?_
        exact E_round (j + 1, R', m') ⟨by omega, j2, j3⟩ (by show body.length - (j + 1) < body.length - j; omega) (by repeat' (first | exact True.intro | refine And.intro rfl ?_)) rfl
    · rw [List.drop_of_length_le (by omega)] at j3
      have j3 : (R', m') = (R2, mo2) := j3
      simp only [Prod.mk.injEq] at j3
      obtain ⟨rfl, rfl⟩ := j3
      repeat (first
        | refine qv rfl (qp rfl) rfl rfl ?_ | refine TL_nil ?_ | refine T_seq ?_ | refine T_region ?_ | refine qcT rfl ?_ | refine qcF rfl ?_ | refine T_skip ?_
        | refine T_exit ?_ | refine T_ret ?_ | refine T_block ?_ | refine E_then ?_ | refine E_thenX ?_ | refine E_thenR ?_ | refine E_blockN ?_
        | refine E_blockR ?_ | refine E_blockX ?_ | refine E_blockO rfl ?_ | refine qs rfl rfl rfl rfl rfl rfl ?_
        | ((try refine qg rfl rfl rfl ?_); first | refine qv rfl (qp rfl) rfl rfl ?_ | refine qv rfl (qlen Und.eq rfl) rfl rfl ?_ | refine qv rfl (qfld FldC.fld rfl rfl) rfl rfl ?_ | refine qv rfl (rr_lss rfl rfl (qT (by omega))) rfl rfl ?_ | refine qv rfl (rr_lss rfl rfl (qF (by omega))) rfl rfl ?_ | refine qv rfl (rr_eql rfl rfl (qT (by omega))) rfl rfl ?_ | refine qv rfl (rr_eql rfl rfl (qF (by omega))) rfl rfl ?_ | refine qv rfl (rr_add64 rfl rfl (by omega) (by omega) rfl) rfl rfl ?_))
      refine E_pick [0, 1, 2, 3] (by decide) rfl ?_
      exact E_round (k + 1, ⟨E1, R', M1, m'⟩) ⟨by omega, hl1, j2, hl2, i5⟩ (by show prods.length - (k + 1) < prods.length - k; omega) (by repeat' (first | exact True.intro | refine And.intro rfl ?_)) rfl
  · rw [List.drop_of_length_le (by omega)] at i5
    have i5 : (⟨E, R, M, more⟩ : FS) = fin := i5
    subst i5
    repeat (first
      | refine qv rfl (qp rfl) rfl rfl ?_ | refine TL_nil ?_ | refine T_seq ?_ | refine T_region ?_ | refine qcT rfl ?_ | refine qcF rfl ?_ | refine T_skip ?_
      | refine T_exit ?_ | refine T_ret ?_ | refine T_block ?_ | refine E_then ?_ | refine E_thenX ?_ | refine E_thenR ?_ | refine E_blockN ?_
      | refine E_blockR ?_ | refine E_blockX ?_ | refine E_blockO rfl ?_ | refine qs rfl rfl rfl rfl rfl rfl ?_
      | ((try refine qg rfl rfl rfl ?_); first | refine qv rfl (qp rfl) rfl rfl ?_ | refine qv rfl (qlen Und.eq rfl) rfl rfl ?_ | refine qv rfl (qfld FldC.fld rfl rfl) rfl rfl ?_ | refine qv rfl (rr_lss rfl rfl (qT (by omega))) rfl rfl ?_ | refine qv rfl (rr_lss rfl rfl (qF (by omega))) rfl rfl ?_ | refine qv rfl (rr_eql rfl rfl (qT (by omega))) rfl rfl ?_ | refine qv rfl (rr_eql rfl rfl (qF (by omega))) rfl rfl ?_ | refine qv rfl (rr_add64 rfl rfl (by omega) (by omega) rfl) rfl rfl ?_))
    exact E_ret1 rfl rfl fun w hm => hm.meetsB (S := ⟨fun (_ : Unit) => True, fun _ => .bool more, fun _ => [rowBn n gE cE E, rowBn n gR cR R, rowBn n gM cM M]⟩) () trivial [0, 1, 2] (by decide) rfl
end Go.Proofs.Ytmcclhddjielnaa.eng

/- FactsM -/
namespace Go.Proofs.Ytmcclhddjielnaa.factsL
open gramL
/-! ### steps till nothing is new -/
def fixN {σ : Type} (step : σ → σ × Bool) : Nat → σ → σ
  | 0, s => s
  | f + 1, s => if (step s).2 = true then fixN step f (step s).1 else (step s).1
structure Falls {σ : Type} (step : σ → σ × Bool) (ok : σ → Prop) (μ : σ → Nat) : Prop where
  keep : ∀ s, ok s → ok (step s).1
  dec : ∀ s, ok s → (step s).2 = true → μ (step s).1 < μ s
def fix {σ : Type} (step : σ → σ × Bool) (μ : σ → Nat) (s : σ) : σ := fixN step (μ s + 1) s
section
variable {σ : Type} {step : σ → σ × Bool} {ok : σ → Prop} {μ : σ → Nat}
theorem fixN_fuel (h : Falls step ok μ) : ∀ (f g : Nat) (s : σ), ok s → μ s < f → μ s < g → fixN step f s = fixN step g s
  | 0, _, _, _, h1, _ => by omega
  | _, 0, _, _, _, h2 => by omega
  | f + 1, g + 1, s, hs, h1, h2 => by
    unfold fixN
    by_cases c : (step s).2 = true
    · rw [if_pos c, if_pos c]
      have := h.dec s hs c
      exact fixN_fuel h f g _ (h.keep s hs) (by omega) (by omega)
    · rw [if_neg c, if_neg c]
theorem fix_go (h : Falls step ok μ) {s : σ} (hs : ok s) (c : (step s).2 = true) : fix step μ s = fix step μ (step s).1 := by
  have := h.dec s hs c
  unfold fix
  rw [fixN, if_pos c]
  exact fixN_fuel h _ _ _ (h.keep s hs) (by omega) (by omega)
theorem fix_stop {s : σ} (c : (step s).2 = false) : fix step μ s = (step s).1 := by
  unfold fix
  rw [fixN, if_neg (by rw [c]; decide)]
/-- what is come to is a fixed point: a step from some state there tells nothing new -/
theorem fix_end (h : Falls step ok μ) : ∀ (k : Nat) (s : σ), ok s → μ s ≤ k → ∃ s', ok s' ∧ (step s').2 = false ∧ fix step μ s = (step s').1
  | k, s, hs, hk => by
    by_cases c : (step s).2 = true
    · have hd := h.dec s hs c
      match k with
      | 0 => omega
      | k + 1 =>
        obtain ⟨s', h1, h2, h3⟩ := fix_end h k (step s).1 (h.keep s hs) (by omega)
        exact ⟨s', h1, h2, by rw [fix_go h hs c, h3]⟩
    · have c' : (step s).2 = false := by simpa using c
      exact ⟨s, hs, c', fix_stop c'⟩
end
/-! ### First -/
def stepF (E : List Bool) (M : List Bool) (p : gramL.Prod) (F : List Nat) (more : Bool) : List Nat × Bool :=
  if allF M p.2 true = true then ((addF F p.1.toNat (beginF E F p.2 0)).1, (addF F p.1.toNat (beginF E F p.2 0)).2 || more) else (F, more)
def passF (E M : List Bool) : List gramL.Prod → List Nat → Bool → List Nat × Bool
  | [], F, more => (F, more)
  | p :: r, F, more => passF E M r (stepF E M p F more).1 (stepF E M p F more).2
/-! ### Follow -/
def stepW (E : List Bool) (F : List Nat) (h : Nat) (x : Sym) (r : List Sym) (W : List Nat) (more : Bool) : List Nat × Bool :=
  if x.1 = 2 then ((addF W x.2.toNat (beginF E F r (W.getD h 0))).1, (addF W x.2.toNat (beginF E F r (W.getD h 0))).2 || more) else (W, more)
def passWb (E : List Bool) (F : List Nat) (h : Nat) : List Sym → List Nat → Bool → List Nat × Bool
  | [], W, more => (W, more)
  | x :: r, W, more => passWb E F h r (stepW E F h x r W more).1 (stepW E F h x r W more).2
def passW (E : List Bool) (F : List Nat) : List gramL.Prod → List Nat → Bool → List Nat × Bool
  | [], W, more => (W, more)
  | p :: r, W, more => passW E F r (passWb E F p.1.toNat p.2 W more).1 (passWb E F p.1.toNat p.2 W more).2
/-- how much is missing -/
def lack (l : List Nat) : Nat := (l.map fun x => 18446744073709551616 - x).sum
def okW (n : Nat) (l : List Nat) : Prop := l.length = n ∧ ∀ x ∈ l, x < 18446744073709551616
theorem getD_lt {n : Nat} {l : List Nat} (h : okW n l) (i : Nat) : l.getD i 0 < 18446744073709551616 := by
  rw [List.getD_eq_getElem?_getD]
  cases e : l[i]? with
  | none => decide
  | some y => exact h.2 y (List.mem_of_getElem? e)
theorem or_lt64 {x y : Nat} (hx : x < 18446744073709551616) (hy : y < 18446744073709551616) : x ||| y < 18446744073709551616 := Nat.or_lt_two_pow (n := 64) hx hy
theorem addF_ok {n : Nat} {l : List Nat} {i b : Nat} (h : okW n l) (hb : b < 18446744073709551616) : okW n (addF l i b).1 := by
  refine ⟨by rw [addF_len]; exact h.1, fun x hx => ?_⟩
  rcases List.mem_or_eq_of_mem_set hx with h1 | rfl
  · exact h.2 x h1
  · exact or_lt64 (getD_lt h i) hb
theorem sum_set : ∀ (l : List Nat) (i : Nat) (y : Nat) (h : i < l.length), ((l.set i y).map fun x => 18446744073709551616 - x).sum + (18446744073709551616 - l[i]) = (l.map fun x => 18446744073709551616 - x).sum + (18446744073709551616 - y)
  | a :: r, 0, y, h => by simp; omega
  | a :: r, i + 1, y, h => by
    have := sum_set r i y (by simpa using h)
    simp at this ⊢; omega
theorem addF_lack {n : Nat} {l : List Nat} {i b : Nat} (h : okW n l) (hi : i < n) (hb : b < 18446744073709551616) : lack (addF l i b).1 ≤ lack l ∧ ((addF l i b).2 = true → lack (addF l i b).1 < lack l) := by
  have hil : i < l.length := by rw [h.1]; exact hi
  have hs := sum_set l i (l.getD i 0 ||| b) hil
  have e : l.getD i 0 = l[i] := by rw [List.getD_eq_getElem?_getD, List.getElem?_eq_getElem hil]; rfl
  have h1 : l[i] ≤ l.getD i 0 ||| b := by rw [e]; exact Nat.left_le_or
  have h2 := or_lt64 (getD_lt h i) hb
  have h3 := h.2 _ (List.getElem_mem hil)
  unfold lack addF
  dsimp only
  refine ⟨by omega, fun hc => ?_⟩
  simp only [Bool.not_eq_true', decide_eq_false_iff_not] at hc
  omega
theorem beginF_lt {E : List Bool} {F : List Nat} {n : Nat} {body : List Sym} {behind : Nat} (hF : okW n F) (hb : behind < 18446744073709551616) (hx : ∀ x ∈ body, x.1 = 1 → x.2.toNat < 64) : beginF E F body behind < 18446744073709551616 := by
  have key : ∀ (body : List Sym) (out : Nat), out < 18446744073709551616 → (∀ x ∈ body, x.1 = 1 → x.2.toNat < 64) → beginGo E F behind body out < 18446744073709551616 := by
    intro body
    induction body with
    | nil => intro out h _; exact or_lt64 h hb
    | cons x r ih =>
      intro out h hx
      unfold beginGo
      split
      · rename_i c
        have hp : (2 : Nat) ^ x.2.toNat < 2 ^ 64 := Nat.pow_lt_pow_right (by decide) (hx x (by simp) c)
        exact or_lt64 h (by simpa using hp)
      · split
        · exact ih _ (or_lt64 h (getD_lt hF _)) fun y hy => hx y (by simp [hy])
        · exact or_lt64 h (getD_lt hF _)
  exact key body 0 (by decide) hx
/-- what a grammar's productions are like -/
structure Fine (n : Nat) (l : List gramL.Prod) : Prop where
  head : ∀ p ∈ l, 0 ≤ p.1 ∧ p.1.toNat < n
  term : ∀ p ∈ l, ∀ x ∈ p.2, x.1 = 1 → 0 ≤ x.2 ∧ x.2.toNat < 64
  non : ∀ p ∈ l, ∀ x ∈ p.2, x.1 ≠ 1 → x.1 = 2 ∧ 0 ≤ x.2 ∧ x.2.toNat < n
theorem fine_of {g : Gram} {n : Nat} (h : checkG g = 0) (hn : g.nons = n) : Fine n g.prods := by
  obtain ⟨a, b, c, d, e, f⟩ := checkG_ok h
  refine ⟨fun p hp => ?_, fun p hp x hx hx1 => ?_, fun p hp x hx hx1 => ?_⟩
  · have := f p hp; omega
  · have := (f p hp).2.2.2 x hx
    unfold right at this
    rw [if_pos hx1] at this
    simp at this; omega
  · have := (f p hp).2.2.2 x hx
    unfold right at this
    rw [if_neg hx1] at this
    split at this
    · rename_i h2
      simp at this
      exact ⟨h2, by omega, by omega⟩
    · simp at this
theorem Fine.tail {n : Nat} {p : gramL.Prod} {l : List gramL.Prod} (h : Fine n (p :: l)) : Fine n l :=
  ⟨fun q hq => h.head q (by simp [hq]), fun q hq => h.term q (by simp [hq]), fun q hq => h.non q (by simp [hq])⟩
theorem passF_ok {E M : List Bool} {n : Nat} : ∀ (l : List gramL.Prod) (F : List Nat) (more : Bool), Fine n l → okW n F → okW n (passF E M l F more).1 ∧ lack (passF E M l F more).1 ≤ lack F ∧ ((passF E M l F more).2 = true → more = true ∨ lack (passF E M l F more).1 < lack F)
  | [], F, more, _, h => ⟨h, Nat.le_refl _, fun c => .inl c⟩
  | p :: r, F, more, hf, h => by
    have hb : beginF E F p.2 0 < 18446744073709551616 := beginF_lt h (by decide) fun x hx hx1 => (hf.term p (by simp) x hx hx1).2
    have hh := hf.head p (by simp)
    rw [passF]
    unfold stepF
    split
    · have h1 := addF_ok (i := p.1.toNat) h hb
      have h2 := addF_lack h hh.2 hb
      obtain ⟨k1, k2, k3⟩ := passF_ok r (addF F p.1.toNat (beginF E F p.2 0)).1 ((addF F p.1.toNat (beginF E F p.2 0)).2 || more) hf.tail h1
      refine ⟨k1, Nat.le_trans k2 h2.1, fun c => ?_⟩
      rcases k3 c with c2 | c2
      · rw [Bool.or_eq_true] at c2
        rcases c2 with c2 | c2
        · exact .inr (Nat.lt_of_le_of_lt k2 (h2.2 c2))
        · exact .inl c2
      · exact .inr (Nat.lt_of_lt_of_le c2 h2.1)
    · exact passF_ok r F more hf.tail h
theorem passWb_ok {E : List Bool} {F : List Nat} {n h : Nat} (hF : okW n F) (hh : h < n) : ∀ (body : List Sym) (W : List Nat) (more : Bool), (∀ x ∈ body, x.1 = 1 → x.2.toNat < 64) → (∀ x ∈ body, x.1 = 2 → x.2.toNat < n) → okW n W → okW n (passWb E F h body W more).1 ∧ lack (passWb E F h body W more).1 ≤ lack W ∧ ((passWb E F h body W more).2 = true → more = true ∨ lack (passWb E F h body W more).1 < lack W)
  | [], W, more, _, _, hW => ⟨hW, Nat.le_refl _, fun c => .inl c⟩
  | x :: r, W, more, ht, hx, hW => by
    have hb : beginF E F r (W.getD h 0) < 18446744073709551616 := beginF_lt hF (getD_lt hW h) fun y hy => ht y (by simp [hy])
    have tl := fun W more => passWb_ok (E := E) hF hh r W more (fun y hy => ht y (by simp [hy])) (fun y hy => hx y (by simp [hy]))
    rw [passWb]
    unfold stepW
    split
    · rename_i c0
      have h1 := addF_ok (i := x.2.toNat) hW hb
      have h2 := addF_lack hW (hx x (by simp) c0) hb
      obtain ⟨k1, k2, k3⟩ := tl (addF W x.2.toNat (beginF E F r (W.getD h 0))).1 ((addF W x.2.toNat (beginF E F r (W.getD h 0))).2 || more) h1
      refine ⟨k1, Nat.le_trans k2 h2.1, fun c => ?_⟩
      rcases k3 c with c2 | c2
      · rw [Bool.or_eq_true] at c2
        rcases c2 with c2 | c2
        · exact .inr (Nat.lt_of_le_of_lt k2 (h2.2 c2))
        · exact .inl c2
      · exact .inr (Nat.lt_of_lt_of_le c2 h2.1)
    · exact tl W more hW
theorem passW_ok {E : List Bool} {F : List Nat} {n : Nat} (hF : okW n F) : ∀ (l : List gramL.Prod) (W : List Nat) (more : Bool), Fine n l → okW n W → okW n (passW E F l W more).1 ∧ lack (passW E F l W more).1 ≤ lack W ∧ ((passW E F l W more).2 = true → more = true ∨ lack (passW E F l W more).1 < lack W)
  | [], W, more, _, h => ⟨h, Nat.le_refl _, fun c => .inl c⟩
  | p :: r, W, more, hf, h => by
    rw [passW]
    obtain ⟨a1, a2, a3⟩ := passWb_ok (E := E) hF (hf.head p (by simp)).2 p.2 W more (fun x hx h1 => (hf.term p (by simp) x hx h1).2) (fun x hx h2 => (hf.non p (by simp) x hx (by omega)).2.2) h
    obtain ⟨k1, k2, k3⟩ := passW_ok hF r (passWb E F p.1.toNat p.2 W more).1 (passWb E F p.1.toNat p.2 W more).2 hf.tail a1
    refine ⟨k1, Nat.le_trans k2 a2, fun c => ?_⟩
    rcases k3 c with c2 | c2
    · rcases a3 c2 with c3 | c3
      · exact .inl c3
      · exact .inr (Nat.lt_of_le_of_lt k2 c3)
    · exact .inr (Nat.lt_of_lt_of_le c2 a2)
theorem fallsF {E M : List Bool} {n : Nat} {l : List gramL.Prod} (hf : Fine n l) : Falls (fun F => passF E M l F false) (okW n) lack :=
  ⟨fun s hs => (passF_ok l s false hf hs).1, fun s hs c => by
    rcases (passF_ok (E := E) (M := M) l s false hf hs).2.2 c with h | h
    · cases h
    · exact h⟩
theorem fallsW {E : List Bool} {F : List Nat} {n : Nat} {l : List gramL.Prod} (hF : okW n F) (hf : Fine n l) : Falls (fun W => passW E F l W false) (okW n) lack :=
  ⟨fun s hs => (passW_ok hF l s false hf hs).1, fun s hs c => by
    rcases (passW_ok (E := E) hF l s false hf hs).2.2 c with h | h
    · cases h
    · exact h⟩
end Go.Proofs.Ytmcclhddjielnaa.factsL


/- Part 2 of what BuildSoon needs: ReadM, Opx, MixV, Seq, MixW, Room, Shp, GramL, Sym, GramI, TreeL, SmL, ItL, ItM, TreeM, TreeE, TreeP, CountL, CountN, CountT, CountR, TreeW, TreeU, FactsL, FactsM, FactsN, FactsP, FactsQ, FactsR, CountX. -/
import Derived.Test.YtlojfbnimmdehaaMgA
import Derived.WalkKit
import Derived.WalkSpells
import Derived.WalkLawsBesides
import Derived.Deep.RegionLaw
import Derived.Deep.AppendLies
import Derived.Deep.QuietTactic
import Derived.BigQuiet
import Derived.Deep.DeepCutAuto
import Derived.Lib.Hide
import Derived.Test.YtlojfbnimmdehaaRows
import Derived.ProofKit
import Derived.OpenShut
import Derived.ShutString
import Derived.SizedLaws
import Derived.JoinedCond
import Derived.Deep.CondSized
import Derived.Deep.Quiet
import Derived.StillTail
import Derived.Deep.LoopGhost
import Derived.Laws.BitsLemmas
import Derived.Laws.BytesString
import Derived.Test.YtlojfbnimmdehaaProg
import Derived.Laws.StructEq
import Derived.Laws.MakeOwn
import Derived.Laws.AppendOwn
import Derived.Laws.Entries
/- ReadM -/
namespace Go.Proofs.Ytlojfbnimmdehaa.eng
open Go.RowKit kit mix Go.ChangeShapes Go.WideShapes Go.ChangeAt
/-- a measure that goes down into what a datum has -/
structure Msr (P : Program) (H : Type) where
  ok : TypeId → DataW H → Prop
  lim : TypeId → Nat → Prop
  slim : Nat → Prop
  zero : ∀ e, lim e 0
  slice : ∀ {t e : TypeId} {elems spare : List (DataW H)}, P.underlying t = some (.slice e) → ok t (.slice elems spare) → lim e elems.length ∧ ∀ d ∈ elems, ok e d
  strct : ∀ {t : TypeId} {fs : Array Field} {parts : List (DataW H)}, P.underlying t = some (.struct fs) → ok t (.agg parts) → ∀ (i : Nat) (f : Field) (d : DataW H), fs[i]? = some f → parts[i]? = some d → ok f.type d
  arr : ∀ {t e : TypeId} {m : Nat} {parts : List (DataW H)}, P.underlying t = some (.array m e) → ok t (.agg parts) → ∀ d ∈ parts, ok e d
  str : ∀ {t : TypeId} {b : List UInt8}, ok t (.lit (.string b)) → slim b.length
section
variable {H : Type} {P : Program}
theorem weights_all {e : TypeId} : ∀ (l : List (DataW H)) (d : DataW H), d ∈ l → ∀ n ∈ d.weights P e, n ∈ DataW.weightsAll P e l
  | [], _, h, _, _ => by cases h
  | x :: r, d, h, n, hn => by
    rw [DataW.weightsAll, List.mem_append]
    rcases List.mem_cons.1 h with rfl | h
    · exact .inl hn
    · exact .inr (weights_all r d h n hn)
theorem weights_each : ∀ (ts : List TypeId) (l : List (DataW H)) (i : Nat) (t : TypeId) (d : DataW H), ts[i]? = some t → l[i]? = some d → ∀ n ∈ d.weights P t, n ∈ DataW.weightsEach P ts l
  | [], _, _, _, _, h, _, _, _ => by simp at h
  | _ :: _, [], _, _, _, _, h, _, _ => by simp at h
  | t0 :: ts, d0 :: l, 0, t, d, ht, hd, n, hn => by
    simp only [List.getElem?_cons_zero, Option.some.injEq] at ht hd
    subst ht hd
    rw [DataW.weightsEach, List.mem_append]; exact .inl hn
  | t0 :: ts, d0 :: l, i + 1, t, d, ht, hd, n, hn => by
    rw [DataW.weightsEach, List.mem_append]
    exact .inr (weights_each ts l i t d (by simpa using ht) (by simpa using hd) n hn)
/-- by weight -/
def weightM (P : Program) (H : Type) : Msr P H where
  ok t d := ∀ n ∈ d.weights P t, n ≤ reachBytes
  lim e n := n * P.bytesOf e ≤ reachBytes
  slim n := n ≤ reachBytes
  zero e := by simp
  slice := fun {t e elems spare} ht h => by
    have hw : DataW.weights P t (.slice elems spare) = (elems.length + spare.length) * P.bytesOf e :: (DataW.weightsAll P e elems ++ DataW.weightsAll P e spare) := by rw [DataW.weights, ht]
    rw [hw] at h
    refine ⟨?_, fun d hd n hn => h n ?_⟩
    · have h1 := h _ (List.mem_cons_self)
      exact Nat.le_trans (Nat.mul_le_mul_right _ (by omega)) h1
    · exact List.mem_cons_of_mem _ (List.mem_append_left _ (weights_all elems d hd n hn))
  strct := fun {t fs parts} ht h i f d hf hd n hn => by
    have hw : DataW.weights P t (.agg parts) = DataW.weightsEach P (fs.toList.map (·.type)) parts := by rw [DataW.weights, ht]
    rw [hw] at h
    exact h n (weights_each _ _ i f.type d (by rw [List.getElem?_map, Array.getElem?_toList, hf]; rfl) hd n hn)
  arr := fun {t e m parts} ht h d hd n hn => by
    have hw : DataW.weights P t (.agg parts) = DataW.weightsAll P e parts := by rw [DataW.weights, ht]
    rw [hw] at h
    exact h n (weights_all parts d hd n hn)
  str := fun {t b} h => h _ (by rw [DataW.weights]; exact List.mem_cons_self)
theorem weightM_top {ts : List TypeId} {ds : List (DataW H)} (hsz : (DataW.weightsEach P ts ds).all (· ≤ reachBytes) = true) (j : Nat) {t : TypeId} {d : DataW H} (ht : ts[j]? = some t) (hd : ds[j]? = some d) : (weightM P H).ok t d := fun n hn => by
  have := List.all_eq_true.1 hsz n (weights_each ts ds j t d ht hd n hn)
  simpa using this
theorem bulk_all : ∀ (l : List (DataW H)) (d : DataW H), d ∈ l → Rows.uptoBulk d ≤ Rows.uptoBulkAll l
  | [], _, h => by cases h
  | x :: r, d, h => by
    rw [Rows.uptoBulkAll]
    rcases List.mem_cons.1 h with rfl | h
    · omega
    · have := bulk_all r d h; omega
theorem bulk_one (d : DataW H) : 1 ≤ Rows.uptoBulk d := by
  unfold Rows.uptoBulk
  split <;> omega
theorem bulk_count : ∀ (ds : List (DataW H)), ds.length ≤ Rows.uptoBulkAll ds
  | [] => by simp
  | d :: r => by
    have := bulk_count r
    have := bulk_one d
    rw [Rows.uptoBulkAll, List.length_cons]; omega
/-- by bulk -/
def bulkM (P : Program) (H : Type) : Msr P H where
  ok _ d := Rows.uptoBulk d ≤ 1048576
  lim _ n := n ≤ 1048576
  slim n := n ≤ 1048576
  zero e := by simp
  slice := fun {t e elems spare} _ h => by
    rw [Rows.uptoBulk] at h
    exact ⟨by have := bulk_count elems; omega, fun d hd => by have := bulk_all elems d hd; omega⟩
  strct := fun {t fs parts} _ h i f d _ hd => by
    rw [Rows.uptoBulk] at h
    have := bulk_all parts d (List.mem_of_getElem? hd)
    omega
  arr := fun {t e m parts} _ h d hd => by
    rw [Rows.uptoBulk] at h
    have := bulk_all parts d hd
    omega
  str := fun {t b} h => by rw [Rows.uptoBulk] at h; omega
theorem bulkM_top {ds : List (DataW H)} (hk : Rows.uptoSmall H ds = true) (j : Nat) {t : TypeId} {d : DataW H} (hd : ds[j]? = some d) : (bulkM P H).ok t d := by
  have h := of_decide_eq_true hk
  have := bulk_all ds d (List.mem_of_getElem? hd)
  show Rows.uptoBulk d ≤ 1048576
  omega
end
section
variable {H : Type} {enc0 : TypeId × Value → H} {P : Program} {W : World} {M : Msr P H}
def OpensM (M : Msr P H) (enc0 : TypeId × Value → H) (W : World) (t : TypeId) {α : Type} (is : List Value → α → Prop) : Prop :=
  ∀ fuel cs x, DataW.trod enc0 P W 0 (fun _ => true) true fuel t cs = some x → M.ok t x.1 → ∃ a, is cs a
theorem OpensM.mono {t : TypeId} {α β : Type} {is : List Value → α → Prop} {is' : List Value → β → Prop} (h : OpensM M enc0 W t is) (hi : ∀ cs a, is cs a → ∃ b, is' cs b) : OpensM M enc0 W t is' := fun f cs x hx hm => let ⟨a, ha⟩ := h f cs x hx hm; hi _ _ ha
theorem opensM_of {t : TypeId} {α : Type} {is : List Value → α → Prop} (h : Opens enc0 P W t is) : OpensM M enc0 W t is := fun f cs x hx _ => h f cs x hx
theorem opensM_i64 {t : TypeId} (ht : P.underlying t = some (.int .i64)) : OpensM M enc0 W t (isInt .i64 (-9223372036854775808) 9223372036854775807) := opensM_of (opens_i64 ht)
theorem opensM_bool {t : TypeId} (ht : P.underlying t = some .bool) : OpensM M enc0 W t isBool := opensM_of (opens_bool ht)
theorem opensM_str {t : TypeId} (ht : P.underlying t = some .string) : OpensM M enc0 W t (fun cs s => isStr cs s ∧ M.slim s.length) := fun f cs x h hm => by
  obtain ⟨s, h1, h2, h3⟩ := DataW.trod_string ht h
  refine ⟨s.data.toList, ⟨by rw [h1, str_of], ?_⟩, ?_⟩
  · have e : s.data.toList.length = s.size := Array.length_toList
    unfold maxLen at h3; omega
  · rw [h2] at hm
    exact M.str hm
theorem opensM_slice {t e : TypeId} {c : Nat} (ht : P.underlying t = some (.slice e)) (hc : P.cellsOf e = c) (hc0 : 0 < c) {α : Type} {is : List Value → α → Prop} (hd : OpensM M enc0 W e is) (hl : ∀ cs a, is cs a → cs.length = c) : OpensM M enc0 W t (fun cs l => isSl W is c cs l ∧ M.lim e l.length) := fun fuel cs x h hm => by
  rcases DataW.trod_slice ht h with ⟨rfl, _⟩ | ⟨a, len, cap, elems, rest, n, _, rfl, hx, _, hlc, hmx, hel, hread, _⟩
  · exact ⟨[], ⟨_, rfl, none, 0, rfl, Nat.le_refl _, by decide, fun h => by simp at h⟩, M.zero e⟩
  · rw [hx] at hm
    obtain ⟨hlim, hall⟩ := M.slice ht hm
    have each : ∀ i, i < len → ∃ y : α, ∃ cs, W.cells? 0 (a.add (i * c)) c = some cs ∧ is cs y := fun i hi => by
      have h1 := hread i hi
      rw [hc, List.getElem?_eq_getElem (by omega)] at h1
      cases hcell : W.cells? 0 (a.add (i * c)) c with
      | none => rw [hcell] at h1; simp at h1
      | some cs =>
        rw [hcell] at h1
        obtain ⟨y, hy⟩ := hd n cs _ h1 (hall _ (List.mem_map.2 ⟨_, List.getElem_mem (by omega), rfl⟩))
        exact ⟨y, cs, rfl, hy⟩
    obtain ⟨l, hll, hp⟩ := list_of len each
    subst hll
    refine ⟨l, ⟨_, rfl, some a, cap, rfl, hlc, hmx, fun h0 => ?_⟩, by rw [List.length_map, hel] at hlim; exact hlim⟩
    obtain ⟨cs0, h1, h2⟩ := hp 0 l[0] (List.getElem?_eq_getElem h0)
    have h3 := (cells_some h1).2 0 hc0
    have hlen := (cells_some h1).1
    rw [List.getElem?_eq_getElem (by omega)] at h3
    have hsp := spot_none h3
    have e0 : a.spot = none := by
      rw [Nat.zero_mul] at hsp
      unfold Addr.add at hsp
      simpa using hsp
    obtain ⟨b, off, spot⟩ := a
    simp only at e0
    subst e0
    refine ⟨b, off, rfl, fun i hi => ?_⟩
    obtain ⟨cs, h4, h5⟩ := hp i l[i] (List.getElem?_eq_getElem hi)
    refine ⟨cs, h5, fun j u hj => ?_⟩
    have hjl : j < c := by have := (List.getElem?_eq_some_iff.1 hj).1; rw [(cells_some h4).1] at this; exact this
    have h6 := (cells_some h4).2 j hjl
    rw [addr_add, addr_add] at h6
    rw [h6]; exact hj
/-- a struct's fields -/
theorem fieldM_of {t : TypeId} {fs : Array Field} (ht : P.underlying t = some (.struct fs)) {fuel : Nat} {cs : List Value} {x : DataW H × List MemPlace} (h : DataW.trod enc0 P W 0 (fun _ => true) true fuel t cs = some x) (hm : M.ok t x.1) :
    cs.length = P.cellsOf t ∧ ∀ (i : Nat) (f : Field), fs[i]? = some f → ∀ {α : Type} {is : List Value → α → Prop}, OpensM M enc0 W f.type is → ∃ a, is ((cs.drop f.offset).take (P.cellsOf f.type)) a := by
  obtain ⟨xs, n, _, hx, hl, hlen, hf⟩ := DataW.trod_struct ht h
  refine ⟨hl, fun i f hi α is ho => ?_⟩
  have h1 := hf i f hi
  have hlt : i < xs.length := by rw [hlen]; exact (Array.getElem?_eq_some_iff.1 hi).1
  rw [List.getElem?_eq_getElem hlt] at h1
  rw [hx] at hm
  exact ho n _ _ h1 (M.strct ht hm i f _ hi (by rw [List.getElem?_map, List.getElem?_eq_getElem hlt]; rfl))
/-- an array of elements -/
theorem opensM_array {t e : TypeId} {m c : Nat} (ht : P.underlying t = some (.array m e)) (hc : P.cellsOf e = c) {α : Type} {is : List Value → α → Prop} (hd : OpensM M enc0 W e is) : OpensM M enc0 W t (fun cs l => cs.length = P.cellsOf t ∧ isArr is m c cs l) := fun fuel cs x h hm => by
  obtain ⟨xs, n, _, hx, hl, hlen, hf⟩ := DataW.trod_array ht h
  rw [hx] at hm
  have hall := M.arr ht hm
  have each : ∀ i, i < m → ∃ y : α, is ((cs.drop (i * c)).take c) y := fun i hi => by
    have h1 := hf i hi
    rw [hc, List.getElem?_eq_getElem (by omega)] at h1
    exact hd n _ _ h1 (hall _ (List.mem_map.2 ⟨_, List.getElem_mem (by omega), rfl⟩))
  obtain ⟨l, hll, hp⟩ := list_of m each
  exact ⟨l, hl, hll, fun i hi => hp i _ (List.getElem?_eq_getElem hi)⟩
/-- at the top: a struct by value -/
theorem topM_agg {t : TypeId} {fs : Array Field} (ht : P.underlying t = some (.struct fs)) {base : Nat} {v : Value} {d : DataW H} {ps : List MemPlace} (hv : Value.okWide P W .any base t v) (h : DataW.Trod enc0 P W 0 (fun _ => true) true t v d ps) {α : Type} {is : List Value → α → Prop} (ho : OpensM M enc0 W t is) (hm : M.ok t d) : ∃ cs a, v = .agg cs ∧ is cs.toList a := by
  obtain ⟨cs, fuel, rfl, hf⟩ := top_agg ht hv h
  obtain ⟨a, ha⟩ := ho fuel cs.toList _ hf hm
  exact ⟨cs, a, rfl, ha⟩
/-- at the top: a slice -/
theorem topM_slice {t e : TypeId} {c : Nat} (ht : P.underlying t = some (.slice e)) (hc : P.cellsOf e = c) (hc0 : 0 < c) {α : Type} {is : List Value → α → Prop} (hd : OpensM M enc0 W e is) (hl : ∀ cs a, is cs a → cs.length = c) {base : Nat} {v : Value} {d : DataW H} {ps : List MemPlace} (hv : Value.okWide P W .any base t v) (h : DataW.Trod enc0 P W 0 (fun _ => true) true t v d ps) (hm : M.ok t d) : ∃ l, SlX W is c v l ∧ M.lim e l.length := by
  obtain ⟨a0, len, cap, rfl⟩ := okWide_slice ht hv
  obtain ⟨fuel, hf⟩ := h
  have hf' : DataW.trod enc0 P W 0 (fun _ => true) true fuel t [.slice a0 len cap] = some (d, ps) := hf
  obtain ⟨l, ⟨v', hv', hs⟩, hlim⟩ := opensM_slice ht hc hc0 hd hl _ _ _ hf' hm
  obtain rfl : Value.slice a0 len cap = v' := by simpa using hv'
  exact ⟨l, hs, hlim⟩
end
/-- a slice of elements whose cells are told by a function -/
theorem SlX.flat {α : Type} {W : World} {is : List Value → α → Prop} {f : α → List Value} {c : Nat} {v : Value} {l : List α} (h : SlX W is c v l) (hc : ∀ a, (f a).length = c) (hc0 : 0 < c) (hf : ∀ cs a, is cs a → cs = f a) : Sl W v l.length (l.flatMap f) := by
  obtain ⟨base, cap, h1, h2, h3, h4⟩ := h
  refine ⟨base, cap, h1, h2, h3, fun h0 => ?_⟩
  obtain ⟨b, off, h5, h6⟩ := h4 h0
  refine ⟨b, off, h5, fun j u hj => ?_⟩
  have hjl := (List.getElem?_eq_some_iff.1 hj).1
  rw [flatMap_len hc] at hjl
  have hi : j / c < l.length := (Nat.div_lt_iff_lt_mul hc0).2 hjl
  have hmod := Nat.mod_lt j hc0
  have hdm : j / c * c + j % c = j := by rw [Nat.mul_comm]; exact Nat.div_add_mod j c
  obtain ⟨cs, h7, h8⟩ := h6 (j / c) hi
  rw [hf _ _ h7] at h8
  have h9 := flatMap_get hc l (j / c) (j % c) l[j / c] (List.getElem?_eq_getElem hi) hmod
  rw [hdm] at h9
  rw [h9] at hj
  have := h8 (j % c) u hj
  rw [Nat.add_assoc, hdm] at this
  exact this
end Go.Proofs.Ytlojfbnimmdehaa.eng

/- Opx -/
namespace Go.Proofs.Ytlojfbnimmdehaa.eng
open Go.RowKit kit mix
section
variable {P : Program} {n : Nat} {W : Base} {fr : Fr} {L : List Own} {Q : Exit → Act → World → Prop} {ops : Array Oper} {rest : List Oper} {d : Nat} {dst : Option Tmp} {ty : TypeId} {pos : String} {after : Array Edge} {guard : Option (Nat × Bool)}
def partsEv (fr : Fr) : List (Nat × Operand) → Option (List (Nat × Value))
  | [] => some []
  | (i, x) :: r => match ev fr x, partsEv fr r with | some v, some l => some ((i, v) :: l) | _, _ => none
theorem partsEv_of {a : Act} (hr : Rep n a fr) : ∀ (l : List (Nat × Operand)) (vs : List (Nat × Value)), partsEv fr l = some vs → l.map (fun (i, x) => (i, a.eval x)) = vs
  | [], vs, h => by simp only [partsEv, Option.some.injEq] at h; subst h; rfl
  | (i, x) :: r, vs, h => by
    simp only [partsEv] at h
    split at h
    · rename_i v l h1 h2
      simp only [Option.some.injEq] at h; subst h
      simp [hr.ev h1, partsEv_of hr r l h2]
    · cases h
theorem rr_build {t : TypeId} {parts : Array (Nat × Operand)} {ps : List (Nat × Value)} {cs : Array Value} (hp : partsEv fr parts.toList = some ps) (hrun : ∀ w, (Instr.build t ps.toArray).run P w = .ok (.agg cs) w) : RR P n W ⟨dst, .build t parts, ty, pos, after, guard⟩ fr L (.agg cs) := .mk fun a w hr _ => by
  have e : (parts.map fun (i, x) => (i, a.eval x)) = ps.toArray := by
    rw [← partsEv_of hr _ _ hp, ← Array.toList_map, Array.toArray_toList]
  simp only [execOp, Sem.run_bind]
  rw [e, hrun w]; rfl
/-- a literal's cells, one an element -/
theorem fill_seq (c0 : Nat → Option (Nat × Nat)) (hc0 : ∀ i, c0 i = some (i, 1)) : ∀ (vs : List Value) (k : Nat) (acc : Array Value), k + vs.length ≤ acc.size → (∀ v ∈ vs, v.cells = #[v]) → Instr.fill c0 acc ((vs.zipIdx k).map fun (v, i) => (i, v)) = some (acc.toList.take k ++ vs ++ acc.toList.drop (k + vs.length)).toArray
  | [], k, acc, h, _ => by simp [Instr.fill]
  | v :: vs, k, acc, h, h1 => by
    simp only [List.length_cons] at h
    have hv := h1 v (by simp)
    rw [List.zipIdx_cons, List.map_cons]
    simp only [Instr.fill, hc0, hv]
    rw [if_neg (by simp; omega)]
    have e : ((#[v] : Array Value).zipIdx.foldl (fun cs (x : Value × Nat) => cs.setIfInBounds (k + x.2) x.1) acc) = acc.setIfInBounds k v := by simp
    rw [e, fill_seq c0 hc0 vs (k + 1) _ (by simp; omega) (fun u hu => h1 u (by simp [hu]))]
    congr 2
    have hA : (acc.toList.take k).length = k := by simp; omega
    have hA1 : (acc.toList.take k ++ [v]).length = k + 1 := by rw [List.length_append, hA]; rfl
    have e2 : acc.toList.set k v = (acc.toList.take k ++ [v]) ++ acc.toList.drop (k + 1) := by
      rw [List.set_eq_take_append_cons_drop, if_pos (by simp; omega)]; simp
    simp only [Array.toList_setIfInBounds, List.length_cons]
    rw [e2, List.take_left' hA1, ← List.drop_drop, List.drop_left' hA1, List.drop_drop]
    simp only [List.append_assoc, List.singleton_append, List.cons_append, List.nil_append]
    rw [show k + 1 + vs.length = k + (vs.length + 1) by omega]
theorem run_litV {t e : TypeId} {bytes : Nat} (hel : El P t e 1 bytes) (vs : List Value) (h1 : ∀ v ∈ vs, v.cells = #[v]) (h0 : 0 < vs.length) (hm : vs.length ≤ 16777216) (w : World) :
    (Instr.buildSlice t vs.length (vs.zipIdx.map fun (v, i) => (i, v)).toArray).run P w = .ok (.slice (some ⟨w.heap.size, 0, none⟩) vs.length vs.length) (w.alloc (.cells vs.toArray e)) := by
  obtain ⟨i, z, ht, hi, hz, hc, _, hzc, _⟩ := hel.ex
  have hfill := fill_seq (fun i => some (i * 1, 1)) (by simp) vs 0 ((Array.range (vs.length * 1)).map (z.cells[· % z.cells.size]!)) (by simp) h1
  simp only [List.take_zero, List.nil_append, Nat.zero_add] at hfill
  rw [List.drop_of_length_le (by simp)] at hfill
  simp only [List.append_nil] at hfill
  have hne : ¬ (vs.length * 1 > 2 ^ 24) := by omega
  have hne2 : ¬ (vs.length * 1 = 0) := by omega
  simp only [Instr.buildSlice, Sem.run_bind, run_underlying ht, Result.andThen_ok, sizeOf, typeInfo, run_program, hi, Sem.run_pure, hc, zeroValue, hz, if_neg hne, if_neg hne2]
  simp only [hfill, newRow]
  simp
theorem TL_litV {t e : TypeId} {bytes m : Nat} {parts : Array (Nat × Operand)} (vs : List Value) [hel : ElC P t e 1 bytes] (hp : partsEv fr parts.toList = some (vs.zipIdx.map fun (v, i) => (i, v))) (hm : vs.length = m) (h0 : Nat.blt 0 m = true) (h1 : ∀ v ∈ vs, v.cells = #[v]) (hs : Nat.ble m 16777216 = true) (hn : Nat.blt d n = true)
    (h : ∀ g, TL P n W ops Q rest ((d, .slice (some ⟨g, 0, none⟩) m m) :: fr) (L ++ [blkO g vs.toArray e])) : TL P n W ops Q (⟨some d, .buildSlice t m parts, ty, pos, after, none⟩ :: rest) fr L := by
  subst hm
  refine TL_lit (fun a w hr => ?_) hn h
  have e : (parts.map fun (i, x) => (i, a.eval x)) = (vs.zipIdx.map fun (v, i) => (i, v)).toArray := by
    rw [← partsEv_of hr _ _ hp, ← Array.toList_map, Array.toArray_toList]
  rw [e]
  exact run_litV hel.el vs h1 (Nat.le_of_ble_eq_true h0) (Nat.le_of_ble_eq_true hs) w
/-- a literal's block, as an own slice -/
theorem Mem.toRow {w : World} {i g m size : Nat} {cs : Array Value} {e : TypeId} (h : Mem W L w) (hi : L[i]? = some (blkO g cs e)) (hc : cs.size = m * size) (hm : m ≤ 140737488355328) : Mem W (L.set i (rowO e size (.slice (some ⟨g, 0, none⟩) m m) m cs.toList)) w :=
  h.turn hi ⟨rfl, rfl, rfl, Nat.le_refl _, fun _ _ _ => rfl⟩ ⟨by simp [hc], .inr ⟨g, m, cs, rfl, Nat.zero_le _, h.get hi, Nat.le_refl _, by unfold maxLen; omega, hc, by rw [List.take_of_length_le (by simp [hc])]⟩⟩ fun k hk => .inl hk
theorem TL_toRow {i g m : Nat} {cs : Array Value} {e : TypeId} (size : Nat) (hi : L[i]? = some (blkO g cs e)) (hc : cs.size = m * size) (hm : m ≤ 140737488355328) (h : TL P n W ops Q rest fr (L.set i (rowO e size (.slice (some ⟨g, 0, none⟩) m m) m cs.toList))) : TL P n W ops Q rest fr L :=
  ⟨fun a w hr hmm => h.go a w hr (hmm.toRow hi hc hm)⟩
/-- 'append(b, s...)' of a text onto own bytes -/
theorem run_append_str {t u ty e : TypeId} (hel : El P t e 1 1) (hu : P.underlying u = some .string) (w : World) {v : Value} {m : Nat} {xs : List Value} (hown : w.ownsRow 0 e 1 v m xs) (l : List UInt8) (hb : m + l.length ≤ 140737488355328) :
    ∃ v' w', (Builtin.append_ #[t, u] ty #[v, str l]).run P w = .ok v' w' ∧ w'.ownsRow 0 e 1 v' (m + l.length) (xs ++ l.map u8v) ∧ w.grownBy w' v.ownBlock ∧ (∀ q, v'.ownBlock = some q → v.ownBlock = some q ∨ w.heap.size ≤ q) := by
  obtain ⟨i, z, ht, hi, hz, hsize, hby, hzs, _⟩ := hel.ex
  have hlen : (ByteArray.mk l.toArray).size = l.length := List.size_toArray
  have hcells : ((ByteArray.mk l.toArray).extract 0 l.length).data.map (fun b => Value.int .u8 b.toNat) = (l.map u8v).toArray := by
    have e1 : (ByteArray.mk l.toArray).extract 0 l.length = ⟨l.toArray⟩ := by apply ByteArray.ext; simp [ByteArray.data_extract]
    rw [e1]; simp [u8v]
  have hfc : ∀ w, (Builtin.firstCells 1 l.length (str l)).run P w = .ok (l.map u8v).toArray w := fun w => by
    simp only [str, Builtin.firstCells, Sem.run_pure, hcells]
  have htk : List.take l.length (List.map (fun b : UInt8 => Value.int IntKind.u8 (b.toNat : Int)) l) = l.map u8v := by rw [List.take_of_length_le (by simp)]; rfl
  have h1 : ∀ x ∈ l.map u8v, x.oneCell' = true := fun x hx => by obtain ⟨b, _, rfl⟩ := List.mem_map.1 hx; rfl
  have hxl : xs.length = m := by have := hown.1; omega
  have grown : ∀ (old : Nat), old < m + l.length → ∀ (row : Option Nat),
      (w.drew.alloc (.cells (xs.toArray ++ (l.map u8v).toArray ++ Builtin.zeroCells z.cells (grownCap w (m + l.length) old e - (m + l.length))) e)).ownsRow 0 e 1
        (.slice (some ⟨w.heap.size, 0, none⟩) (m + l.length) (grownCap w (m + l.length) old e)) (m + l.length) (xs ++ l.map u8v) ∧
      w.grownBy (w.drew.alloc (.cells (xs.toArray ++ (l.map u8v).toArray ++ Builtin.zeroCells z.cells (grownCap w (m + l.length) old e - (m + l.length))) e)) row := by
    intro old ho row
    have hge := grownCap_ge w (m + l.length) old e
    have hcm : grownCap w (m + l.length) old e ≤ maxLen := grownCap_le_maxLen w (m + l.length) old e (by unfold maxLen; omega)
    refine ⟨⟨by simp [hxl], .inr ⟨w.heap.size, _, _, rfl, Nat.zero_le _, heap_alloc_new w.drew _, hge, hcm, ?_, ?_⟩⟩, ⟨rfl, rfl, rfl, by simp, fun k hk _ => Below.heap_alloc w.drew _ k hk⟩⟩
    · simp only [Array.size_append, List.size_toArray, size_zeroCells, hzs, List.length_map, hxl]; omega
    · simp only [Array.toList_append, List.append_assoc]
      rw [← List.append_assoc, Nat.mul_one]
      have : m + l.length = (xs ++ l.map u8v).length := by simp [hxl]
      rw [this]; exact List.take_left
  have h63 : ¬ (9223372036854775807 < ((m : Int) + (l.length : Int))) := by omega
  rcases hown.2 with ⟨rfl, rfl⟩ | ⟨g, cap, cur, rfl, hbg, hg, hnc, hcm, hcs, htake⟩
  · have hx : xs = [] := List.eq_nil_of_length_eq_zero hxl
    subst hx
    by_cases hl0 : l.length = 0
    · have hl : l = [] := List.eq_nil_of_length_eq_zero hl0
      subst hl
      refine ⟨.slice none 0 0, w, ?_, World.ownsRow_nil w 0 e 1, ⟨rfl, rfl, rfl, Nat.le_refl _, fun _ _ _ => rfl⟩, by simp [Value.ownBlock]⟩
      have hz0 : (ByteArray.mk (#[] : Array UInt8)).size = 0 := rfl
      simp [Builtin.append_, run_underlying ht, run_underlying hu, sizeOf, typeInfo, hi, hsize, Builtin.lenOf, str, Builtin.firstCells, hz0]
    · have h48 : ¬ (281474976710656 < Builtin.nextslicecap l.length 0 * i.bytes) := by rw [nextslicecap_zero (by omega), hby]; omega
      have hgr := grown 0 (by omega) (Value.ownBlock (.slice none 0 0))
      simp only [Nat.zero_add, List.nil_append] at hgr
      refine ⟨_, _, ?_, by simpa using hgr.1, hgr.2, fun q hq => .inr (by simp only [Value.ownBlock, Option.some.injEq] at hq; omega)⟩
      have hfc' := hfc w.drew
      unfold str at hfc' ⊢
      have h63' : ¬ (9223372036854775807 < (l.length : Int)) := by omega
      have h48n : Builtin.nextslicecap l.length 0 * i.bytes ≤ 281474976710656 := by omega
      simp [Builtin.append_, run_underlying ht, run_underlying hu, sizeOf, typeInfo, zeroValue, hi, hz, hsize, Builtin.lenOf, hlen, hl0, h63', h48, Question.forced, hfc', newRow, grownCap, Builtin.firstCells, htk]
  · have hst := run_storeCells_at P g m e (l.map u8v) 0 cur w hg
    by_cases hroom : m + l.length ≤ cap
    · have hst := hst (by simp; omega) h1
      simp only [Nat.add_zero, List.length_map] at hst
      refine ⟨_, w.setRow g (cur.toList.take m ++ l.map u8v ++ cur.toList.drop (m + l.length)).toArray, ?_, ⟨by simp [hxl], .inr ⟨g, cap, _, rfl, hbg, setRow_heap w g cur _ e _ hg, hroom, hcm, ?_, ?_⟩⟩, ⟨rfl, rfl, rfl, by simp, fun k _ hk => setRow_other w g k _ (fun e => hk (by simp [Value.ownBlock, e]))⟩, fun q hq => .inl hq⟩
      · have hfc' := hfc w
        unfold str at hfc' ⊢
        simp [Builtin.append_, run_underlying ht, run_underlying hu, sizeOf, typeInfo, hi, hsize, Builtin.lenOf, hlen, hroom, hfc', addr_add, hst, htk]
      · simp; omega
      · rw [Nat.mul_one] at htake
        rw [htake, Nat.mul_one]
        have : m + l.length = (xs ++ l.map u8v).length := by simp [hxl]
        rw [this]; exact List.take_left
    · have holds : ∀ j u, xs[j]? = some u → w.drew.cell? ((⟨g, 0, none⟩ : Addr).add j) = some u := fun j u hj => by
        have := hown.cells (g := g) rfl j u hj
        simpa using this
      have hfo := run_firstCells_some (P := P) w.drew 1 m ⟨g, 0, none⟩ m cap xs (by omega) holds
      have hgr := grown cap (by omega) (Value.ownBlock (.slice (some ⟨g, 0, none⟩) m cap))
      have h48 : ¬ (281474976710656 < Builtin.nextslicecap (m + l.length) cap * i.bytes) := by have := growslice_fits (bytes := 1) (show cap < m + l.length by omega) (by omega); rw [hby]; omega
      refine ⟨_, _, ?_, hgr.1, hgr.2, fun q hq => .inr (by simp only [Value.ownBlock, Option.some.injEq] at hq; omega)⟩
      have hfc' := hfc w.drew
      unfold str at hfc' ⊢
      simp [Builtin.append_, run_underlying ht, run_underlying hu, sizeOf, typeInfo, zeroValue, hi, hz, hsize, Builtin.lenOf, hlen, hroom, h63, h48, Question.forced, hfc', hfo, newRow, grownCap, htk]
      congr 2
      apply Array.ext'
      simp
theorem TL_appstr {t u e : TypeId} {s x : Operand} {i m : Nat} {v : Value} {xs : List Value} {l : List UInt8} [hel : ElC P t e 1 1] [hu : Und P u .string] (hi : L[i]? = some (rowO e 1 v m xs)) (hs : ev fr s = some v) (hx : ev fr x = some (str l)) (hb : m + l.length ≤ 140737488355328) (hn : Nat.blt d n = true)
    (h : ∀ v', TL P n W ops Q rest ((d, v') :: fr) (L.set i (rowO e 1 v' (m + l.length) (xs ++ l.map u8v)))) :
    TL P n W ops Q (⟨some d, .call { callee := .builtin .append, args := #[s, x], argTypes := #[t, u] }, ty, pos, after, none⟩ :: rest) fr L := TL_any rfl fun act w hr hm K hK => by
  obtain ⟨v', w', hrun, h2, h3, h4⟩ := run_append_str (ty := ty) hel.el hu.eq w (hm.get hi : w.ownsRow 0 e 1 v m xs) l hb
  have e' : (execOp act.eval ⟨some d, .call { callee := .builtin .append, args := #[s, x], argTypes := #[t, u] }, ty, pos, after, none⟩).run P w = .ok (.value v') w' := by
    simp only [BigFrame.execOp_builtin, BigFrame.builtin_append, List.map_toArray, List.map_cons, List.map_nil, hr.ev hs, hr.ev hx, Sem.run_bind, hrun, Result.andThen_ok, Sem.run_pure]
  unfold Oper.wp; rw [e']
  exact hK _ _ ((h v').go _ _ (hr.put hn _) (hm.turn hi h3 h2 h4))
/-- a whole block is stored anew -/
theorem TL_storeB {t : TypeId} {p x : Operand} {i g c : Nat} {cs cs' : Array Value} {T : TypeId} {agg : Bool} [hT : TyC P t agg c] (hi : L[i]? = some (blkO g cs T)) (hp : ev fr p = some (.pointer (some ⟨g, 0, none⟩))) (hx : ev fr x = some (.agg cs')) (hv : cs'.size = c) (h1 : cs'.toList.all Value.oneCell' = true)
    (hc : cs.size = c) (h : TL P n W ops Q rest fr (L.set i (blkO g cs' T))) :
    TL P n W ops Q (⟨none, .store t p x, ty, pos, after, none⟩ :: rest) fr L :=
  TL_store hT.ty hi hp hx hv h1 (by omega) (by
    show cs' = (cs.toList.take 0 ++ cs'.toList ++ cs.toList.drop (0 + c)).toArray
    rw [List.drop_of_length_le (by simp [hc])]; simp) h
/-- one cell of a block -/
theorem TL_store1 {t : TypeId} {p x : Operand} {i g off : Nat} {cs : Array Value} {T : TypeId} {agg : Bool} {v : Value} [hT : TyC P t agg 1] (hi : L[i]? = some (blkO g cs T)) (hp : ev fr p = some (.pointer (some ⟨g, off, none⟩))) (hx : ev fr x = some v) (hv : v.cells = #[v]) (h1 : v.oneCell' = true)
    (hc : Nat.blt off cs.size = true) (h : TL P n W ops Q rest fr (L.set i (blkO g (cs.setIfInBounds off v) T))) :
    TL P n W ops Q (⟨none, .store t p x, ty, pos, after, none⟩ :: rest) fr L := by
  have hlt : off < cs.size := Nat.le_of_ble_eq_true hc
  refine TL_store hT.ty hi hp hx (by rw [hv]; rfl) (by rw [hv]; simp [h1]) (by omega) ?_ h
  rw [hv]
  apply Array.ext'
  simp only [Array.toList_setIfInBounds]
  rw [List.set_eq_take_append_cons_drop, if_pos (by simpa using hlt)]; simp
/-- structs held against each other -/
theorem rr_aggeq {t u : TypeId} {x y : Operand} {xs ys : Array Value} {b : Bool} (hx : ev fr x = some (.agg xs)) (hy : ev fr y = some (.agg ys)) (hg : P.eqGuardType P.depth t = false) (h : ∀ w, (Op.equalIn 10000 t (.agg xs) (.agg ys)).run P w = .ok b w) : RR P n W ⟨dst, .binOp .eql t x y u, ty, pos, after, guard⟩ fr L (.bool b) := .mk fun a w hr _ => by
  simp only [execOp, hr.ev hx, hr.ev hy, Sem.run_bind, run_eqGuard_agg w .eql t x y xs ys hg, Result.andThen_ok, run_eql_struct, h w]; rfl
theorem rr_aggne {t u : TypeId} {x y : Operand} {xs ys : Array Value} {b c : Bool} (hx : ev fr x = some (.agg xs)) (hy : ev fr y = some (.agg ys)) (hg : P.eqGuardType P.depth t = false) (h : ∀ w, (Op.equalIn 10000 t (.agg xs) (.agg ys)).run P w = .ok b w) (hc : (!b) = c) : RR P n W ⟨dst, .binOp .neq t x y u, ty, pos, after, guard⟩ fr L (.bool c) := .mk fun a w hr _ => by
  subst hc
  simp only [execOp, hr.ev hx, hr.ev hy, Sem.run_bind, run_eqGuard_agg w .neq t x y xs ys hg, Result.andThen_ok, run_neq_struct, h w]; rfl
/-- results, the first of which lies in memory -/
theorem E_retc2 {fn : Func} {R : Ending → World → Prop} {t u : Tmp} {T : TypeId} {i g c : Nat} {cs : Array Value} {T' : TypeId} {z : Value} [hT : TyC P T true c] (hres : fn.results = #[.cell t T, .tmp u]) (hp : look fr t = some (.pointer (some ⟨g, 0, none⟩))) (hi : L[i]? = some (blkO g cs T')) (hc : cs.size = c) (hz : look fr u = some z)
    (h : ∀ w, Mem W L w → R (.returned (.tuple #[.agg cs, z])) w) : E n W .ret (bodyPost P fn R) fr L :=
  E_ret fun a w hr hmm => ⟨_, by
    have hload := run_loadCells_list (P := P) w ⟨g, 0, none⟩ cs.toList fun j v hj => by rw [addr_add, Nat.zero_add]; exact at_blk hi (by simpa using hj) w hmm
    have hl : (loadCells ⟨g, 0, none⟩ c).run P w = .ok cs w := by rw [← hc]; simpa using hload
    have hv : (loadVar T ⟨g, 0, none⟩).run P w = .ok (.agg cs) w := by simp [loadVar, hT.ty.agg, hT.ty.size, hl]
    simp [results, hres, Array.getD_eq_getD_getElem?, hr.get t _ hp, hr.get u z hz, asAddr, hv], h w hmm⟩
theorem E_retc3 {fn : Func} {R : Ending → World → Prop} {t u s : Tmp} {T : TypeId} {i g c : Nat} {cs : Array Value} {T' : TypeId} {z y : Value} [hT : TyC P T true c] (hres : fn.results = #[.cell t T, .tmp u, .tmp s]) (hp : look fr t = some (.pointer (some ⟨g, 0, none⟩))) (hi : L[i]? = some (blkO g cs T')) (hc : cs.size = c) (hz : look fr u = some z) (hy : look fr s = some y)
    (h : ∀ w, Mem W L w → R (.returned (.tuple #[.agg cs, z, y])) w) : E n W .ret (bodyPost P fn R) fr L :=
  E_ret fun a w hr hmm => ⟨_, by
    have hload := run_loadCells_list (P := P) w ⟨g, 0, none⟩ cs.toList fun j v hj => by rw [addr_add, Nat.zero_add]; exact at_blk hi (by simpa using hj) w hmm
    have hl : (loadCells ⟨g, 0, none⟩ c).run P w = .ok cs w := by rw [← hc]; simpa using hload
    have hv : (loadVar T ⟨g, 0, none⟩).run P w = .ok (.agg cs) w := by simp [loadVar, hT.ty.agg, hT.ty.size, hl]
    simp [results, hres, Array.getD_eq_getD_getElem?, hr.get t _ hp, hr.get u z hz, hr.get s y hy, asAddr, hv], h w hmm⟩
theorem E_retc1 {fn : Func} {R : Ending → World → Prop} {t : Tmp} {T : TypeId} {i g c : Nat} {cs : Array Value} {T' : TypeId} [hT : TyC P T true c] (hres : fn.results = #[.cell t T]) (hp : look fr t = some (.pointer (some ⟨g, 0, none⟩))) (hi : L[i]? = some (blkO g cs T')) (hc : cs.size = c)
    (h : ∀ w, Mem W L w → R (.returned (.agg cs)) w) : E n W .ret (bodyPost P fn R) fr L :=
  E_ret fun a w hr hmm => ⟨_, by
    have hload := run_loadCells_list (P := P) w ⟨g, 0, none⟩ cs.toList fun j v hj => by rw [addr_add, Nat.zero_add]; exact at_blk hi (by simpa using hj) w hmm
    have hl : (loadCells ⟨g, 0, none⟩ c).run P w = .ok cs w := by rw [← hc]; simpa using hload
    have hv : (loadVar T ⟨g, 0, none⟩).run P w = .ok (.agg cs) w := by simp [loadVar, hT.ty.agg, hT.ty.size, hl]
    simp [results, hres, Array.getD_eq_getD_getElem?, hr.get t _ hp, asAddr, hv], h w hmm⟩
end
end Go.Proofs.Ytlojfbnimmdehaa.eng

/- MixV -/
namespace Go.Proofs.Ytlojfbnimmdehaa.eng
open Go.RowKit kit mix
section
variable {P : Program} {ops : Array Oper} {md : Region.Mode} {Q : Exit → Act → World → Prop} {U : World → Prop}
/-- one operation, in whatever form it is walked -/
theorem wpOp_of_list {K : Act → World → Prop} {i : Nat} {o : Oper} {a : Act} {w : World} (hi : ops[i]? = some o) (h : wpList P ops (Exit.then K Q) [o] a w) : wpOp P ops Q i K a w := by
  have key : ∀ r, o.upon P a (wpList P ops (Exit.then K Q) []) (Exit.then K Q) r → o.upon P a K Q r := fun r hr => by
    cases r with
    | ok x w' =>
      cases x <;> first
        | exact hr
        | (refine Calls.mono hr fun e w'' he => ?_; cases e <;> exact he)
        | exact Rows.mono hr fun v w'' he => he
    | halt x w' => cases x <;> exact hr
  unfold wpList at h
  unfold wpOp
  rw [hi]
  simp only
  split
  · rename_i hw
    rw [if_pos hw] at h
    rcases h with h | h
    · exact .inl (key _ h)
    · exact .inr h
  · rename_i hw
    rw [if_neg hw] at h
    exact h
def wpAnyV (P : Program) (md : Region.Mode) (ops : Array Oper) (Q : Exit → Act → World → Prop) (U : World → Prop) : Nat → Array Bool → Act → (World → Prop) → Prop
  | 0, listed, a, S => Region.ready md ops listed = [] ∧ ∀ w, S w → Q .normal a w
  | f + 1, listed, a, S => (Region.ready md ops listed = [] → ∀ w, S w → Q .normal a w) ∧
    ∀ i ∈ Region.ready md ops listed, ∀ w, S w → wpOp P ops Q i (fun a' w' => ∃ S', Closed S' ∧ (∀ x, S' x → U x) ∧ S' w' ∧ wpAnyV P md ops Q U f (listed.setIfInBounds i true) a' S') a w
theorem wpAny_of_V : ∀ (f : Nat) (listed : Array Bool) (a : Act) (S : World → Prop) (w : World), S w → wpAnyV P md ops Q U f listed a S → wpAny P md ops Q f listed a w
  | 0, _, _, _, w, hw, h => ⟨h.1, h.2 w hw⟩
  | f + 1, _, _, _, w, hw, h => ⟨fun h0 => h.1 h0 w hw, fun i hi => wpOp_mono (fun a' w' ⟨S', _, _, hw', h'⟩ => wpAny_of_V f _ a' S' w' hw' h') (h.2 i hi w hw)⟩
theorem wpAnyV_first {i : Nat} {oi : Oper} {v : Value} (hi : ops[i]? = some oi) (hsel : ∀ (j : Nat) (o : Oper) cs b, ops[j]? = some o → o.op ≠ .select cs b)
    (hQ : ∀ c a w, Q (.panic c) (a.put oi.dst v) w → Q (.panic c) a w) :
    ∀ (f : Nat) (listed : Array Bool) (a : Act) (S : World → Prop), Closed S → (∀ x, S x → U x) →
      (∀ j oj, ops[j]? = some oj → j ≠ i → listed.getD j true = false → (∀ e ∈ oj.after, Region.binds md e = true → e.on ≠ i) → oi.apart ops oj = true) →
      i ∈ Region.ready md ops listed → CalmIn P ops U oi v a →
      wpAnyV P md ops Q U f (listed.setIfInBounds i true) (a.put oi.dst v) S → wpAnyV P md ops Q U (f + 1) listed a S := by
  intro f
  induction f with
  | zero =>
    intro listed a S hcl hsu _ hr hy H
    refine ⟨fun h => (by rw [h] at hr; cases hr), fun j hj w hw => ?_⟩
    by_cases hji : j = i
    · subst hji; exact (hy.mono hsu).wpOp hi hcl hw fun w' hw' => ⟨S, hcl, hsu, hw', H⟩
    · have := ready_mono (md := md) hj hji
      rw [H.1] at this; cases this
  | succ f ih =>
    intro listed a S hcl hsu hfree hr hy H
    have hun := (mem_ready.1 hr).1
    refine ⟨fun h => (by rw [h] at hr; cases hr), fun j hj w hw => ?_⟩
    by_cases hji : j = i
    · subst hji; exact (hy.mono hsu).wpOp hi hcl hw fun w' hw' => ⟨S, hcl, hsu, hw', H⟩
    · have h1 := H.2 j (ready_mono hj hji) w hw
      obtain ⟨hjun, oj, hoj, hall⟩ := mem_ready.1 hj
      have hnot : ∀ e ∈ oj.after, Region.binds md e = true → e.on ≠ i := fun e he hb heq => by
        have h1 := hall e he hb
        rw [heq, getD_both hun] at h1
        cases h1
      have h2 := wpOp_calm hoj (hfree j oj hoj hji hjun hnot) (fun cs b => hsel i oi cs b hi) (fun cs b => hsel j oj cs b hoj) hQ hy h1
      have hfree' : ∀ k ok, ops[k]? = some ok → k ≠ i → (listed.setIfInBounds j true).getD k true = false →
          (∀ e ∈ ok.after, Region.binds md e = true → e.on ≠ i) → oi.apart ops ok = true := fun k ok hk hki hun hno => by
        refine hfree k ok hk hki ?_ hno
        by_cases hjk : j = k
        · subst hjk; exact hjun
        · rw [getD_set_ne true hjk] at hun; exact hun
      refine wpOp_mono (fun a' w' h3 => ?_) h2
      obtain ⟨h3, S', hcl', hsub, hw', h4⟩ := h3
      refine ⟨S', hcl', hsub, hw', ih (listed.setIfInBounds j true) a' S' hcl' hsub hfree' (ready_mono hr (Ne.symm hji)) h3 ?_⟩
      rw [Array.setIfInBounds_comm _ _ hji]
      exact h4
/-- the walk, in the chosen order: 'true': a calm operation -/
def wpV (P : Program) (ops : Array Oper) (Q : Exit → Act → World → Prop) (U : World → Prop) : List Bool → List Oper → Act → (World → Prop) → Prop
  | true :: ks, o :: rest, a, S => ∃ v, (if Region.wanted o (yielded ops a.tmps) then ∀ w, U w → calmAt P o a w v else v = undef) ∧ wpV P ops Q U ks rest (a.put o.dst v) S
  | false :: ks, o :: rest, a, S => ∀ w, S w → wpList P ops (Exit.then (fun a' w' => ∃ S', Closed S' ∧ (∀ x, S' x → U x) ∧ S' w' ∧ wpV P ops Q U ks rest a' S') Q) [o] a w
  | _, _, a, S => ∀ w, S w → Q .normal a w
def orderV (md : Region.Mode) (ops : Array Oper) : List (Nat × Bool) → Array Bool → Bool
  | (i, true) :: r, listed => (Region.ready md ops listed).contains i && Region.free md ops listed i && orderV md ops r (listed.setIfInBounds i true)
  | (i, false) :: r, listed => decide (Region.ready md ops listed = [i]) && orderV md ops r (listed.setIfInBounds i true)
  | [], listed => decide (Region.ready md ops listed = [])
theorem wpAnyV_lex (hsel : Region.noSelect ops = true) (hQ : ∀ c a d v w, Q (.panic c) (Act.put a d v) w → Q (.panic c) a w) :
    ∀ (is : List (Nat × Bool)) (l : List Oper) (listed : Array Bool) (a : Act) (S : World → Prop), Closed S → (∀ x, S x → U x) → (∀ (j : Nat), (l[j]? : Option Oper) = (is[j]?).bind fun (p : Nat × Bool) => ops[p.1]?) → l.length = is.length → orderV md ops is listed = true →
    wpV P ops Q U (is.map (·.2)) l a S → wpAnyV P md ops Q U is.length listed a S
  | [], l, listed, a, S, _, _, _, hl, ho, h => by
    have hl0 : l = [] := List.eq_nil_of_length_eq_zero (by simpa using hl)
    subst hl0
    exact ⟨by simpa [orderV] using ho, h⟩
  | (i, b) :: is, [], _, _, _, _, _, _, hl, _, _ => by simp at hl
  | (i, true) :: is, o :: l, listed, a, S, hcl, hsu, hget, hl, ho, h => by
    have h0 : ops[i]? = some o := by have := hget 0; simpa using this.symm
    simp only [orderV, Bool.and_eq_true] at ho
    obtain ⟨⟨hr, hf⟩, ho'⟩ := ho
    have hr' : i ∈ Region.ready md ops listed := by simpa using hr
    obtain ⟨v, hy, hK⟩ := h
    have hy' : CalmIn P ops U o v a := by
      by_cases hw : Region.wanted o (yielded ops a.tmps) = true
      · rw [if_pos hw] at hy; exact .inl ⟨hw, hy⟩
      · rw [if_neg hw] at hy; exact .inr ⟨by simpa using hw, hy⟩
    exact wpAnyV_first h0 (Region.noSelect_spec hsel) (fun c a w => hQ c a o.dst v w) is.length listed a S hcl hsu (Region.free_spec h0 hf) hr' hy'
      (wpAnyV_lex hsel hQ is l _ _ S hcl hsu (fun j => by have := hget (j + 1); simpa using this) (by simpa using hl) ho' hK)
  | (i, false) :: is, o :: l, listed, a, S, hcl, hsu, hget, hl, ho, h => by
    have h0 : ops[i]? = some o := by have := hget 0; simpa using this.symm
    simp only [orderV, Bool.and_eq_true, decide_eq_true_eq] at ho
    obtain ⟨hr, ho'⟩ := ho
    refine ⟨fun h' => (by rw [hr] at h'; cases h'), fun j hj w hw => ?_⟩
    obtain rfl : j = i := by rw [hr] at hj; simpa using hj
    refine wpOp_mono (fun a' w' ⟨S', hcl', hsu', hw', hK⟩ => ⟨S', hcl', hsu', hw', ?_⟩) (wpOp_of_list h0 (h w hw))
    exact wpAnyV_lex hsel hQ is l _ _ S' hcl' hsu' (fun j => by have := hget (j + 1); simpa using this) (by simpa using hl) ho' hK
end
/-- a region's operations in the chosen order -/
structure TV (P : Program) (n : Nat) (W : Base) (ops : Array Oper) (Q : Exit → Act → World → Prop) (L0 : List Own) (ks : List Bool) (l : List Oper) (fr : Fr) (L : List Own) : Prop where
  go : ∀ a, Rep n a fr → wpV P ops Q (Mem W L0) ks l a (Mem W L)
section
variable {P : Program} {n : Nat} {W : Base} {Q : Exit → Act → World → Prop} {fr : Fr} {L L0 : List Own} {ops : Array Oper} {ks : List Bool} {o : Oper} {rest : List Oper} {v : Value} {d : Nat}
def orderB (l : List Oper) (is : List (Nat × Bool)) : Bool := Nat.beq is.length l.length && Region.noSelect l.toArray && orderV .any l.toArray is (Array.replicate l.toArray.size false) && is.all fun p => Nat.blt p.1 l.length
theorem T_order {id : Nat} {l : List Oper} (L0 : List Own) (is : List (Nat × Bool)) (hsub : ∀ w, Mem W L w → Mem W L0 w) (hm : P.follows .mixedOrders = true) (hB : orderB l is = true)
    (hQ : ∀ c a d v w, Q (.panic c) (Act.put a d v) w → Q (.panic c) a w)
    (h : TV P n W l.toArray Q L0 (is.map (·.2)) (is.filterMap fun p => l[p.1]?) fr L) : T P n W (.region id l.toArray true) Q fr L := ⟨fun a w hr hmm => by
  simp only [orderB, Bool.and_eq_true] at hB
  obtain ⟨⟨⟨h1, h2⟩, h3⟩, h4⟩ := hB
  have hlen := Nat.eq_of_beq_eq_true h1
  refine wp_region_any hm ?_
  have hall : ∀ p ∈ is, p.1 < l.length := fun p hp => Nat.le_of_ble_eq_true (List.all_eq_true.1 h4 p hp)
  have hget : ∀ (is : List (Nat × Bool)), (∀ p ∈ is, p.1 < l.length) → ∀ (j : Nat), ((is.filterMap fun p => l[p.1]?)[j]? : Option Oper) = (is[j]?).bind fun (p : Nat × Bool) => l.toArray[p.1]? := by
    intro is
    induction is with
    | nil => intro _ j; simp
    | cons p is ih =>
      intro hp j
      have hp0 := hp p (by simp)
      have e0 : (fun (p : Nat × Bool) => l[p.1]?) p = some l[p.1] := List.getElem?_eq_getElem hp0
      rw [List.filterMap_cons_some (f := fun (p : Nat × Bool) => l[p.1]?) e0]
      cases j with
      | zero => simp [hp0]
      | succ j => simpa using ih (fun q hq => hp q (by simp [hq])) j
  have hlen2 : ∀ (is : List (Nat × Bool)), (∀ p ∈ is, p.1 < l.length) → (is.filterMap fun p => l[p.1]?).length = is.length := by
    intro is
    induction is with
    | nil => intro _; simp
    | cons p is ih =>
      intro hp
      have e0 : (fun (p : Nat × Bool) => l[p.1]?) p = some (l[p.1]'(hp p (by simp))) := List.getElem?_eq_getElem (hp p (by simp))
      rw [List.filterMap_cons_some (f := fun (p : Nat × Bool) => l[p.1]?) e0]
      simp [ih (fun q hq => hp q (by simp [hq]))]
  have hsz : l.toArray.size = is.length := by rw [hlen]; simp
  have := wpAny_of_V (U := Mem W L0) is.length (Array.replicate l.toArray.size false) a (Mem W L) w.drew hmm.drew
    (wpAnyV_lex h2 hQ is _ _ a (Mem W L) (closed_mem W L) hsub (hget is hall) (hlen2 is hall) h3 (h.go a hr))
  rw [← hsz] at this
  exact this⟩
theorem TV_val (hr : RR P n W o fr L0 v) (hg : o.guard = none) (hd : o.dst = some d) (hn : Nat.blt d n = true) (h : TV P n W ops Q L0 ks rest ((d, v) :: fr) L) : TV P n W ops Q L0 (true :: ks) (o :: rest) fr L := ⟨fun a hrep =>
  ⟨v, by rw [if_pos (wanted_none hg)]; intro w hw; unfold calmAt; rw [hr.go a w hrep hw]; exact ⟨rfl, Gr.refl _⟩, by rw [hd]; exact h.go _ (hrep.put hn v)⟩⟩
theorem TV_gval {j e : Nat} {b : Bool} (hr : RR P n W o fr L0 v) (hg : o.guard = some (j, b)) (hj : (ops[j]?).bind (·.dst) = some e) (hl : look fr e = some (.bool b)) (hd : o.dst = some d) (hn : Nat.blt d n = true) (h : TV P n W ops Q L0 ks rest ((d, v) :: fr) L) : TV P n W ops Q L0 (true :: ks) (o :: rest) fr L := ⟨fun a hrep =>
  ⟨v, by rw [if_pos (wanted_yes hrep hg hj hl)]; intro w hw; unfold calmAt; rw [hr.go a w hrep hw]; exact ⟨rfl, Gr.refl _⟩, by rw [hd]; exact h.go _ (hrep.put hn v)⟩⟩
theorem TV_skip {j e : Nat} {b : Bool} {u : Value} (hg : o.guard = some (j, b)) (hj : (ops[j]?).bind (·.dst) = some e) (hl : look fr e = some u) (hu : notB b u = true) (hd : o.dst = some d) (hn : Nat.blt d n = true) (h : TV P n W ops Q L0 ks rest ((d, undef) :: fr) L) : TV P n W ops Q L0 (true :: ks) (o :: rest) fr L := ⟨fun a hrep =>
  ⟨undef, by rw [wanted_no hrep hg hj hl hu]; rfl, by rw [hd]; exact h.go _ (hrep.put hn undef)⟩⟩
theorem TV_call {f : FuncId} {args : Array Value} (he : ∀ a w, Rep n a fr → (execOp a.eval o).run P w = .ok (.enter f args) w) (hc : ∀ w, Mem W L0 w → Calls P f args w (Meets (ret v) w)) (hg : o.guard = none) (hd : o.dst = some d) (hn : Nat.blt d n = true)
    (h : TV P n W ops Q L0 ks rest ((d, v) :: fr) L) : TV P n W ops Q L0 (true :: ks) (o :: rest) fr L := ⟨fun a hrep =>
  ⟨v, by rw [if_pos (wanted_none hg)]; intro w hw; unfold calmAt; rw [he a w hrep]; exact ⟨Gr.refl _, (hc w hw).mono fun _ _ h => of_meets h⟩, by rw [hd]; exact h.go _ (hrep.put hn v)⟩⟩
/-- an operation of any kind, walked as in the text's order -/
theorem TV_do (h : TL P n W ops (Exit.then (fun a' w' => ∃ S', Closed S' ∧ (∀ x, S' x → Mem W L0 x) ∧ S' w' ∧ wpV P ops Q (Mem W L0) ks rest a' S') Q) [o] fr L) : TV P n W ops Q L0 (false :: ks) (o :: rest) fr L := ⟨fun a hrep w hw => h.go a w hrep hw⟩
theorem TV_on {Q' : Exit → Act → World → Prop} {L' : List Own} {fr' : Fr} (hsub : ∀ w, Mem W L' w → Mem W L0 w) (h : TV P n W ops Q L0 ks rest fr' L') : TL P n W ops (Exit.then (fun a' w' => ∃ S', Closed S' ∧ (∀ x, S' x → Mem W L0 x) ∧ S' w' ∧ wpV P ops Q (Mem W L0) ks rest a' S') Q') [] fr' L' :=
  TL_nil ⟨fun a w hr hm => ⟨Mem W L', closed_mem _ _, hsub, hm, h.go a hr⟩⟩
theorem TV_nil (h : E n W .normal Q fr L) : TV P n W ops Q L0 [] [] fr L := ⟨fun a hr w hw => h.go a w hr hw⟩
theorem sub_pick {L' : List Own} (is : List Nat) (hn : is.Nodup) (hl : L' = is.filterMap fun i => L[i]?) : ∀ w, Mem W L w → Mem W L' w := fun w h => h.pick is hn hl
theorem sub_nil : ∀ w, Mem W L w → Mem W [] w := fun w h => ⟨h.low, OwnsP.nil _⟩
theorem TV_valg (hg : o.guard = none) (hr : RR P n W o fr L0 v) (hd : o.dst = some d) (hn : Nat.blt d n = true) (h : TV P n W ops Q L0 ks rest ((d, v) :: fr) L) : TV P n W ops Q L0 (true :: ks) (o :: rest) fr L := TV_val hr hg hd hn h
theorem TV_gvalg {j e : Nat} {b : Bool} (hg : o.guard = some (j, b)) (hj : (ops[j]?).bind (·.dst) = some e) (hl : look fr e = some (.bool b)) (hr : RR P n W o fr L0 v) (hd : o.dst = some d) (hn : Nat.blt d n = true) (h : TV P n W ops Q L0 ks rest ((d, v) :: fr) L) : TV P n W ops Q L0 (true :: ks) (o :: rest) fr L := TV_gval hr hg hj hl hd hn h
end
end Go.Proofs.Ytlojfbnimmdehaa.eng

/- Seq -/
namespace Go.Proofs.Ytlojfbnimmdehaa.eng
open Go.RowKit kit mix
section
variable {α : Type} {f : α → List Value} {c : Nat}
theorem get_el (hc : ∀ a, (f a).length = c) : ∀ (l : List α) (k j : Nat) (h : k < l.length), j < c → (l.flatMap f)[k * c + j]? = (f l[k])[j]?
  | a :: r, 0, j, h, hj => by
    rw [List.flatMap_cons, List.getElem?_append_left (by rw [hc]; omega)]
    simp
  | a :: r, k + 1, j, h, hj => by
    have ih := get_el hc r k j (by simpa using h) hj
    rw [List.flatMap_cons, List.getElem?_append_right (by rw [hc, Nat.succ_mul]; omega), hc]
    simp only [List.getElem_cons_succ]
    rw [← ih, Nat.succ_mul]
    congr 1
    omega
theorem len_el (hc : ∀ a, (f a).length = c) : ∀ (l : List α), (l.flatMap f).length = l.length * c
  | [] => by simp
  | a :: r => by rw [List.flatMap_cons, List.length_append, hc, len_el hc r, List.length_cons, Nat.succ_mul, Nat.add_comm]
theorem at_el (hc : ∀ a, (f a).length = c) {W : World} {L : List Own} {b off : Nat} {l : List α} (h : Rd W b off (l.flatMap f)) {k : Nat} (hk : k < l.length) (j : Nat) (u : Value) (hu : (f l[k])[j]? = some u) : At W L ⟨b, off + k * c + j, none⟩ u := by
  have hj : j < c := by rw [← hc l[k]]; exact (List.getElem?_eq_some_iff.1 hu).1
  rw [Nat.add_assoc]
  exact at_rd h (by rw [get_el hc l k j hk hj]; exact hu)
/-- the same of cells that are known as long as L is -/
theorem at_elL (hc : ∀ a, (f a).length = c) {W : Base} {L : List Own} {b off : Nat} {l : List α} (h : ∀ j u, (l.flatMap f)[j]? = some u → At W L ⟨b, off + j, none⟩ u) {k : Nat} (hk : k < l.length) (j : Nat) (u : Value) (hu : (f l[k])[j]? = some u) : At W L ⟨b, off + k * c + j, none⟩ u := by
  have hj : j < c := by rw [← hc l[k]]; exact (List.getElem?_eq_some_iff.1 hu).1
  rw [Nat.add_assoc]
  exact h _ _ (by rw [get_el hc l k j hk hj]; exact hu)
theorem at_rowel (hc : ∀ a, (f a).length = c) {W : Base} {L : List Own} {i g m cap n size : Nat} {e : TypeId} {l : List α} (hi : L[i]? = some (rowO e size (.slice (some ⟨g, 0, none⟩) m cap) n (l.flatMap f))) {k : Nat} (hk : k < l.length) (j : Nat) (u : Value) (hu : (f l[k])[j]? = some u) : At W L ⟨g, 0 + k * c + j, none⟩ u :=
  at_elL hc (off := 0) (fun q x hq => by rw [Nat.zero_add]; exact at_row hi hq) hk j u hu
end
/-- the place of the first one that is wanted, or -1 -/
def idxF {α : Type} (p : α → Bool) (l : List α) : Int := match l.findIdx? p with | some i => i | none => -1
theorem idxF_some {α : Type} {p : α → Bool} {l : List α} {i : Nat} (hi : i < l.length) (h : p l[i] = true) (hb : ∀ j (hj : j < l.length), j < i → p l[j] = false) : idxF p l = i := by
  have : l.findIdx? p = some i := List.findIdx?_eq_some_iff_getElem.2 ⟨hi, h, fun j hji => by simpa using hb j (by omega) hji⟩
  simp [idxF, this]
theorem idxF_none {α : Type} {p : α → Bool} {l : List α} (hb : ∀ j (hj : j < l.length), p l[j] = false) : idxF p l = -1 := by
  have : l.findIdx? p = none := List.findIdx?_eq_none_iff.2 fun x hx => by
    obtain ⟨j, hj, rfl⟩ := List.mem_iff_getElem.1 hx
    exact hb j hj
  simp [idxF, this]
theorem idxF_any {α : Type} (p : α → Bool) (l : List α) : decide (0 ≤ idxF p l) = l.any p := by
  unfold idxF
  cases e : l.findIdx? p with
  | none =>
    have := List.findIdx?_eq_none_iff.1 e
    have h2 : l.any p = false := by
      rw [List.any_eq_false]; intro x hx; simp [this x hx]
    rw [h2]; rfl
  | some i =>
    obtain ⟨h1, h2, _⟩ := List.findIdx?_eq_some_iff_getElem.1 e
    have h3 : l.any p = true := List.any_eq_true.2 ⟨l[i], List.getElem_mem h1, h2⟩
    rw [h3]
    simp
theorem idxF_range {α : Type} (p : α → Bool) (l : List α) : -1 ≤ idxF p l ∧ idxF p l < l.length ∨ idxF p l = -1 := by
  unfold idxF
  cases e : l.findIdx? p with
  | none => right; rfl
  | some i =>
    obtain ⟨h1, h2, _⟩ := List.findIdx?_eq_some_iff_getElem.1 e
    left; simp only; omega
section
variable {P : Program} {n : Nat} {W : Base} {fr : Fr} {L : List Own} {Q : Exit → Act → World → Prop} {ops : Array Oper} {rest : List Oper} {d : Nat} {dst : Option Tmp} {ty : TypeId} {pos : String} {after : Array Edge} {guard : Option (Nat × Bool)}
/-- a slice held against nil -/
theorem rr_slnil {t e u : TypeId} {x y : Operand} {a : Option Addr} {m c : Nat} {b : Bool} (ht : P.underlying t = some (.slice e)) (hx : ev fr x = some (.slice a m c)) (hy : ev fr y = some (.slice none 0 0)) (hb : a.isNone = b) : RR P n W ⟨dst, .binOp .eql t x y u, ty, pos, after, guard⟩ fr L (.bool b) := .mk fun ac w hr _ => by
  subst hb
  have e1 : (eqGuard .eql t x y (.slice a m c) (.slice none 0 0)).run P w = .ok () w := rfl
  simp [execOp, hr.ev hx, hr.ev hy, e1, Go.Lib.run_eql_slice_nil w t e a m c 0 0 ht]
/-- a literal of no elements -/
theorem TL_lit0 {t e : TypeId} {c bytes : Nat} [hel : ElC P t e c bytes] (hn : Nat.blt d n = true)
    (h : ∀ g, TL P n W ops Q rest ((d, .slice (some ⟨g, 0, none⟩) 0 0) :: fr) (L ++ [rowO e c (.slice (some ⟨g, 0, none⟩) 0 0) 0 []])) : TL P n W ops Q (⟨some d, .buildSlice t 0 #[], ty, pos, after, none⟩ :: rest) fr L := TL_any rfl fun a w hr hm K hK => by
  obtain ⟨i, z, ht, hi, hz, hc, _, hzc, h0⟩ := hel.el.ex
  have e' : (execOp a.eval ⟨some d, .buildSlice t 0 #[], ty, pos, after, none⟩).run P w = .ok (.value (.slice (some ⟨w.heap.size, 0, none⟩) 0 0)) (w.alloc (.cells #[] e)) := by
    have hne : ¬ (0 * c > 2 ^ 24) := by omega
    simp [execOp, Instr.buildSlice, run_underlying ht, sizeOf, typeInfo, hi, hc, zeroValue, hz, Instr.fill, newRow]
    have e0 : Array.range 0 = #[] := by simp
    rw [e0, Array.map_empty]
  unfold Oper.wp; rw [e']
  exact hK _ _ ((h w.heap.size).go _ _ (hr.put hn _) (hm.append (gr_alloc w _) (Owns.one (World.ownsRow_made w #[] 0 (Nat.zero_le _) (by decide) (by simp)) fun k hk => by
    have : w.heap.size = k := Option.some.inj hk
    omega)))
/-- what is read as a slice is appended to an own one -/
theorem TL_appSl {t e : TypeId} {s x : Operand} {i size bytes m k : Nat} {v v2 : Value} {xs ys : List Value} [hel : ElC P t e size bytes] (hi : L[i]? = some (rowO e size v m xs)) (hx2 : SlL W L v2 k ys) (hs : ev fr s = some v) (hx : ev fr x = some v2) (hk : ys.length = k * size)
    (h1 : ∀ u ∈ ys, u.oneCell' = true) (h63 : m + k ≤ 140737488355328) (hb : (m + k) * bytes ≤ 140737488355328) (hn : Nat.blt d n = true)
    (h : ∀ v', TL P n W ops Q rest ((d, v') :: fr) (L.set i (rowO e size v' (m + k) (xs ++ ys)))) :
    TL P n W ops Q (⟨some d, .call { callee := .builtin .append, args := #[s, x], argTypes := #[t, t] }, ty, pos, after, none⟩ :: rest) fr L := ⟨fun a w hr hm => by
  obtain ⟨base, cap, rfl, hc1, hc2, hrd⟩ := hx2 w hm
  have hset : ys = [] → L.set i (rowO e size v (m + 0) (xs ++ [])) = L := fun _ => by
    rw [List.append_nil, Nat.add_zero]
    apply List.ext_getElem?
    intro q
    by_cases hq : i = q
    · subst hq
      rw [List.getElem?_set_self (List.getElem?_eq_some_iff.1 hi).1, hi]
    · rw [List.getElem?_set_ne hq]
  cases base with
  | none =>
    have hk0 : k = 0 := by
      rcases Nat.eq_zero_or_pos k with h | h
      · exact h
      · obtain ⟨b, off, h, _⟩ := hrd h; cases h
    subst hk0
    have hy : ys = [] := List.eq_nil_of_length_eq_zero (by rw [hk]; simp)
    subst hy
    have h2 := h v
    rw [hset rfl] at h2
    exact (TL_append0 hel.el hi hs hx hn h2).go a w hr hm
  | some p =>
    have hrd' : ∀ j u, ys[j]? = some u → w.cell? (p.add j) = some u := fun j u hj => by
      obtain ⟨b, off, hb, hr⟩ := hrd (by
        rcases Nat.eq_zero_or_pos k with h | h
        · subst h
          have := (List.getElem?_eq_some_iff.1 hj).1
          rw [hk] at this; simp at this
        · exact h)
      simp only [Option.some.injEq] at hb
      subst hb
      rw [addr_add]; exact hr j u hj
    exact TL_append_at (c := cap) hel.el hi hs hx hrd' hk h1 h63 hb hn h hr hm⟩
/-- an own slice's value is one cell -/
theorem TL_slv {i size m : Nat} {e : TypeId} {v : Value} {xs : List Value} (hi : L[i]? = some (rowO e size v m xs)) (h : v.cells = #[v] → v.oneCell' = true → TL P n W ops Q rest fr L) : TL P n W ops Q rest fr L := ⟨fun a w hr hm => by
  have h1 : w.ownsRow 0 e size v m xs := hm.get hi
  rcases h1.2 with ⟨hv, _⟩ | ⟨g, cap, cur, hv, _⟩
  · exact (h (by rw [hv]; rfl) (by rw [hv]; rfl)).go a w hr hm
  · exact (h (by rw [hv]; rfl) (by rw [hv]; rfl)).go a w hr hm⟩
/-- 's[i:j]' of a slice -/
def subV (base : Option Addr) (cap c i j : Nat) : Value := .slice (if cap = i then base else base.map (fun (q : Addr) => q.add (i * c))) (j - i) (cap - i)
theorem rr_slgen {t e : TypeId} {x : Operand} {lo hi : Option Operand} {agg : Bool} {c i j len cap : Nat} {base : Option Addr} (ht : P.underlying t = some (.slice e)) (he : Ty P e agg c) (hx : ev fr x = some (.slice base len cap))
    (hlo : match lo with | none => i = 0 | some z => ∃ k, ev fr z = some (.int k (i : Int))) (hhi : match hi with | none => j = len | some z => ∃ k, ev fr z = some (.int k (j : Int))) (h1 : i ≤ j) (h2 : j ≤ cap) :
    RR P n W ⟨dst, .slice t x lo hi none, ty, pos, after, guard⟩ fr L (subV base cap c i j) := .mk fun a w hr _ => by
  have e0 : (0 : Int) ≤ (i : Int) := by omega
  have hb : ∀ (k : IntKind) (p q : Nat) (cd : BoundsCode), p ≤ q → (Instr.sliceBound (.int k (p : Int)) q cd).run P w = .ok p w := fun k p q cd h => by
    have : (0 : Int) ≤ (p : Int) ∧ (p : Int) ≤ (q : Int) := by omega
    simp [Instr.sliceBound, asIntOf, this]
  unfold subV
  cases lo <;> cases hi
  · simp only at hlo hhi
    subst hlo hhi
    simp [execOp, hr.ev hx, Instr.sliceAt, Instr.slice, run_underlying ht, Instr.sliceBounds, he.size]
  · obtain ⟨k, hk⟩ := hhi
    simp only at hlo
    subst hlo
    simp [execOp, hr.ev hx, hr.ev hk, Instr.sliceAt, Instr.slice, run_underlying ht, Instr.sliceBounds, he.size, hb k j cap _ h2]
  · obtain ⟨k, hk⟩ := hlo
    simp only at hhi
    subst hhi
    simp [execOp, hr.ev hx, hr.ev hk, Instr.sliceAt, Instr.slice, run_underlying ht, Instr.sliceBounds, he.size, hb k i j _ h1]
  · obtain ⟨k, hk⟩ := hlo
    obtain ⟨k', hk'⟩ := hhi
    simp [execOp, hr.ev hx, hr.ev hk, hr.ev hk', Instr.sliceAt, Instr.slice, run_underlying ht, Instr.sliceBounds, he.size, hb k i j _ h1, hb k' j cap _ h2]
theorem rr_slsub {t e : TypeId} {x z z' : Operand} {agg : Bool} {c i j len cap : Nat} {base : Option Addr} {k k' : IntKind} (ht : P.underlying t = some (.slice e)) (he : Ty P e agg c) (hx : ev fr x = some (.slice base len cap)) (hz : ev fr z = some (.int k (i : Int))) (hz' : ev fr z' = some (.int k' (j : Int))) (h1 : i ≤ j) (h2 : j ≤ cap) :
    RR P n W ⟨dst, .slice t x (some z) (some z') none, ty, pos, after, guard⟩ fr L (subV base cap c i j) := rr_slgen (lo := some z) (hi := some z') ht he hx ⟨k, hz⟩ ⟨k', hz'⟩ h1 h2
theorem rr_slfrom {t e : TypeId} {x z : Operand} {agg : Bool} {c i len cap : Nat} {base : Option Addr} {k : IntKind} (ht : P.underlying t = some (.slice e)) (he : Ty P e agg c) (hx : ev fr x = some (.slice base len cap)) (hz : ev fr z = some (.int k (i : Int))) (h1 : i ≤ len) (h2 : len ≤ cap) :
    RR P n W ⟨dst, .slice t x (some z) none none, ty, pos, after, guard⟩ fr L (subV base cap c i len) := rr_slgen (lo := some z) (hi := none) ht he hx ⟨k, hz⟩ rfl h1 h2
theorem rr_slupto {t e : TypeId} {x z : Operand} {agg : Bool} {c j len cap : Nat} {base : Option Addr} {k : IntKind} (ht : P.underlying t = some (.slice e)) (he : Ty P e agg c) (hx : ev fr x = some (.slice base len cap)) (hz : ev fr z = some (.int k (j : Int))) (h2 : j ≤ cap) :
    RR P n W ⟨dst, .slice t x none (some z) none, ty, pos, after, guard⟩ fr L (subV base cap c 0 j) := rr_slgen (lo := none) (hi := some z) ht he hx rfl ⟨k, hz⟩ (Nat.zero_le _) h2
theorem rr_min3 {t u s : TypeId} {x y z : Operand} {m m' m2 r : Int} (hx : ev fr x = some (.int .i64 m)) (hy : ev fr y = some (.int .i64 m')) (hz : ev fr z = some (.int .i64 m2)) (h : min m (min m' m2) = r) : RR P n W ⟨dst, .call { callee := .builtin .min, args := #[x, y, z], argTypes := #[t, u, s] }, ty, pos, after, guard⟩ fr L (.int .i64 r) := .mk fun a w hr _ => by
  subst h
  have h1 := hr.ev hx
  have h2 := hr.ev hy
  have h3 := hr.ev hz
  have e : ∀ a b : Int, (if b < a then b else a) = min a b := fun a b => by split <;> omega
  simp [BigFrame.execOp_builtin, BigFrame.builtin_min, h1, h2, h3, Builtin.min_, Builtin.min2, e, Int.min_assoc]
theorem rr_max3 {t u s : TypeId} {x y z : Operand} {m m' m2 r : Int} (hx : ev fr x = some (.int .i64 m)) (hy : ev fr y = some (.int .i64 m')) (hz : ev fr z = some (.int .i64 m2)) (h : max m (max m' m2) = r) : RR P n W ⟨dst, .call { callee := .builtin .max, args := #[x, y, z], argTypes := #[t, u, s] }, ty, pos, after, guard⟩ fr L (.int .i64 r) := .mk fun a w hr _ => by
  subst h
  have h1 := hr.ev hx
  have h2 := hr.ev hy
  have h3 := hr.ev hz
  have e : ∀ a b : Int, (if a < b then b else a) = max a b := fun a b => by split <;> omega
  simp [BigFrame.execOp_builtin, BigFrame.builtin_max, h1, h2, h3, Builtin.max_, Builtin.max2, e, Int.max_assoc]
/-- a part of a slice that can be read -/
theorem sl_sub {α : Type} {f : α → List Value} {c : Nat} (hc : ∀ a, (f a).length = c) {w : World} {base : Option Addr} {cap : Nat} {l : List α} (h : Sl w (.slice base l.length cap) l.length (l.flatMap f)) {i j : Nat} (h1 : i ≤ j) (h2 : j ≤ l.length) :
    Sl w (subV base cap c i j) ((l.drop i).take (j - i)).length (((l.drop i).take (j - i)).flatMap f) := by
  obtain ⟨b, cp, he, k1, k2, k3⟩ := h
  simp only [Value.slice.injEq, true_and] at he
  obtain ⟨rfl, rfl⟩ := he
  have hlen : ((l.drop i).take (j - i)).length = j - i := by simp; omega
  refine ⟨_, cap - i, by rw [hlen]; rfl, by rw [hlen]; omega, by omega, fun h0 => ?_⟩
  rw [hlen] at h0
  obtain ⟨b, off, rfl, hr⟩ := k3 (by omega)
  refine ⟨b, off + i * c, by rw [if_neg (by omega), Option.map_some, addr_add], fun q u hq => ?_⟩
  have e : l.flatMap f = (l.take i).flatMap f ++ ((l.drop i).take (j - i)).flatMap f ++ ((l.drop i).drop (j - i)).flatMap f := by
    rw [← List.flatMap_append, ← List.flatMap_append, List.append_assoc, List.take_append_drop, List.take_append_drop]
  have hl1 : ((l.take i).flatMap f).length = i * c := by rw [len_el hc, List.length_take, Nat.min_eq_left (by omega)]
  have := hr (i * c + q) u (by
    rw [e, List.append_assoc, List.getElem?_append_right (by omega), hl1, Nat.add_sub_cancel_left, List.getElem?_append_left (List.getElem?_eq_some_iff.1 hq).1]
    exact hq)
  rw [Nat.add_assoc]; exact this
/-- what an own slice is -/
theorem TL_rowv {i size m : Nat} {e : TypeId} {v : Value} {xs : List Value} (hi : L[i]? = some (rowO e size v m xs)) (h : ∀ base cap, v = .slice base m cap → m ≤ cap → cap ≤ 9223372036854775807 → TL P n W ops Q rest fr L) : TL P n W ops Q rest fr L := ⟨fun a w hr hm => by
  have h1 : w.ownsRow 0 e size v m xs := hm.get hi
  obtain ⟨base, cap, hv, hc1, hc2, _⟩ := Sl.of_own h1
  exact (h base cap hv hc1 (by unfold maxLen at hc2; omega)).go a w hr hm⟩
theorem T_rowv {c : Code} {i size m : Nat} {e : TypeId} {v : Value} {xs : List Value} (hi : L[i]? = some (rowO e size v m xs)) (h : ∀ base cap, v = .slice base m cap → m ≤ cap → cap ≤ 9223372036854775807 → T P n W c Q fr L) : T P n W c Q fr L := ⟨fun a w hr hm => by
  have h1 : w.ownsRow 0 e size v m xs := hm.get hi
  obtain ⟨base, cap, hv, hc1, hc2, _⟩ := Sl.of_own h1
  exact (h base cap hv hc1 (by unfold maxLen at hc2; omega)).go a w hr hm⟩
theorem T_slv {c : Code} {i size m : Nat} {e : TypeId} {v : Value} {xs : List Value} (hi : L[i]? = some (rowO e size v m xs)) (h : v.cells = #[v] → v.oneCell' = true → T P n W c Q fr L) : T P n W c Q fr L := ⟨fun a w hr hm => by
  have h1 : w.ownsRow 0 e size v m xs := hm.get hi
  obtain ⟨base, cap, hv, _⟩ := Sl.of_own h1
  exact (h (by rw [hv]; rfl) (by rw [hv]; rfl)).go a w hr hm⟩
/-- closures: what is captured, evaluated -/
def opsEv (fr : Fr) : List Operand → Option (List Value)
  | [] => some []
  | x :: r => match ev fr x, opsEv fr r with | some v, some l => some (v :: l) | _, _ => none
theorem opsEv_of {a : Act} (hr : Rep n a fr) : ∀ (l : List Operand) (vs : List Value), opsEv fr l = some vs → l.map a.eval = vs
  | [], vs, h => by simp only [opsEv, Option.some.injEq] at h; subst h; rfl
  | x :: r, vs, h => by
    simp only [opsEv] at h
    split at h
    · rename_i v l h1 h2
      simp only [Option.some.injEq] at h; subst h
      simp [hr.ev h1, opsEv_of hr r l h2]
    · cases h
theorem rr_func {fn : Fn} {first cap : Array Operand} {vs us : List Value} (h1 : opsEv fr first.toList = some vs) (h2 : opsEv fr cap.toList = some us) : RR P n W ⟨dst, .makeFunc fn first cap, ty, pos, after, guard⟩ fr L (.func fn vs.toArray us.toArray) := .mk fun a w hr _ => by
  have e1 : first.map a.eval = vs.toArray := by rw [← opsEv_of hr _ _ h1, ← Array.toList_map, Array.toArray_toList]
  have e2 : cap.map a.eval = us.toArray := by rw [← opsEv_of hr _ _ h2, ← Array.toList_map, Array.toArray_toList]
  simp only [execOp, e1, e2]
  rfl
end
end Go.Proofs.Ytlojfbnimmdehaa.eng

/- MixW -/
namespace Go.Proofs.Ytlojfbnimmdehaa.eng
open Go.RowKit kit mix
inductive Ord where
  | done
  | calm (i : Nat) (t : Ord)
  | one (i : Nat) (t : Ord)
  | two (i : Nat) (t : Ord) (j : Nat) (u : Ord)
  | three (i : Nat) (t : Ord) (j : Nat) (u : Ord) (k : Nat) (v : Ord)
def Ord.size : Ord → Nat
  | .done => 0
  | .calm _ t => t.size + 1
  | .one _ t => t.size + 1
  | .two _ t _ _ => t.size + 1
  | .three _ t _ _ _ _ => t.size + 1
section
variable {P : Program} {ops : Array Oper} {md : Region.Mode} {Q : Exit → Act → World → Prop} {U : World → Prop}
def wpO (P : Program) (ops : Array Oper) (Q : Exit → Act → World → Prop) (U : World → Prop) : Ord → Act → (World → Prop) → Prop
  | .calm i t, a, S => ∃ o v, ops[i]? = some o ∧ (if Region.wanted o (yielded ops a.tmps) then ∀ w, U w → calmAt P o a w v else v = undef) ∧ wpO P ops Q U t (a.put o.dst v) S
  | .one i t, a, S => ∃ o, ops[i]? = some o ∧ ∀ w, S w → wpList P ops (Exit.then (fun a' w' => ∃ S', Closed S' ∧ (∀ x, S' x → U x) ∧ S' w' ∧ wpO P ops Q U t a' S') Q) [o] a w
  | .two i t j u, a, S => (∃ o, ops[i]? = some o ∧ ∀ w, S w → wpList P ops (Exit.then (fun a' w' => ∃ S', Closed S' ∧ (∀ x, S' x → U x) ∧ S' w' ∧ wpO P ops Q U t a' S') Q) [o] a w) ∧
      (∃ o, ops[j]? = some o ∧ ∀ w, S w → wpList P ops (Exit.then (fun a' w' => ∃ S', Closed S' ∧ (∀ x, S' x → U x) ∧ S' w' ∧ wpO P ops Q U u a' S') Q) [o] a w)
  | .three i t j u k v, a, S => (∃ o, ops[i]? = some o ∧ ∀ w, S w → wpList P ops (Exit.then (fun a' w' => ∃ S', Closed S' ∧ (∀ x, S' x → U x) ∧ S' w' ∧ wpO P ops Q U t a' S') Q) [o] a w) ∧
      (∃ o, ops[j]? = some o ∧ ∀ w, S w → wpList P ops (Exit.then (fun a' w' => ∃ S', Closed S' ∧ (∀ x, S' x → U x) ∧ S' w' ∧ wpO P ops Q U u a' S') Q) [o] a w) ∧
      (∃ o, ops[k]? = some o ∧ ∀ w, S w → wpList P ops (Exit.then (fun a' w' => ∃ S', Closed S' ∧ (∀ x, S' x → U x) ∧ S' w' ∧ wpO P ops Q U v a' S') Q) [o] a w)
  | .done, a, S => ∀ w, S w → Q .normal a w
def orderO (md : Region.Mode) (ops : Array Oper) : Ord → Array Bool → Bool
  | .calm i t, listed => (Region.ready md ops listed).contains i && Region.free md ops listed i && orderO md ops t (listed.setIfInBounds i true)
  | .one i t, listed => decide (Region.ready md ops listed = [i]) && orderO md ops t (listed.setIfInBounds i true)
  | .two i t j u, listed => decide (Region.ready md ops listed = [i, j]) && Nat.beq t.size u.size && orderO md ops t (listed.setIfInBounds i true) && orderO md ops u (listed.setIfInBounds j true)
  | .three i t j u k v, listed => decide (Region.ready md ops listed = [i, j, k]) && Nat.beq t.size u.size && Nat.beq t.size v.size && orderO md ops t (listed.setIfInBounds i true) && orderO md ops u (listed.setIfInBounds j true) && orderO md ops v (listed.setIfInBounds k true)
  | .done, listed => decide (Region.ready md ops listed = [])
theorem wpAnyV_ord (hsel : Region.noSelect ops = true) (hQ : ∀ c a d v w, Q (.panic c) (Act.put a d v) w → Q (.panic c) a w) :
    ∀ (t : Ord) (listed : Array Bool) (a : Act) (S : World → Prop), Closed S → (∀ x, S x → U x) → orderO md ops t listed = true →
    wpO P ops Q U t a S → wpAnyV P md ops Q U t.size listed a S
  | .done, listed, a, S, _, _, ho, h => ⟨by simpa [orderO] using ho, h⟩
  | .calm i t, listed, a, S, hcl, hsu, ho, h => by
    simp only [orderO, Bool.and_eq_true] at ho
    obtain ⟨⟨hr, hf⟩, ho'⟩ := ho
    have hr' : i ∈ Region.ready md ops listed := by simpa using hr
    obtain ⟨o, v, h0, hy, hK⟩ := h
    have hy' : CalmIn P ops U o v a := by
      by_cases hw : Region.wanted o (yielded ops a.tmps) = true
      · rw [if_pos hw] at hy; exact .inl ⟨hw, hy⟩
      · rw [if_neg hw] at hy; exact .inr ⟨by simpa using hw, hy⟩
    exact wpAnyV_first h0 (Region.noSelect_spec hsel) (fun c a w => hQ c a o.dst v w) t.size listed a S hcl hsu (Region.free_spec h0 hf) hr' hy'
      (wpAnyV_ord hsel hQ t _ _ S hcl hsu ho' hK)
  | .one i t, listed, a, S, hcl, hsu, ho, h => by
    simp only [orderO, Bool.and_eq_true, decide_eq_true_eq] at ho
    obtain ⟨hr, ho'⟩ := ho
    obtain ⟨o, h0, h⟩ := h
    refine ⟨fun h' => (by rw [hr] at h'; cases h'), fun j hj w hw => ?_⟩
    obtain rfl : j = i := by rw [hr] at hj; simpa using hj
    refine wpOp_mono (fun a' w' ⟨S', hcl', hsu', hw', hK⟩ => ⟨S', hcl', hsu', hw', ?_⟩) (wpOp_of_list h0 (h w hw))
    exact wpAnyV_ord hsel hQ t _ _ S' hcl' hsu' ho' hK
  | .two i t j u, listed, a, S, hcl, hsu, ho, h => by
    simp only [orderO, Bool.and_eq_true, decide_eq_true_eq] at ho
    obtain ⟨⟨⟨hr, hs⟩, ho1⟩, ho2⟩ := ho
    obtain ⟨⟨o, h0, h⟩, ⟨o2, h02, h2⟩⟩ := h
    have hs := Nat.eq_of_beq_eq_true hs
    refine ⟨fun h' => (by rw [hr] at h'; cases h'), fun q hq w hw => ?_⟩
    rw [hr] at hq
    simp only [List.mem_cons, List.not_mem_nil, or_false] at hq
    rcases hq with rfl | rfl
    · refine wpOp_mono (fun a' w' ⟨S', hcl', hsu', hw', hK⟩ => ⟨S', hcl', hsu', hw', ?_⟩) (wpOp_of_list h0 (h w hw))
      exact wpAnyV_ord hsel hQ t _ _ S' hcl' hsu' ho1 hK
    · refine wpOp_mono (fun a' w' ⟨S', hcl', hsu', hw', hK⟩ => ⟨S', hcl', hsu', hw', ?_⟩) (wpOp_of_list h02 (h2 w hw))
      rw [hs]
      exact wpAnyV_ord hsel hQ u _ _ S' hcl' hsu' ho2 hK
  | .three i t j u k v, listed, a, S, hcl, hsu, ho, h => by
    simp only [orderO, Bool.and_eq_true, decide_eq_true_eq] at ho
    obtain ⟨⟨⟨⟨⟨hr, hs⟩, hs3⟩, ho1⟩, ho2⟩, ho3⟩ := ho
    obtain ⟨⟨o, h0, h⟩, ⟨o2, h02, h2⟩, ⟨o3, h03, h3⟩⟩ := h
    have hs := Nat.eq_of_beq_eq_true hs
    have hs3 := Nat.eq_of_beq_eq_true hs3
    refine ⟨fun h' => (by rw [hr] at h'; cases h'), fun q hq w hw => ?_⟩
    rw [hr] at hq
    simp only [List.mem_cons, List.not_mem_nil, or_false] at hq
    rcases hq with rfl | rfl | rfl
    · refine wpOp_mono (fun a' w' ⟨S', hcl', hsu', hw', hK⟩ => ⟨S', hcl', hsu', hw', ?_⟩) (wpOp_of_list h0 (h w hw))
      exact wpAnyV_ord hsel hQ t _ _ S' hcl' hsu' ho1 hK
    · refine wpOp_mono (fun a' w' ⟨S', hcl', hsu', hw', hK⟩ => ⟨S', hcl', hsu', hw', ?_⟩) (wpOp_of_list h02 (h2 w hw))
      rw [hs]
      exact wpAnyV_ord hsel hQ u _ _ S' hcl' hsu' ho2 hK
    · refine wpOp_mono (fun a' w' ⟨S', hcl', hsu', hw', hK⟩ => ⟨S', hcl', hsu', hw', ?_⟩) (wpOp_of_list h03 (h3 w hw))
      rw [hs3]
      exact wpAnyV_ord hsel hQ v _ _ S' hcl' hsu' ho3 hK
end
structure TW (P : Program) (n : Nat) (W : Base) (ops : Array Oper) (Q : Exit → Act → World → Prop) (L0 : List Own) (t : Ord) (fr : Fr) (L : List Own) : Prop where
  go : ∀ a, Rep n a fr → wpO P ops Q (Mem W L0) t a (Mem W L)
section
variable {P : Program} {n : Nat} {W : Base} {Q : Exit → Act → World → Prop} {fr : Fr} {L L0 : List Own} {ops : Array Oper} {o : Oper} {t u : Ord} {i j : Nat} {v : Value} {d : Nat}
def ordB (l : List Oper) (t : Ord) : Bool := Nat.beq t.size l.length && Region.noSelect l.toArray && orderO .any l.toArray t (Array.replicate l.toArray.size false)
theorem T_ord {id : Nat} {l : List Oper} (L0 : List Own) (t : Ord) (hsub : ∀ w, Mem W L w → Mem W L0 w) (hm : P.follows .mixedOrders = true) (hB : ordB l t = true)
    (hQ : ∀ c a d v w, Q (.panic c) (Act.put a d v) w → Q (.panic c) a w)
    (h : TW P n W l.toArray Q L0 t fr L) : T P n W (.region id l.toArray true) Q fr L := ⟨fun a w hr hmm => by
  simp only [ordB, Bool.and_eq_true] at hB
  obtain ⟨⟨h1, h2⟩, h3⟩ := hB
  have hlen := Nat.eq_of_beq_eq_true h1
  refine wp_region_any hm ?_
  have hsz : l.toArray.size = t.size := by rw [hlen]; simp
  have := wpAny_of_V (U := Mem W L0) t.size (Array.replicate l.toArray.size false) a (Mem W L) w.drew hmm.drew
    (wpAnyV_ord h2 hQ t _ a (Mem W L) (closed_mem W L) hsub h3 (h.go a hr))
  rw [← hsz] at this
  exact this⟩
theorem TW_val (ho : ops[i]? = some o) (hr : RR P n W o fr L0 v) (hg : o.guard = none) (hd : o.dst = some d) (hn : Nat.blt d n = true) (h : TW P n W ops Q L0 t ((d, v) :: fr) L) : TW P n W ops Q L0 (.calm i t) fr L := ⟨fun a hrep =>
  ⟨o, v, ho, by rw [if_pos (wanted_none hg)]; intro w hw; unfold calmAt; rw [hr.go a w hrep hw]; exact ⟨rfl, Gr.refl _⟩, by rw [hd]; exact h.go _ (hrep.put hn v)⟩⟩
theorem TW_gval {q e : Nat} {b : Bool} (ho : ops[i]? = some o) (hr : RR P n W o fr L0 v) (hg : o.guard = some (q, b)) (hj : (ops[q]?).bind (·.dst) = some e) (hl : look fr e = some (.bool b)) (hd : o.dst = some d) (hn : Nat.blt d n = true) (h : TW P n W ops Q L0 t ((d, v) :: fr) L) : TW P n W ops Q L0 (.calm i t) fr L := ⟨fun a hrep =>
  ⟨o, v, ho, by rw [if_pos (wanted_yes hrep hg hj hl)]; intro w hw; unfold calmAt; rw [hr.go a w hrep hw]; exact ⟨rfl, Gr.refl _⟩, by rw [hd]; exact h.go _ (hrep.put hn v)⟩⟩
theorem TW_skip {q e : Nat} {b : Bool} {x : Value} (ho : ops[i]? = some o) (hg : o.guard = some (q, b)) (hj : (ops[q]?).bind (·.dst) = some e) (hl : look fr e = some x) (hu : notB b x = true) (hd : o.dst = some d) (hn : Nat.blt d n = true) (h : TW P n W ops Q L0 t ((d, undef) :: fr) L) : TW P n W ops Q L0 (.calm i t) fr L := ⟨fun a hrep =>
  ⟨o, undef, ho, by rw [wanted_no hrep hg hj hl hu]; rfl, by rw [hd]; exact h.go _ (hrep.put hn undef)⟩⟩
theorem TW_call {f : FuncId} {args : Array Value} (ho : ops[i]? = some o) (he : ∀ a w, Rep n a fr → (execOp a.eval o).run P w = .ok (.enter f args) w) (hc : ∀ w, Mem W L0 w → Calls P f args w (Meets (ret v) w)) (hg : o.guard = none) (hd : o.dst = some d) (hn : Nat.blt d n = true)
    (h : TW P n W ops Q L0 t ((d, v) :: fr) L) : TW P n W ops Q L0 (.calm i t) fr L := ⟨fun a hrep =>
  ⟨o, v, ho, by rw [if_pos (wanted_none hg)]; intro w hw; unfold calmAt; rw [he a w hrep]; exact ⟨Gr.refl _, (hc w hw).mono fun _ _ h => of_meets h⟩, by rw [hd]; exact h.go _ (hrep.put hn v)⟩⟩
theorem TW_gcall {f : FuncId} {args : Array Value} {q e : Nat} {b : Bool} (ho : ops[i]? = some o) (he : ∀ a w, Rep n a fr → (execOp a.eval o).run P w = .ok (.enter f args) w) (hc : ∀ w, Mem W L0 w → Calls P f args w (Meets (ret v) w)) (hg : o.guard = some (q, b)) (hj : (ops[q]?).bind (·.dst) = some e) (hl : look fr e = some (.bool b)) (hd : o.dst = some d) (hn : Nat.blt d n = true)
    (h : TW P n W ops Q L0 t ((d, v) :: fr) L) : TW P n W ops Q L0 (.calm i t) fr L := ⟨fun a hrep =>
  ⟨o, v, ho, by rw [if_pos (wanted_yes hrep hg hj hl)]; intro w hw; unfold calmAt; rw [he a w hrep]; exact ⟨Gr.refl _, (hc w hw).mono fun _ _ h => of_meets h⟩, by rw [hd]; exact h.go _ (hrep.put hn v)⟩⟩
abbrev after (P : Program) (W : Base) (ops : Array Oper) (Q : Exit → Act → World → Prop) (L0 : List Own) (t : Ord) : Exit → Act → World → Prop := Exit.then (fun a' w' => ∃ S', Closed S' ∧ (∀ x, S' x → Mem W L0 x) ∧ S' w' ∧ wpO P ops Q (Mem W L0) t a' S') Q
theorem TW_one (ho : ops[i]? = some o) (h : TL P n W ops (after P W ops Q L0 t) [o] fr L) : TW P n W ops Q L0 (.one i t) fr L := ⟨fun a hrep => ⟨o, ho, fun w hw => h.go a w hrep hw⟩⟩
theorem TW_two {o2 : Oper} (ho : ops[i]? = some o) (ho2 : ops[j]? = some o2) (h : TL P n W ops (after P W ops Q L0 t) [o] fr L) (h2 : TL P n W ops (after P W ops Q L0 u) [o2] fr L) : TW P n W ops Q L0 (.two i t j u) fr L :=
  ⟨fun a hrep => ⟨⟨o, ho, fun w hw => h.go a w hrep hw⟩, ⟨o2, ho2, fun w hw => h2.go a w hrep hw⟩⟩⟩
theorem TW_three {o2 o3 : Oper} {k : Nat} {u2 : Ord} (ho : ops[i]? = some o) (ho2 : ops[j]? = some o2) (ho3 : ops[k]? = some o3) (h : TL P n W ops (after P W ops Q L0 t) [o] fr L) (h2 : TL P n W ops (after P W ops Q L0 u) [o2] fr L) (h3 : TL P n W ops (after P W ops Q L0 u2) [o3] fr L) : TW P n W ops Q L0 (.three i t j u k u2) fr L :=
  ⟨fun a hrep => ⟨⟨o, ho, fun w hw => h.go a w hrep hw⟩, ⟨o2, ho2, fun w hw => h2.go a w hrep hw⟩, ⟨o3, ho3, fun w hw => h3.go a w hrep hw⟩⟩⟩
theorem TW_on {L' : List Own} {fr' : Fr} (hsub : ∀ w, Mem W L' w → Mem W L0 w) (h : TW P n W ops Q L0 t fr' L') : TL P n W ops (after P W ops Q L0 t) [] fr' L' :=
  TL_nil ⟨fun a w hr hm => ⟨Mem W L', closed_mem _ _, hsub, hm, h.go a hr⟩⟩
theorem TW_done (h : E n W .normal Q fr L) : TW P n W ops Q L0 .done fr L := ⟨fun a hr w hw => h.go a w hr hw⟩
/-- a meeting point ahead of what comes next -/
theorem T_midq {x y : Code} {ι : Type} (I : ι → Prop) (F : ι → Fr) (M : ι → List Own)
    (hx : T P n W x (Exit.then (Mid n W I F M) Q) fr L) (hy : ∀ i, I i → T P n W y Q (F i) (M i)) : T P n W x (Exit.then (y.wp P Q) Q) fr L := .mk fun a w hr hm =>
  wp_mono (hx.go a w hr hm) fun e a w h => by
    cases e with
    | normal => obtain ⟨i, h1, h2, h3⟩ := h; exact (hy i h1).go a w h2 h3
    | _ => exact h
/-- a condition that is a comparison -/
theorem T_condD {c : Operand} {x y : Code} {p : Prop} {inst : Decidable p} (hc : ev fr c = some (.bool (decide p))) (ht : p → T P n W x Q fr L) (hf : ¬ p → T P n W y Q fr L) : T P n W (.cond c x y) Q fr L := by
  by_cases h : p
  · exact T_condT (by rw [hc, decide_eq_true h]) (ht h)
  · exact T_condF (by rw [hc, decide_eq_false h]) (hf h)
/-- a guarded operation whose guard is met -/
theorem TL_met {rest : List Oper} {q e : Nat} {b : Bool} (hg : o.guard = some (q, b)) (hj : (ops[q]?).bind (·.dst) = some e) (hl : look fr e = some (.bool b)) (h : TL P n W ops Q ({ o with guard := none } :: rest) fr L) : TL P n W ops Q (o :: rest) fr L := .mk fun a w hr hm => by
  have h1 := h.go a w hr hm
  unfold wpList at h1 ⊢
  rw [if_pos (wanted_none rfl)] at h1
  rw [if_pos (wanted_yes hr hg hj hl)]
  exact h1
theorem TW_valg (ho : ops[i]? = some o) (hg : o.guard = none) (hr : RR P n W o fr L0 v) (hd : o.dst = some d) (hn : Nat.blt d n = true) (h : TW P n W ops Q L0 t ((d, v) :: fr) L) : TW P n W ops Q L0 (.calm i t) fr L := TW_val ho hr hg hd hn h
theorem TW_gvalg {q e : Nat} {b : Bool} (ho : ops[i]? = some o) (hg : o.guard = some (q, b)) (hj : (ops[q]?).bind (·.dst) = some e) (hl : look fr e = some (.bool b)) (hr : RR P n W o fr L0 v) (hd : o.dst = some d) (hn : Nat.blt d n = true) (h : TW P n W ops Q L0 t ((d, v) :: fr) L) : TW P n W ops Q L0 (.calm i t) fr L := TW_gval ho hr hg hj hl hd hn h
/-- a calm operation that is wanted -/
structure TN (P : Program) (n : Nat) (W : Base) (ops : Array Oper) (Q : Exit → Act → World → Prop) (L0 : List Own) (o : Oper) (t : Ord) (fr : Fr) (L : List Own) : Prop where
  go : ∀ a, Rep n a fr → ∃ v, (∀ w, Mem W L0 w → calmAt P o a w v) ∧ wpO P ops Q (Mem W L0) t (a.put o.dst v) (Mem W L)
theorem TW_plain (ho : ops[i]? = some o) (hg : o.guard = none) (h : TN P n W ops Q L0 o t fr L) : TW P n W ops Q L0 (.calm i t) fr L := ⟨fun a hrep => by
  obtain ⟨v, h1, h2⟩ := h.go a hrep
  exact ⟨o, v, ho, by rw [if_pos (wanted_none hg)]; exact h1, h2⟩⟩
theorem TW_gmet {q e : Nat} {b : Bool} (ho : ops[i]? = some o) (hg : o.guard = some (q, b)) (hj : (ops[q]?).bind (·.dst) = some e) (hl : look fr e = some (.bool b)) (h : TN P n W ops Q L0 o t fr L) : TW P n W ops Q L0 (.calm i t) fr L := ⟨fun a hrep => by
  obtain ⟨v, h1, h2⟩ := h.go a hrep
  exact ⟨o, v, ho, by rw [if_pos (wanted_yes hrep hg hj hl)]; exact h1, h2⟩⟩
theorem TN_val (hr : RR P n W o fr L0 v) (hd : o.dst = some d) (hn : Nat.blt d n = true) (h : TW P n W ops Q L0 t ((d, v) :: fr) L) : TN P n W ops Q L0 o t fr L := ⟨fun a hrep =>
  ⟨v, fun w hw => by unfold calmAt; rw [hr.go a w hrep hw]; exact ⟨rfl, Gr.refl _⟩, by rw [hd]; exact h.go _ (hrep.put hn v)⟩⟩
theorem QW (hr : RR P n W o fr L0 v) (h : TW P n W ops Q L0 t ((d, v) :: fr) L) (hd : o.dst = some d := by exact rfl) (hn : Nat.blt d n = true := by exact rfl) : TN P n W ops Q L0 o t fr L := TN_val hr hd hn h
end
end Go.Proofs.Ytlojfbnimmdehaa.eng

/- Room -/
namespace Go.Proofs.Ytlojfbnimmdehaa.eng
open Go.RowKit kit mix
section
variable {P : Program} {n : Nat} {W : Base} {fr : Fr} {L : List Own} {Q : Exit → Act → World → Prop} {ops : Array Oper} {rest : List Oper} {d : Nat} {dst : Option Tmp} {ty : TypeId} {pos : String} {after : Array Edge} {guard : Option (Nat × Bool)}
theorem rr_cap {t e : TypeId} {x : Operand} {p : Option Addr} {m cap : Nat} (ht : P.underlying t = some (.slice e)) (hx : ev fr x = some (.slice p m cap)) : RR P n W ⟨dst, .call { callee := .builtin .cap, args := #[x], argTypes := #[t] }, ty, pos, after, guard⟩ fr L (.int .i64 cap) := .mk fun a w hr _ => by
  have hx' := hr.ev hx
  simp [BigFrame.execOp_builtin, BigFrame.builtin_cap, Builtin.cap_, hx', run_underlying ht, goInt]
/-- 'make([]T, m, cap)': a block that is known whole -/
theorem TL_makeB {t e : TypeId} {x y : Operand} {c bytes m cap : Nat} {k k' : IntKind} {zs : Array Value} [hel : ElC P t e c bytes] [hz0 : ZeroC P e zs] (hx : ev fr x = some (.int k (m : Int))) (hy : ev fr y = some (.int k' (cap : Int))) (hmc : m ≤ cap) (hb : bytes * cap ≤ 281474976710656) (h63 : cap ≤ 9223372036854775807) (hn : Nat.blt d n = true)
    (h : ∀ g, TL P n W ops Q rest ((d, .slice (some ⟨g, 0, none⟩) m cap) :: fr) (L ++ [blkO g (madeCells zs (cap * c)) e])) : TL P n W ops Q (⟨some d, .makeSlice t x y, ty, pos, after, none⟩ :: rest) fr L := TL_any rfl fun a w hr hm K hK => by
  obtain ⟨i, z, ht, hi, hz, hc, hby, hzc, h0⟩ := hel.el.ex
  obtain ⟨i2, z2, hi2, hz2, hz3⟩ := ZeroC.ex (P := P) (t := e)
  rw [hi] at hi2
  obtain rfl : i = i2 := Option.some.inj hi2
  rw [hz] at hz2
  obtain rfl : z = z2 := Option.some.inj hz2
  have hb2 : (i.bytes : Int) * (cap : Int) ≤ 281474976710656 := by
    rw [hby, ← Int.natCast_mul]; omega
  have hrun := run_make (P := P) w t e i z ht hi hz k k' (m : Int) (cap : Int) (by omega) (by omega) hb2 (by omega)
  rw [Int.toNat_natCast, Int.toNat_natCast, hc, hz3] at hrun
  have e' : (execOp a.eval ⟨some d, .makeSlice t x y, ty, pos, after, none⟩).run P w = .ok (.value (.slice (some ⟨w.heap.size, 0, none⟩) m cap)) (w.alloc (.cells (madeCells zs (cap * c)) e)) := by
    simp only [execOp, hr.ev hx, hr.ev hy, Sem.run_bind, hrun, Result.andThen_ok, Sem.run_pure]
  unfold Oper.wp; rw [e']
  exact hK _ _ ((h w.heap.size).go _ _ (hr.put hn _) (hm.append (gr_alloc w _) (Owns.one (heap_alloc_new w _) fun k hk => by simp only [blkO, Option.some.injEq] at hk; omega)))
/-- the same, as an own slice of zeros -/
theorem Mem.toRowN {w : World} {i g m cap size : Nat} {cs : Array Value} {e : TypeId} (h : Mem W L w) (hi : L[i]? = some (blkO g cs e)) (hc : cs.size = cap * size) (hmc : m ≤ cap) (hcap : cap ≤ 9223372036854775807) : Mem W (L.set i (rowO e size (.slice (some ⟨g, 0, none⟩) m cap) m (cs.toList.take (m * size)))) w :=
  h.turn hi ⟨rfl, rfl, rfl, Nat.le_refl _, fun _ _ _ => rfl⟩ ⟨by rw [List.length_take, Array.length_toList, hc, Nat.min_eq_left (Nat.mul_le_mul_right _ hmc)], .inr ⟨g, cap, cs, rfl, Nat.zero_le _, h.get hi, hmc, by unfold maxLen; omega, hc, rfl⟩⟩ fun k hk => .inl hk
theorem TL_toRowN {i g m cap : Nat} {cs : Array Value} {e : TypeId} (size : Nat) (hi : L[i]? = some (blkO g cs e)) (hc : cs.size = cap * size) (hmc : m ≤ cap) (hcap : cap ≤ 9223372036854775807) (h : TL P n W ops Q rest fr (L.set i (rowO e size (.slice (some ⟨g, 0, none⟩) m cap) m (cs.toList.take (m * size))))) : TL P n W ops Q rest fr L :=
  ⟨fun a w hr hmm => h.go a w hr (hmm.toRowN hi hc hmc hcap)⟩
theorem T_toRowN {c : Code} {i g m cap : Nat} {cs : Array Value} {e : TypeId} (size : Nat) (hi : L[i]? = some (blkO g cs e)) (hc : cs.size = cap * size) (hmc : m ≤ cap) (hcap : cap ≤ 9223372036854775807) (h : T P n W c Q fr (L.set i (rowO e size (.slice (some ⟨g, 0, none⟩) m cap) m (cs.toList.take (m * size))))) : T P n W c Q fr L :=
  ⟨fun a w hr hmm => h.go a w hr (hmm.toRowN hi hc hmc hcap)⟩
/-- an own slice's block, seen whole -/
theorem Mem.openRow {w : World} {i m size : Nat} {v : Value} {xs : List Value} {e : TypeId} (h : Mem W L w) (hi : L[i]? = some (rowO e size v m xs)) : (v = .slice none 0 0 ∧ m = 0) ∨ ∃ g cap cs, v = .slice (some ⟨g, 0, none⟩) m cap ∧ m ≤ cap ∧ cap ≤ 9223372036854775807 ∧ cs.size = cap * size ∧ cs.toList.take (m * size) = xs ∧ Mem W (L.set i (blkO g cs e)) w := by
  have h1 : w.ownsRow 0 e size v m xs := h.get hi
  rcases h1.2 with ⟨hv, h0⟩ | ⟨g, cap, cs, hv, hb, hg, hmc, hcm, hcs, htk⟩
  · exact .inl ⟨hv, h0⟩
  · refine .inr ⟨g, cap, cs, hv, hmc, by unfold maxLen at hcm; omega, hcs, htk, ?_⟩
    refine h.turn hi ⟨rfl, rfl, rfl, Nat.le_refl _, fun _ _ _ => rfl⟩ hg fun k hk => .inl ?_
    simp only [blkO, Option.some.injEq] at hk
    subst hk
    show v.ownBlock = some g
    rw [hv]; rfl
theorem TL_openRow {i m size : Nat} {v : Value} {xs : List Value} {e : TypeId} (hi : L[i]? = some (rowO e size v m xs)) (h0 : v = .slice none 0 0 → m = 0 → TL P n W ops Q rest fr L)
    (h : ∀ g cap cs, v = .slice (some ⟨g, 0, none⟩) m cap → m ≤ cap → cap ≤ 9223372036854775807 → cs.size = cap * size → cs.toList.take (m * size) = xs → TL P n W ops Q rest fr (L.set i (blkO g cs e))) : TL P n W ops Q rest fr L := ⟨fun a w hr hm => by
  rcases hm.openRow hi with ⟨a1, a2⟩ | ⟨g, cap, cs, a1, a2, a3, a4, a5, a6⟩
  · exact (h0 a1 a2).go a w hr hm
  · exact (h g cap cs a1 a2 a3 a4 a5).go a w hr a6⟩
theorem T_openRow {c : Code} {i m size : Nat} {v : Value} {xs : List Value} {e : TypeId} (hi : L[i]? = some (rowO e size v m xs)) (h0 : v = .slice none 0 0 → m = 0 → T P n W c Q fr L)
    (h : ∀ g cap cs, v = .slice (some ⟨g, 0, none⟩) m cap → m ≤ cap → cap ≤ 9223372036854775807 → cs.size = cap * size → cs.toList.take (m * size) = xs → T P n W c Q fr (L.set i (blkO g cs e))) : T P n W c Q fr L := ⟨fun a w hr hm => by
  rcases hm.openRow hi with ⟨a1, a2⟩ | ⟨g, cap, cs, a1, a2, a3, a4, a5, a6⟩
  · exact (h0 a1 a2).go a w hr hm
  · exact (h g cap cs a1 a2 a3 a4 a5).go a w hr a6⟩
/-- 'append(s, x...)' where there is room: into the block -/
theorem TL_appB {t e : TypeId} {s x : Operand} {i g size bytes m k c cap : Nat} {cs cs' : Array Value} {ys : List Value} {a : Addr} [hel : ElC P t e size bytes] (hi : L[i]? = some (blkO g cs e)) (hs : ev fr s = some (.slice (some ⟨g, 0, none⟩) m cap)) (hx : ev fr x = some (.slice (some a) k c))
    (hy : ∀ w, Mem W L w → ∀ j u, ys[j]? = some u → w.cell? (a.add j) = some u) (hl : ys.length = k * size) (h1 : ∀ u ∈ ys, u.oneCell' = true) (hroom : m + k ≤ cap) (hfit : m * size + ys.length ≤ cs.size) (hcs : cs' = (cs.toList.take (m * size) ++ ys ++ cs.toList.drop (m * size + ys.length)).toArray) (hn : Nat.blt d n = true)
    (h : TL P n W ops Q rest ((d, .slice (some ⟨g, 0, none⟩) (m + k) cap) :: fr) (L.set i (blkO g cs' e))) :
    TL P n W ops Q (⟨some d, .call { callee := .builtin .append, args := #[s, x], argTypes := #[t, t] }, ty, pos, after, none⟩ :: rest) fr L := TL_any rfl fun act w hr hm K hK => by
  obtain ⟨inf, z, ht, hinf, hz, hsize, hby, hzs, hsz⟩ := hel.el.ex
  subst hsize
  have hg : w.heap[g]? = some (.cells cs e (0, 0)) := hm.get hi
  have hrun := run_append_room (P := P) w t ty e inf ht hinf g m cap cs hg a k c ys hl (hy w hm) h1 hroom hfit
  rw [← hcs] at hrun
  have e' : (execOp act.eval ⟨some d, .call { callee := .builtin .append, args := #[s, x], argTypes := #[t, t] }, ty, pos, after, none⟩).run P w = .ok (.value (.slice (some ⟨g, 0, none⟩) (m + k) cap)) (w.setRow g cs') := by
    simp only [BigFrame.execOp_builtin, BigFrame.builtin_append, List.map_toArray, List.map_cons, List.map_nil, hr.ev hs, hr.ev hx, Sem.run_bind, hrun, Result.andThen_ok, Sem.run_pure]
  unfold Oper.wp; rw [e']
  exact hK _ _ (h.go _ _ (hr.put hn _) (hm.turn hi ⟨rfl, rfl, rfl, by simp, fun k _ hk => setRow_other w g k _ (fun e => hk (by subst e; rfl))⟩ (setRow_heap w g cs _ e _ hg) fun k hk => .inl hk))
/-- the same of nothing (nil) -/
theorem TL_appB0 {t e : TypeId} {s x : Operand} {i g size bytes m c cap : Nat} {cs : Array Value} [hel : ElC P t e size bytes] (hi : L[i]? = some (blkO g cs e)) (hs : ev fr s = some (.slice (some ⟨g, 0, none⟩) m cap)) (hx : ev fr x = some (.slice none 0 c)) (hm0 : m ≤ cap) (hn : Nat.blt d n = true)
    (h : TL P n W ops Q rest ((d, .slice (some ⟨g, 0, none⟩) m cap) :: fr) L) :
    TL P n W ops Q (⟨some d, .call { callee := .builtin .append, args := #[s, x], argTypes := #[t, t] }, ty, pos, after, none⟩ :: rest) fr L := TL_any rfl fun act w hr hm K hK => by
  obtain ⟨inf, z, ht, hinf, hz, hsize, hby, hzs, hsz⟩ := hel.el.ex
  have e' : (execOp act.eval ⟨some d, .call { callee := .builtin .append, args := #[s, x], argTypes := #[t, t] }, ty, pos, after, none⟩).run P w = .ok (.value (.slice (some ⟨g, 0, none⟩) m cap)) w := by
    simp [BigFrame.execOp_builtin, BigFrame.builtin_append, hr.ev hs, hr.ev hx, Builtin.append_, run_underlying ht, sizeOf, typeInfo, hinf, Builtin.lenOf, Builtin.firstCells, loadCells, loadCellsFrom, hm0, storeCells]
  unfold Oper.wp; rw [e']
  exact hK _ _ (h.go _ _ (hr.put hn _) hm)
/-- whatever slice that can be read -/
theorem TL_appBs {t e : TypeId} {s x : Operand} {i g size bytes m k cap : Nat} {v2 : Value} {cs cs' : Array Value} {ys : List Value} [hel : ElC P t e size bytes] (hi : L[i]? = some (blkO g cs e)) (hs : ev fr s = some (.slice (some ⟨g, 0, none⟩) m cap)) (hx : ev fr x = some v2) (hx2 : SlL W L v2 k ys)
    (hl : ys.length = k * size) (h1 : ∀ u ∈ ys, u.oneCell' = true) (hroom : m + k ≤ cap) (hfit : m * size + ys.length ≤ cs.size) (hcs : cs' = (cs.toList.take (m * size) ++ ys ++ cs.toList.drop (m * size + ys.length)).toArray) (hn : Nat.blt d n = true)
    (h : TL P n W ops Q rest ((d, .slice (some ⟨g, 0, none⟩) (m + k) cap) :: fr) (L.set i (blkO g cs' e))) :
    TL P n W ops Q (⟨some d, .call { callee := .builtin .append, args := #[s, x], argTypes := #[t, t] }, ty, pos, after, none⟩ :: rest) fr L := ⟨fun act w hr hm => by
  obtain ⟨base, c, rfl, hc1, hc2, hrd⟩ := hx2 w hm
  cases base with
  | none =>
    have hk0 : k = 0 := by
      rcases Nat.eq_zero_or_pos k with h | h
      · exact h
      · obtain ⟨b, off, h, _⟩ := hrd h; cases h
    subst hk0
    have hy : ys = [] := List.eq_nil_of_length_eq_zero (by rw [hl]; simp)
    subst hy
    have e0 : cs' = cs := by rw [hcs]; simp
    subst e0
    have hset : L.set i (blkO g cs' e) = L := by
      apply List.ext_getElem?
      intro q
      by_cases hq : i = q
      · subst hq
        rw [List.getElem?_set_self (List.getElem?_eq_some_iff.1 hi).1, hi]
      · rw [List.getElem?_set_ne hq]
    rw [hset] at h
    exact (TL_appB0 hi hs hx (by omega) hn h).go act w hr hm
  | some p =>
    refine (TL_appB (c := c) hi hs hx (fun w' hm' => ?_) hl h1 hroom hfit hcs hn h).go act w hr hm
    intro j u hj
    obtain ⟨base, c', he, _, _, hrd'⟩ := hx2 w' hm'
    simp only [Value.slice.injEq, true_and] at he
    obtain ⟨he, _⟩ := he
    have hk : 0 < k := by
      rcases Nat.eq_zero_or_pos k with h | h
      · subst h
        have := (List.getElem?_eq_some_iff.1 hj).1
        rw [hl] at this; simp at this
      · exact h
    obtain ⟨b, off, hb, hr'⟩ := hrd' hk
    rw [← he] at hb
    simp only [Option.some.injEq] at hb
    subst hb
    rw [addr_add]; exact hr' j u hj⟩
/-- a slice over a block that is known whole -/
theorem sl_blk {i g m cap : Nat} {cs : Array Value} {T : TypeId} {xs : List Value} (hi : L[i]? = some (blkO g cs T)) (hx : ∀ (j : Nat) (u : Value), xs[j]? = some u → cs[j]? = some u) (hmc : m ≤ cap) (hcap : cap ≤ 9223372036854775807) : SlL W L (.slice (some ⟨g, 0, none⟩) m cap) m xs := fun w hm =>
  ⟨_, cap, rfl, hmc, by unfold maxLen; omega, fun _ => ⟨g, 0, rfl, fun j u hj => by
    rw [Nat.zero_add]; exact at_blk hi (hx j u hj) w hm⟩⟩
end
theorem madeC {z : Array Value} {k m : Nat} (h : z.size = k) (h0 : 0 < k) : madeCells z (m * k) = ((List.replicate m z.toList).flatten).toArray := by
  subst h
  apply Array.ext_getElem?
  intro j
  unfold madeCells
  by_cases hj : j < m * z.size
  · have h2 : j / z.size < m := (Nat.div_lt_iff_lt_mul h0).2 hj
    have h3 := Nat.mod_lt j h0
    have key : ∀ (m j : Nat), j < m * z.size → ((List.replicate m z.toList).flatten)[j]? = z.toList[j % z.size]? := by
      intro m
      induction m with
      | zero => intro j hj; simp at hj
      | succ m ih =>
        intro j hj
        rw [List.replicate_succ, List.flatten_cons]
        by_cases hc : j < z.size
        · rw [List.getElem?_append_left (by simpa using hc), Nat.mod_eq_of_lt hc]
        · rw [List.getElem?_append_right (by simp; omega)]
          simp only [Array.length_toList]
          rw [ih (j - z.size) (by rw [Nat.succ_mul] at hj; omega)]
          congr 1
          exact (Nat.mod_eq_sub_mod (by omega)).symm
    simp only [List.getElem?_toArray, key m j hj]
    simp [hj, h3]
  · have : ((List.replicate m z.toList).flatten).length = m * z.size := by simp
    rw [Array.getElem?_eq_none (by simp; omega), List.getElem?_toArray, List.getElem?_eq_none (by omega)]
/-! ### literals of structs -/
theorem foldl_set : ∀ (xs : List Value) (acc : Array Value) (off k : Nat), off + k + xs.length ≤ acc.size → (xs.toArray.zipIdx k).foldl (fun cs (x : Value × Nat) => cs.setIfInBounds (off + x.2) x.1) acc = (acc.toList.take (off + k) ++ xs ++ acc.toList.drop (off + k + xs.length)).toArray
  | [], acc, off, k, _ => by
    have e0 : (([] : List Value).toArray.zipIdx k) = #[] := by apply Array.ext'; simp
    rw [e0]; simp
  | x :: xs, acc, off, k, h => by
    simp only [List.length_cons] at h
    have e : (x :: xs).toArray.zipIdx k = #[(x, k)] ++ xs.toArray.zipIdx (k + 1) := by
      apply Array.ext'
      simp [List.zipIdx_cons]
    rw [e, Array.foldl_append]
    have e2 : (#[(x, k)] : Array (Value × Nat)).foldl (fun cs (x : Value × Nat) => cs.setIfInBounds (off + x.2) x.1) acc = acc.setIfInBounds (off + k) x := by simp
    rw [e2, foldl_set xs _ off (k + 1) (by simp; omega)]
    congr 1
    have hA : (acc.toList.take (off + k)).length = off + k := by simp; omega
    have hA1 : (acc.toList.take (off + k) ++ [x]).length = off + k + 1 := by rw [List.length_append, hA]; rfl
    have e3 : acc.toList.set (off + k) x = (acc.toList.take (off + k) ++ [x]) ++ acc.toList.drop (off + k + 1) := by
      rw [List.set_eq_take_append_cons_drop, if_pos (by simp; omega)]; simp
    simp only [Array.toList_setIfInBounds, List.length_cons]
    rw [e3, show off + (k + 1) = off + k + 1 by omega, List.take_left' hA1, ← List.drop_drop, List.drop_left' hA1, List.drop_drop]
    simp only [List.append_assoc, List.cons_append, List.nil_append]
    rw [show off + k + 1 + xs.length = off + k + (xs.length + 1) by omega]
theorem fillN {c : Nat} (c0 : Nat → Option (Nat × Nat)) (hc0 : ∀ i, c0 i = some (i * c, c)) : ∀ (vs : List Value) (k : Nat) (acc : Array Value), (k + vs.length) * c ≤ acc.size → (∀ v ∈ vs, v.cells.size = c) →
    Instr.fill c0 acc ((vs.zipIdx k).map fun (v, i) => (i, v)) = some (acc.toList.take (k * c) ++ vs.flatMap (fun v => v.cells.toList) ++ acc.toList.drop ((k + vs.length) * c)).toArray
  | [], k, acc, h, _ => by simp [Instr.fill]
  | v :: vs, k, acc, h, h1 => by
    simp only [List.length_cons] at h
    have hv := h1 v (by simp)
    have hsz : k * c + c ≤ acc.size := by
      have : (k + 1) * c ≤ (k + (vs.length + 1)) * c := Nat.mul_le_mul_right _ (by omega)
      rw [Nat.add_mul, Nat.one_mul] at this; omega
    rw [List.zipIdx_cons, List.map_cons]
    simp only [Instr.fill, hc0]
    rw [if_neg (by simp [hv]; omega)]
    have hfold := foldl_set v.cells.toList acc (k * c) 0 (by simp [hv]; exact hsz)
    simp only [Array.toArray_toList, Nat.add_zero, Array.length_toList, hv] at hfold
    rw [hfold, fillN c0 hc0 vs (k + 1) _ (by simp [hv]; rw [Nat.add_mul, Nat.add_mul] at *; omega) (fun u hu => h1 u (by simp [hu]))]
    congr 2
    have hA : (acc.toList.take (k * c)).length = k * c := by simp; omega
    have hA1 : (acc.toList.take (k * c) ++ v.cells.toList).length = (k + 1) * c := by rw [List.length_append, hA, Array.length_toList, hv, Nat.add_mul, Nat.one_mul]
    simp only [List.flatMap_cons, List.length_cons]
    rw [List.take_left' hA1]
    have e5 : (k + 1 + vs.length) * c = (k + 1) * c + vs.length * c := Nat.add_mul _ _ _
    rw [e5, ← List.drop_drop, List.drop_left' hA1, List.drop_drop]
    simp only [List.append_assoc]
    rw [show k * c + c + vs.length * c = (k + (vs.length + 1)) * c by rw [Nat.add_mul, Nat.add_mul, Nat.one_mul]; omega]
theorem run_litN {P : Program} {t e : TypeId} {c bytes : Nat} (hel : El P t e c bytes) (vs : List Value) (h1 : ∀ v ∈ vs, v.cells.size = c) (h0 : 0 < vs.length) (hm : vs.length * c ≤ 16777216) (w : World) :
    (Instr.buildSlice t vs.length (vs.zipIdx.map fun (v, i) => (i, v)).toArray).run P w = .ok (.slice (some ⟨w.heap.size, 0, none⟩) vs.length vs.length) (w.alloc (.cells (vs.flatMap fun v => v.cells.toList).toArray e)) := by
  obtain ⟨i, z, ht, hi, hz, hc, _, hzc, hp⟩ := hel.ex
  have hfill := fillN (c := c) (fun i => some (i * c, c)) (by simp) vs 0 ((Array.range (vs.length * c)).map (z.cells[· % z.cells.size]!)) (by simp) h1
  simp only [Nat.zero_mul, List.take_zero, List.nil_append, Nat.zero_add] at hfill
  rw [List.drop_of_length_le (by simp)] at hfill
  simp only [List.append_nil] at hfill
  have hne : ¬ (vs.length * c > 2 ^ 24) := by omega
  have hne2 : ¬ (vs.length * c = 0) := by
    have := Nat.mul_pos h0 hp; omega
  simp only [Instr.buildSlice, Sem.run_bind, run_underlying ht, Result.andThen_ok, sizeOf, typeInfo, run_program, hi, Sem.run_pure, hc, zeroValue, hz, if_neg hne, if_neg hne2]
  simp only [hfill, newRow]
  simp
section
variable {P : Program} {n : Nat} {W : Base} {fr : Fr} {L : List Own} {Q : Exit → Act → World → Prop} {ops : Array Oper} {rest : List Oper} {d : Nat} {dst : Option Tmp} {ty : TypeId} {pos : String} {after : Array Edge} {guard : Option (Nat × Bool)}
theorem TL_litN {t e : TypeId} {c bytes m : Nat} {parts : Array (Nat × Operand)} {cs : Array Value} (vs : List Value) [hel : ElC P t e c bytes] (hp : partsEv fr parts.toList = some (vs.zipIdx.map fun (v, i) => (i, v))) (hm : vs.length = m) (h0 : Nat.blt 0 m = true) (h1 : ∀ v ∈ vs, v.cells.size = c) (hs : Nat.ble (m * c) 16777216 = true) (hcs : cs = (vs.flatMap fun v => v.cells.toList).toArray) (hn : Nat.blt d n = true)
    (h : ∀ g, TL P n W ops Q rest ((d, .slice (some ⟨g, 0, none⟩) m m) :: fr) (L ++ [blkO g cs e])) : TL P n W ops Q (⟨some d, .buildSlice t m parts, ty, pos, after, none⟩ :: rest) fr L := by
  subst hm hcs
  refine TL_lit (fun a w hr => ?_) hn h
  have e : (parts.map fun (i, x) => (i, a.eval x)) = (vs.zipIdx.map fun (v, i) => (i, v)).toArray := by
    rw [← partsEv_of hr _ _ hp, ← Array.toList_map, Array.toArray_toList]
  rw [e]
  exact run_litN hel.el vs h1 (Nat.le_of_ble_eq_true h0) (Nat.le_of_ble_eq_true hs) w
/-- 's[:k]' of a slice -/
theorem rr_slpre {t e : TypeId} {x z : Operand} {agg : Bool} {c j len cap : Nat} {base : Option Addr} {k : IntKind} (ht : P.underlying t = some (.slice e)) (he : Ty P e agg c) (hx : ev fr x = some (.slice base len cap)) (hz : ev fr z = some (.int k (j : Int))) (h : j ≤ cap) : RR P n W ⟨dst, .slice t x none (some z) none, ty, pos, after, guard⟩ fr L (.slice base j cap) := .mk fun a w hr hm => by
  have h1 := (rr_slupto (P := P) (n := n) (W := W) (L := L) (dst := dst) (ty := ty) (pos := pos) (after := after) (guard := guard) ht he hx hz h).go a w hr hm
  have e1 : subV base cap c 0 j = .slice base j cap := by
    unfold subV
    cases base with
    | none => simp
    | some q => simp [Addr.add]
  rw [e1] at h1; exact h1
/-- nothing is handed back -/
theorem E_ret0 {fn : Func} {R : Ending → World → Prop} (hres : fn.results = #[]) (h : ∀ w, Mem W L w → R (.returned (.tuple #[])) w) : E n W .ret (bodyPost P fn R) fr L :=
  E_ret fun a w hr hm => ⟨.tuple #[], by simp [results, hres], h w hm⟩
/-- the text's end is come to -/
theorem E_end0 {fn : Func} {R : Ending → World → Prop} (hres : fn.results = #[]) (h : ∀ w, Mem W L w → R (.returned (.tuple #[])) w) : E n W .normal (bodyPost P fn R) fr L :=
  ⟨fun a w hr hm => ⟨hr.defers, .tuple #[], by simp [results, hres], h w hm⟩⟩
end
end Go.Proofs.Ytlojfbnimmdehaa.eng

/- Shp -/
namespace Go.Proofs.Ytlojfbnimmdehaa.eng
open Go.RowKit kit mix
/-- how a datum reads, all of its blocks being in F -/
structure Shp (α : Type) where
  c : Nat
  is : (Nat → Prop) → World → List Value → α → Prop
  len : ∀ {F w cs a}, is F w cs a → cs.length = c
  stay : ∀ {F w w' cs a}, is F w cs a → (∀ k, F k → w'.heap[k]? = w.heap[k]?) → is F w' cs a
  mono : ∀ {F F' w cs a}, is F w cs a → (∀ k, F k → F' k) → is F' w cs a
def All : Nat → Prop := fun _ => True
theorem rd_stay {w w' : World} {b off : Nat} {cs : List Value} (h : Rd w b off cs) (hk : w'.heap[b]? = w.heap[b]?) : Rd w' b off cs := fun j u hj => by
  rw [World.cell?_of_block (w := w) (a := ⟨b, off + j, none⟩) hk]; exact h j u hj
/-- a slice -/
def SlF {α : Type} (s : Shp α) (F : Nat → Prop) (w : World) (v : Value) (l : List α) : Prop :=
  ∃ base cap, v = .slice base l.length cap ∧ l.length ≤ cap ∧ cap ≤ maxLen ∧ (0 < l.length → ∃ b off, base = some ⟨b, off, none⟩ ∧ F b ∧ ∀ i (h : i < l.length), ∃ cs, s.is F w cs l[i] ∧ Rd w b (off + i * s.c) cs)
section
variable {α β : Type} {s : Shp α} {F F' : Nat → Prop} {w w' : World} {v : Value} {l : List α}
theorem SlF.stay (h : SlF s F w v l) (hk : ∀ k, F k → w'.heap[k]? = w.heap[k]?) : SlF s F w' v l :=
  let ⟨base, cap, h1, h2, h3, h4⟩ := h
  ⟨base, cap, h1, h2, h3, fun h0 => let ⟨b, off, h5, h6, h7⟩ := h4 h0; ⟨b, off, h5, h6, fun i hi => let ⟨cs, h8, h9⟩ := h7 i hi; ⟨cs, s.stay h8 hk, rd_stay h9 (hk b h6)⟩⟩⟩
theorem SlF.mono (h : SlF s F w v l) (hk : ∀ k, F k → F' k) : SlF s F' w v l :=
  let ⟨base, cap, h1, h2, h3, h4⟩ := h
  ⟨base, cap, h1, h2, h3, fun h0 => let ⟨b, off, h5, h6, h7⟩ := h4 h0; ⟨b, off, h5, hk b h6, fun i hi => let ⟨cs, h8, h9⟩ := h7 i hi; ⟨cs, s.mono h8 hk, h9⟩⟩⟩
theorem SlF.nil : SlF s F w (.slice none 0 0) [] := ⟨none, 0, rfl, Nat.le_refl _, by decide, fun h => by simp at h⟩
/-- cells that a function tells -/
def flatS (f : α → List Value) (c : Nat) (hc : ∀ a, (f a).length = c) (p : α → Prop) : Shp α :=
  ⟨c, fun _ _ cs a => cs = f a ∧ p a, fun h => by rw [h.1, hc], fun h _ => h, fun h _ => h⟩
def intS : Shp Int := flatS (fun n => [.int .i64 n]) 1 (fun _ => rfl) kit.okI64
def boolS : Shp Bool := flatS (fun b => [.bool b]) 1 (fun _ => rfl) (fun _ => True)
def strS : Shp (List UInt8) := flatS (fun s => [str s]) 1 (fun _ => rfl) (fun s => s.length ≤ 9223372036854775807)
def sliceS (s : Shp α) : Shp (List α) :=
  ⟨1, fun F w cs l => ∃ v, cs = [v] ∧ SlF s F w v l, fun ⟨_, h, _⟩ => by rw [h]; rfl, fun ⟨v, h1, h2⟩ hk => ⟨v, h1, h2.stay hk⟩, fun ⟨v, h1, h2⟩ hk => ⟨v, h1, h2.mono hk⟩⟩
/-- one behind the other -/
def pairS (s : Shp α) (t : Shp β) : Shp (α × β) :=
  ⟨s.c + t.c, fun F w cs x => ∃ c1 c2, cs = c1 ++ c2 ∧ s.is F w c1 x.1 ∧ t.is F w c2 x.2, fun ⟨_, _, h, h1, h2⟩ => by rw [h, List.length_append, s.len h1, t.len h2],
    fun ⟨c1, c2, h, h1, h2⟩ hk => ⟨c1, c2, h, s.stay h1 hk, t.stay h2 hk⟩, fun ⟨c1, c2, h, h1, h2⟩ hk => ⟨c1, c2, h, s.mono h1 hk, t.mono h2 hk⟩⟩
/-- a slice of flat elements -/
theorem SlF.flat {f : α → List Value} {c : Nat} {hc : ∀ a, (f a).length = c} {p : α → Prop} (hc0 : 0 < c) (h : SlF (flatS f c hc p) F w v l) : Sl w v l.length (l.flatMap f) := by
  obtain ⟨base, cap, h1, h2, h3, h4⟩ := h
  have hx : SlX w (fun cs a => cs = f a) c v l := ⟨base, cap, h1, h2, h3, fun h0 => let ⟨b, off, h5, _, h7⟩ := h4 h0; ⟨b, off, h5, fun i hi => let ⟨cs, h8, h9⟩ := h7 i hi; ⟨cs, h8.1, h9⟩⟩⟩
  exact hx.flat hc hc0 fun cs a h => h
theorem SlF.okp {f : α → List Value} {c : Nat} {hc : ∀ a, (f a).length = c} {p : α → Prop} (h : SlF (flatS f c hc p) F w v l) : ∀ a ∈ l, p a := fun a ha => by
  obtain ⟨i, hi, rfl⟩ := List.mem_iff_getElem.1 ha
  obtain ⟨base, cap, h1, h2, h3, h4⟩ := h
  obtain ⟨b, off, _, _, h7⟩ := h4 (by omega)
  obtain ⟨cs, h8, _⟩ := h7 i hi
  exact h8.2
theorem SlF.of_flat {f : α → List Value} {c : Nat} {hc : ∀ a, (f a).length = c} {p : α → Prop} (h : Sl w v l.length (l.flatMap f)) (hp : ∀ a ∈ l, p a) (hF : ∀ b, v.ownBlock = some b → F b) (hF2 : ∀ a n cp, v = .slice (some a) n cp → F a.block) : SlF (flatS f c hc p) F w v l := by
  obtain ⟨base, cap, h1, h2, h3, h4⟩ := h
  refine ⟨base, cap, h1, h2, h3, fun h0 => ?_⟩
  obtain ⟨b, off, h5, h6⟩ := h4 h0
  refine ⟨b, off, h5, hF2 ⟨b, off, none⟩ l.length cap (by rw [h1, h5]), fun i hi => ⟨f l[i], ⟨rfl, hp _ (List.getElem_mem hi)⟩, fun j u hj => ?_⟩⟩
  have hjc : j < c := by rw [← hc l[i]]; exact (List.getElem?_eq_some_iff.1 hj).1
  have := h6 (i * c + j) u (by rw [get_el hc l i j hi hjc]; exact hj)
  rw [Nat.add_assoc]
  exact this
/-- owned whole -/
def shpO (s : Shp α) (F : Nat → Prop) (cs : List Value) (a : α) : Own :=
  ⟨none, F, fun w => s.is F w cs a ∧ ∀ k, F k → k < w.heap.size, fun w h k hk => h.2 k (hk.elim (fun h => by cases h) id), fun w w' h hs hb => ⟨s.stay h.1 fun k hk => hb k (.inr hk), fun k hk => Nat.lt_of_lt_of_le (h.2 k hk) hs⟩⟩
/-- elements, their cells lying elsewhere -/
def elsO (s : Shp α) (F : Nat → Prop) (css : List (List Value)) (l : List α) : Own :=
  ⟨none, F, fun w => (css.length = l.length ∧ ∀ i (h : i < l.length) (h' : i < css.length), s.is F w css[i] l[i]) ∧ ∀ k, F k → k < w.heap.size, fun w h k hk => h.2 k (hk.elim (fun h => by cases h) id),
    fun w w' h hs hb => ⟨⟨h.1.1, fun i hi hi' => s.stay (h.1.2 i hi hi') fun k hk => hb k (.inr hk)⟩, fun k hk => Nat.lt_of_lt_of_le (h.2 k hk) hs⟩⟩
end
def Or1 (F : Nat → Prop) (v : Value) : Nat → Prop := fun k => F k ∨ v.ownBlock = some k
theorem flatten_get {c : Nat} : ∀ (css : List (List Value)) (hc : ∀ x ∈ css, x.length = c) (i j : Nat) (h : i < css.length), j < c → css.flatten[i * c + j]? = css[i][j]?
  | x :: r, hc, 0, j, h, hj => by
    rw [List.flatten_cons, List.getElem?_append_left (by rw [hc x (by simp)]; omega)]; simp
  | x :: r, hc, i + 1, j, h, hj => by
    have hx := hc x (by simp)
    have ih := flatten_get r (fun y hy => hc y (by simp [hy])) i j (by simpa using h) hj
    rw [List.flatten_cons, List.getElem?_append_right (by rw [hx, Nat.succ_mul]; omega), hx]
    simp only [List.getElem_cons_succ]
    rw [← ih, Nat.succ_mul]
    congr 1; omega
section
variable {α : Type} {s : Shp α} {F : Nat → Prop} {w : World} {v : Value} {l : List α}
/-- a row and its elements' own memory make a slice -/
theorem slf_of {e : TypeId} {css : List (List Value)} (hr : (rowO e s.c v l.length css.flatten).holds w) (he : (elsO s F css l).holds w) (hc0 : 0 < s.c) : SlF s (Or1 F v) w v l := by
  have hr : w.ownsRow 0 e s.c v l.length css.flatten := hr
  obtain ⟨⟨h1, h2⟩, h3⟩ := he
  have hlen : ∀ x ∈ css, x.length = s.c := fun x hx => by
    obtain ⟨i, hi, rfl⟩ := List.mem_iff_getElem.1 hx
    exact s.len (h2 i (by omega) hi)
  obtain ⟨base, cap, h4, h5, h6, h7⟩ := Sl.of_own hr
  refine ⟨base, cap, h4, h5, h6, fun h0 => ?_⟩
  have hb : ∃ g, v = .slice (some ⟨g, 0, none⟩) l.length cap ∧ v.ownBlock = some g := by
    rcases hr.2 with ⟨hv, h0'⟩ | ⟨g, cap', cur, hv, _⟩
    · omega
    · rw [h4] at hv
      simp only [Value.slice.injEq, true_and] at hv
      obtain ⟨rfl, rfl⟩ := hv
      exact ⟨g, h4, by rw [h4]; rfl⟩
  obtain ⟨g, hv, hg⟩ := hb
  rw [h4] at hv
  simp only [Value.slice.injEq, and_true] at hv
  subst hv
  obtain ⟨b, off, h8, h9⟩ := h7 h0
  simp only [Option.some.injEq, Addr.mk.injEq, and_true] at h8
  obtain ⟨rfl, rfl⟩ := h8
  refine ⟨g, 0, rfl, .inr hg, fun i hi => ⟨css[i]'(by omega), s.mono (h2 i hi (by omega)) fun k hk => .inl hk, fun j u hj => ?_⟩⟩
  have hjc : j < s.c := by rw [← hlen (css[i]'(by omega)) (List.getElem_mem _)]; exact (List.getElem?_eq_some_iff.1 hj).1
  have := h9 (i * s.c + j) u (by rw [flatten_get css hlen i j (by omega) hjc]; exact hj)
  rw [Nat.add_assoc]
  exact this
theorem slO_lt {e : TypeId} {css : List (List Value)} {n c : Nat} (hr : (rowO e c v n css.flatten).holds w) (he : (elsO s F css l).holds w) : ∀ k, Or1 F v k → k < w.heap.size := fun k hk => hk.elim (he.2 k) fun h => ((rowO e c v n css.flatten).lt w hr k (.inl h))
/-- one element more -/
theorem els_snoc {F2 : Nat → Prop} {css : List (List Value)} {cs : List Value} {a : α} (he : (elsO s F css l).holds w) (hs : s.is F2 w cs a) (h2 : ∀ k, F2 k → k < w.heap.size) : (elsO s (fun k => F k ∨ F2 k) (css ++ [cs]) (l ++ [a])).holds w := by
  obtain ⟨⟨h1, h3⟩, h4⟩ := he
  refine ⟨⟨by simp [h1], fun i hi hi' => ?_⟩, fun k hk => hk.elim (h4 k) (h2 k)⟩
  by_cases c : i < l.length
  · rw [List.getElem_append_left (by omega), List.getElem_append_left c]
    exact s.mono (h3 i c (by omega)) fun k hk => .inl hk
  · have hi2 : i = l.length := by simp at hi; omega
    subst hi2
    rw [List.getElem_append_right (by omega), List.getElem_append_right (Nat.le_refl _)]
    simp only [h1, Nat.sub_self, List.getElem_cons_zero]
    exact s.mono hs fun k hk => .inr hk
theorem els_nil : (elsO s (fun _ => False) [] []).holds w := ⟨⟨rfl, fun i h => by simp at h⟩, fun k h => h.elim⟩
end
section
variable {P : Program} {n : Nat} {W : Base} {fr : Fr} {L : List Own} {Q : Exit → Act → World → Prop} {ops : Array Oper} {rest : List Oper} {d : Nat}
theorem Mem.merge2 {w : World} (o : Own) (i j : Nat) (js : List Nat) {o1 o2 : Own} {R : List Own} (h : Mem W L w) (hn : ([i, j] ++ js).Nodup) (h1 : L[i]? = some o1) (h2 : L[j]? = some o2) (hR : R = js.filterMap fun i => L[i]?) (hf : ∀ k, o.foot k → o1.foot k ∨ o2.foot k) (hh : ∀ w, o1.holds w → o2.holds w → o.holds w) : Mem W (R ++ [o]) w := by
  refine Mem.merge o (h.pick ([i, j] ++ js) hn ?_) hf (hh w)
  rw [List.filterMap_append, ← hR]
  congr 1
  rw [List.filterMap_cons_some (by exact h1), List.filterMap_cons_some (by exact h2)]; rfl
theorem TL_merge (o : Own) (i j : Nat) (js : List Nat) {o1 o2 : Own} {R : List Own} (hn : ([i, j] ++ js).Nodup) (h1 : L[i]? = some o1) (h2 : L[j]? = some o2) (hR : R = js.filterMap fun i => L[i]?) (hf : ∀ k, o.foot k → o1.foot k ∨ o2.foot k) (hh : ∀ w, o1.holds w → o2.holds w → o.holds w) (h : TL P n W ops Q rest fr (R ++ [o])) : TL P n W ops Q rest fr L := ⟨fun a w hr hm => h.go a w hr (hm.merge2 o i j js hn h1 h2 hR hf hh)⟩
theorem T_merge {c : Code} (o : Own) (i j : Nat) (js : List Nat) {o1 o2 : Own} {R : List Own} (hn : ([i, j] ++ js).Nodup) (h1 : L[i]? = some o1) (h2 : L[j]? = some o2) (hR : R = js.filterMap fun i => L[i]?) (hf : ∀ k, o.foot k → o1.foot k ∨ o2.foot k) (hh : ∀ w, o1.holds w → o2.holds w → o.holds w) (h : T P n W c Q fr (R ++ [o])) : T P n W c Q fr L := ⟨fun a w hr hm => h.go a w hr (hm.merge2 o i j js hn h1 h2 hR hf hh)⟩
theorem E_merge {e : Exit} (o : Own) (i j : Nat) (js : List Nat) {o1 o2 : Own} {R : List Own} (hn : ([i, j] ++ js).Nodup) (h1 : L[i]? = some o1) (h2 : L[j]? = some o2) (hR : R = js.filterMap fun i => L[i]?) (hf : ∀ k, o.foot k → o1.foot k ∨ o2.foot k) (hh : ∀ w, o1.holds w → o2.holds w → o.holds w) (h : E n W e Q fr (R ++ [o])) : E n W e Q fr L := ⟨fun a w hr hm => h.go a w hr (hm.merge2 o i j js hn h1 h2 hR hf hh)⟩
/-- what needs no memory -/
theorem Mem.extra {w : World} (o : Own) (h : Mem W L w) (hf : ∀ k, ¬ o.foot k) (hh : o.holds w) : Mem W (L ++ [o]) w :=
  h.append (Gr.refl w) (OwnsP.one hh fun k hk => absurd hk (hf k))
theorem T_extra {c : Code} (o : Own) (hf : ∀ k, ¬ o.foot k) (hh : ∀ w, o.holds w) (h : T P n W c Q fr (L ++ [o])) : T P n W c Q fr L := ⟨fun a w hr hm => h.go a w hr (hm.extra o hf (hh w))⟩
theorem TL_extra (o : Own) (hf : ∀ k, ¬ o.foot k) (hh : ∀ w, o.holds w) (h : TL P n W ops Q rest fr (L ++ [o])) : TL P n W ops Q rest fr L := ⟨fun a w hr hm => h.go a w hr (hm.extra o hf (hh w))⟩
theorem E_extra {e : Exit} (o : Own) (hf : ∀ k, ¬ o.foot k) (hh : ∀ w, o.holds w) (h : E n W e Q fr (L ++ [o])) : E n W e Q fr L := ⟨fun a w hr hm => h.go a w hr (hm.extra o hf (hh w))⟩
/-- an element of an own slice is written over -/
theorem TL_setRow {α : Type} {f : α → List Value} {c : Nat} (hc : ∀ a, (f a).length = c) {t e : TypeId} {p x : Operand} {i g off cap k m : Nat} {agg : Bool} {l : List α} {a : α} {v : Value} (hT : Ty P t agg c) (hi : L[i]? = some (rowO e c (.slice (some ⟨g, 0, none⟩) m cap) m (l.flatMap f))) (hp : ev fr p = some (.pointer (some ⟨g, off, none⟩))) (hoff : off = k * c) (hk : k < l.length) (hm0 : m = l.length) (hx : ev fr x = some v) (hv : v.cells = (f a).toArray) (h1 : (f a).all Value.oneCell' = true)
    {ty : TypeId} {pos : String} {after : Array Edge}
    (h : TL P n W ops Q rest fr (L.set i (rowO e c (.slice (some ⟨g, 0, none⟩) m cap) m ((l.set k a).flatMap f)))) :
    TL P n W ops Q (⟨none, .store t p x, ty, pos, after, none⟩ :: rest) fr L := TL_any rfl fun act w hr hm K hK => by
  subst hoff hm0
  have hown : w.ownsRow 0 e c (.slice (some ⟨g, 0, none⟩) l.length cap) l.length (l.flatMap f) := hm.get hi
  have hown' := hown
  rcases hown.2 with ⟨h0, _⟩ | ⟨g', cap', cur, he, hbg, hg, hnc, hcm, hcs, htake⟩
  · cases h0
  simp only [Value.slice.injEq, Option.some.injEq, Addr.mk.injEq, and_true, true_and] at he
  obtain ⟨rfl, rfl⟩ := he
  have hfit : k * c + c ≤ cur.size := by
    have : (k + 1) * c ≤ cap * c := Nat.mul_le_mul_right _ (by omega)
    rw [hcs]; rw [Nat.add_mul, Nat.one_mul] at this; omega
  have hst := run_storeCells_at P g (k * c) e (f a) 0 cur w hg (by simp [hc]; exact hfit) (List.all_eq_true.1 h1)
  simp only [Nat.add_zero, hc] at hst
  have e' : (execOp act.eval ⟨none, .store t p x, ty, pos, after, none⟩).run P w = .ok .skip (w.setRow g (cur.toList.take (k * c) ++ f a ++ cur.toList.drop (k * c + c)).toArray) := by
    simp [execOp, hr.ev hp, hr.ev hx, Instr.storeAt, Instr.sureAddr, storeVar, hT.size, hv, hst, hc]
  unfold Oper.wp; rw [e']
  refine hK _ _ (h.go _ _ (hr.put_none undef) (hm.turn hi ⟨rfl, rfl, rfl, by simp, fun k _ hk => setRow_other w g k _ (fun e => hk (by subst e; rfl))⟩ ?_ fun k hk => .inl hk))
  have hlen := len_el hc l
  refine ⟨by rw [len_el hc]; simp, .inr ⟨g, cap, _, rfl, hbg, setRow_heap w g cur _ e _ hg, hnc, hcm, by simp [hc]; omega, ?_⟩⟩
  have e1 : (l.set k a).flatMap f = (l.flatMap f).take (k * c) ++ f a ++ (l.flatMap f).drop (k * c + c) := by
    have hl1 : ((l.take k).flatMap f).length = k * c := by rw [len_el hc, List.length_take, Nat.min_eq_left (by omega)]
    have hl2 : ((l.take (k + 1)).flatMap f).length = k * c + c := by rw [len_el hc, List.length_take, Nat.min_eq_left (by omega), Nat.add_mul, Nat.one_mul]
    have t1 : (l.flatMap f).take (k * c) = (l.take k).flatMap f := by
      rw [← hl1]
      conv => lhs; rw [← List.take_append_drop k l, List.flatMap_append]
      simp
    have t2 : (l.flatMap f).drop (k * c + c) = (l.drop (k + 1)).flatMap f := by
      rw [← hl2]
      conv => lhs; rw [← List.take_append_drop (k + 1) l, List.flatMap_append]
      simp
    rw [t1, t2, List.set_eq_take_append_cons_drop, if_pos hk]
    simp
  rw [e1, ← htake]
  have hkl : k * c + c ≤ l.length * c := by
    have : (k + 1) * c ≤ l.length * c := Nat.mul_le_mul_right _ (by omega)
    rw [Nat.add_mul, Nat.one_mul] at this; exact this
  simp only [List.take_take, List.take_append, List.length_append, hc, List.length_take, Array.length_toList]
  rw [Nat.min_eq_left (by omega : k * c ≤ cur.size), Nat.min_eq_right (by omega : k * c ≤ l.length * c), Nat.min_eq_left (by omega : k * c ≤ l.length * c)]
  rw [List.take_of_length_le (by rw [hc]; omega : (f a).length ≤ l.length * c - k * c)]
  congr 1
  rw [List.drop_take]
/-- a fact that what is owned tells -/
theorem TL_know {i : Nat} {o : Own} {φ : Prop} (hi : L[i]? = some o) (hφ : ∀ w, o.holds w → φ) (h : φ → TL P n W ops Q rest fr L) : TL P n W ops Q rest fr L := ⟨fun a w hr hm => (h (hφ w (hm.get hi))).go a w hr hm⟩
theorem T_know {c : Code} {i : Nat} {o : Own} {φ : Prop} (hi : L[i]? = some o) (hφ : ∀ w, o.holds w → φ) (h : φ → T P n W c Q fr L) : T P n W c Q fr L := ⟨fun a w hr hm => (h (hφ w (hm.get hi))).go a w hr hm⟩
end
end Go.Proofs.Ytlojfbnimmdehaa.eng

/- GramL -/
namespace Go.Proofs.Ytlojfbnimmdehaa.gramL
abbrev Sym := Int × Int
abbrev Prod := Int × List Sym
structure Gram where
  terms : Int
  nons : Int
  prods : List Prod
/-- is it a symbol of the grammar? -/
def right (terms nons : Int) (x : Sym) : Bool := if x.1 = 1 then decide (0 ≤ x.2) && decide (x.2 < terms) else if x.1 = 2 then decide (0 ≤ x.2) && decide (x.2 < nons) else false
def prodE (terms nons : Int) (p : Prod) : Int := if 8 < p.2.length then 2 else if p.1 < 0 then 1 else if nons ≤ p.1 then 1 else if p.2.any (fun x => !right terms nons x) = true then 1 else 0
def prodsE (terms nons : Int) : List Prod → Int
  | [] => 0
  | p :: r => if prodE terms nons p ≠ 0 then prodE terms nons p else prodsE terms nons r
def checkG (g : Gram) : Int := if g.terms < 0 then 1 else if 30 < g.terms then 1 else if g.nons < 1 then 1 else if 20 < g.nons then 1 else if 40 < g.prods.length then 2 else prodsE g.terms g.nons g.prods
theorem prodE_ok {t n : Int} {p : Prod} (h : prodE t n p = 0) : p.2.length ≤ 8 ∧ 0 ≤ p.1 ∧ p.1 < n ∧ ∀ x ∈ p.2, right t n x = true := by
  unfold prodE at h
  split at h; · simp at h
  split at h; · simp at h
  split at h; · simp at h
  split at h; · simp at h
  rename_i a b c d
  refine ⟨by omega, by omega, by omega, fun x hx => ?_⟩
  simp only [List.any_eq_true, not_exists, not_and, Bool.not_eq_true', Bool.not_eq_false] at d
  simpa using d x hx
theorem prodsE_ok {t n : Int} : ∀ {l : List Prod}, prodsE t n l = 0 → ∀ p ∈ l, prodE t n p = 0
  | [], _, _, h => by cases h
  | q :: r, h, p, hp => by
    unfold prodsE at h
    split at h
    · contradiction
    · rename_i c
      rcases List.mem_cons.1 hp with rfl | hp
      · simpa using c
      · exact prodsE_ok h p hp
theorem checkG_ok {g : Gram} (h : checkG g = 0) : 0 ≤ g.terms ∧ g.terms ≤ 30 ∧ 1 ≤ g.nons ∧ g.nons ≤ 20 ∧ g.prods.length ≤ 40 ∧ ∀ p ∈ g.prods, p.2.length ≤ 8 ∧ 0 ≤ p.1 ∧ p.1 < g.nons ∧ ∀ x ∈ p.2, right g.terms g.nons x = true := by
  unfold checkG at h
  split at h; · simp at h
  split at h; · simp at h
  split at h; · simp at h
  split at h; · simp at h
  split at h; · simp at h
  exact ⟨by omega, by omega, by omega, by omega, by omega, fun p hp => prodE_ok (prodsE_ok h p hp)⟩
end Go.Proofs.Ytlojfbnimmdehaa.gramL

/- Sym -/
namespace Go.Proofs.Ytlojfbnimmdehaa.eng
open Go.RowKit kit mix gramL
def symC (x : Sym) : List Value := [.int .i64 x.1, .int .i64 x.2]
def okSym (x : Sym) : Prop := kit.okI64 x.1 ∧ kit.okI64 x.2
theorem one_sym (l : List Sym) : ∀ u ∈ l.flatMap symC, u.oneCell' = true := by
  intro u hu
  obtain ⟨f, _, h⟩ := List.mem_flatMap.1 hu
  simp only [symC, List.mem_cons, List.not_mem_nil, or_false] at h
  rcases h with rfl | rfl <;> rfl
theorem eq_sym (f f' : Sym) (w : World) : (Op.equalIn 10000 71 (.agg (symC f).toArray) (.agg (symC f').toArray)).run Try.prog w = .ok (decide (f = f')) w := by
  obtain ⟨k, q⟩ := f
  obtain ⟨k', q'⟩ := f'
  unfold symC
  go_simp
  by_cases e1 : k = k' <;> by_cases e2 : q = q' <;> simp [e1, e2]
def symS : Shp Sym := flatS symC 2 (fun _ => rfl) okSym
def prodS : Shp gramL.Prod := pairS intS (sliceS symS)
def graV (t n : Int) (vp : Value) : Value := .agg #[.int .i64 t, .int .i64 n, vp]
/-- a grammar that can be read -/
def GraR (F : Nat → Prop) (w : World) (v : Value) (g : Gram) : Prop := ∃ vp, v = graV g.terms g.nons vp ∧ SlF prodS F w vp g.prods ∧ kit.okI64 g.terms ∧ kit.okI64 g.nons
theorem GraR.stay {F : Nat → Prop} {w w' : World} {v : Value} {g : Gram} (h : GraR F w v g) (hk : ∀ k, F k → w'.heap[k]? = w.heap[k]?) : GraR F w' v g :=
  let ⟨vp, h1, h2, h3⟩ := h; ⟨vp, h1, h2.stay hk, h3⟩
theorem SlF.gr {α : Type} {s : Shp α} {w w' : World} {v : Value} {l : List α} (h : SlF s (fun k => k < w.heap.size) w v l) (hg : Gr w w') : SlF s (fun k => k < w'.heap.size) w' v l :=
  (h.stay fun k hk => hg.block k hk).mono fun k hk => Nat.lt_of_lt_of_le hk hg.size
theorem GraR.gr {w w' : World} {v : Value} {g : Gram} (h : GraR (fun k => k < w.heap.size) w v g) (hg : Gr w w') : GraR (fun k => k < w'.heap.size) w' v g :=
  let ⟨vp, h1, h2, h3⟩ := h; ⟨vp, h1, h2.gr hg, h3⟩
/-- a production of a list -/
theorem prod_at {F : Nat → Prop} {w : World} {b off : Nat} {l : List gramL.Prod} (h : ∀ i (h : i < l.length), ∃ cs, prodS.is F w cs l[i] ∧ Rd w b (off + i * prodS.c) cs) {k : Nat} (hk : k < l.length) :
    ∃ base cap, Rd w b (off + k * 2) [.int .i64 l[k].1, .slice base l[k].2.length cap] ∧ kit.okI64 l[k].1 ∧ SlF symS F w (.slice base l[k].2.length cap) l[k].2 := by
  obtain ⟨cs, ⟨c1, c2, rfl, ⟨rfl, hok⟩, ⟨vb, rfl, hvb⟩⟩, hr⟩ := h k hk
  have hvb' := hvb
  obtain ⟨base, cap, rfl, _⟩ := hvb'
  exact ⟨base, cap, hr, hok, hvb⟩
end Go.Proofs.Ytlojfbnimmdehaa.eng

/- GramI -/
namespace Go.Proofs.Ytlojfbnimmdehaa.eng
open Go.RowKit kit mix gramL
set_option maxRecDepth 100000
/-- where all blocks are the world's own -/
theorem slf_any {α : Type} {s : Shp α} {is : List Value → α → Prop} {w : World} {v : Value} {l : List α} (h : SlX w is s.c v l) (hi : ∀ cs a, is cs a → s.is (fun k => k < w.heap.size) w cs a) (h0 : 0 < s.c) : SlF s (fun k => k < w.heap.size) w v l := by
  obtain ⟨base, cap, h1, h2, h3, h4⟩ := h
  refine ⟨base, cap, h1, h2, h3, fun hl => ?_⟩
  obtain ⟨b, off, h5, h6⟩ := h4 hl
  refine ⟨b, off, h5, ?_, fun i hi' => let ⟨cs, h7, h8⟩ := h6 i hi'; ⟨cs, hi _ _ h7, h8⟩⟩
  obtain ⟨cs, h7, h8⟩ := h6 0 hl
  have hlen := s.len (hi _ _ h7)
  have hc := h8 0 (cs[0]'(by omega)) (List.getElem?_eq_getElem (by omega))
  have := World.block_lt_of_cell? w _ hc
  exact this
theorem opensM_sym {H : Type} {M : Msr Try.prog H} {enc0 : TypeId × Value → H} {W : World} : OpensM M enc0 W 71 (fun cs x => cs = symC x ∧ okSym x) := fun fuel cs x h hm => by
  obtain ⟨hl, hfs⟩ := fieldM_of Try.underlying71 h hm
  have hl2 : cs.length = 2 := hl
  obtain ⟨k, e0, k1⟩ := hfs 0 _ rfl (opensM_i64 Try.underlying3)
  obtain ⟨q, e1, q1⟩ := hfs 1 _ rfl (opensM_i64 Try.underlying3)
  replace e0 : (cs.drop 0).take 1 = [.int .i64 k] := e0
  replace e1 : (cs.drop 1).take 1 = [.int .i64 q] := e1
  refine ⟨(k, q), ?_, k1, q1⟩
  match cs, hl2 with
  | [x, y], _ =>
    simp only [List.drop_succ_cons, List.drop_zero, List.take_succ_cons, List.take_zero, List.cons.injEq, and_true] at e0 e1
    subst e0 e1
    rfl
theorem opensM_prod {H : Type} {M : Msr Try.prog H} {enc0 : TypeId × Value → H} {W : World} : OpensM M enc0 W 68 (fun cs p => prodS.is (fun k => k < W.heap.size) W cs p) := fun fuel cs x h hm => by
  obtain ⟨hl, hfs⟩ := fieldM_of Try.underlying68 h hm
  have hl2 : cs.length = 2 := hl
  obtain ⟨k, e0, k1⟩ := hfs 0 _ rfl (opensM_i64 Try.underlying3)
  obtain ⟨l, ⟨v, e1, hs⟩, _⟩ := hfs 1 _ rfl (opensM_slice (c := 2) Try.underlying66 (by kernel_rfl) (by decide) opensM_sym fun cs a h => by rw [h.1]; rfl)
  replace e0 : (cs.drop 0).take 1 = [.int .i64 k] := e0
  replace e1 : (cs.drop 1).take 1 = [v] := e1
  refine ⟨(k, l), [.int .i64 k], [v], ?_, ⟨rfl, k1⟩, v, rfl, slf_any (s := symS) hs (fun cs a h => h) (by decide)⟩
  match cs, hl2 with
  | [x, y], _ =>
    simp only [List.drop_succ_cons, List.drop_zero, List.take_succ_cons, List.take_zero, List.cons.injEq, and_true] at e0 e1
    subst e0 e1
    rfl
theorem opensM_gram {H : Type} {M : Msr Try.prog H} {enc0 : TypeId × Value → H} {W : World} : OpensM M enc0 W 24 (fun cs g => GraR (fun k => k < W.heap.size) W (.agg cs.toArray) g ∧ M.lim 68 g.prods.length) := fun fuel cs x h hm => by
  obtain ⟨hl, hfs⟩ := fieldM_of Try.underlying24 h hm
  have hl3 : cs.length = 3 := hl
  obtain ⟨t, e0, k1⟩ := hfs 0 _ rfl (opensM_i64 Try.underlying3)
  obtain ⟨n, e1, q1⟩ := hfs 1 _ rfl (opensM_i64 Try.underlying3)
  obtain ⟨l, ⟨v, e2, hs⟩, hlim⟩ := hfs 2 _ rfl (opensM_slice (c := 2) Try.underlying22 (by kernel_rfl) (by decide) opensM_prod fun cs a h => prodS.len h)
  replace e0 : (cs.drop 0).take 1 = [.int .i64 t] := e0
  replace e1 : (cs.drop 1).take 1 = [.int .i64 n] := e1
  replace e2 : (cs.drop 2).take 1 = [v] := e2
  refine ⟨⟨t, n, l⟩, ⟨v, ?_, slf_any (s := prodS) hs (fun cs a h => h) (by decide), k1, q1⟩, hlim⟩
  match cs, hl3 with
  | [x, y, z], _ =>
    simp only [List.drop_succ_cons, List.drop_zero, List.take_succ_cons, List.take_zero, List.cons.injEq, and_true] at e0 e1 e2
    subst e0 e1 e2
    rfl
theorem open_gram {H : Type} {enc0 : TypeId × Value → H} {W : World} {base : Nat} {v : Value} {d : DataW H} {ps : List MemPlace} (hv : Value.okWide Try.prog W .any base 24 v) (h : DataW.Trod enc0 Try.prog W 0 (fun _ => true) true 24 v d ps) {ts : List TypeId} {ds : List (DataW H)} (hsz : (DataW.weightsEach Try.prog ts ds).all (· ≤ reachBytes) = true) (j : Nat) (hj : ts[j]? = some 24) (hd : ds[j]? = some d) :
    ∃ g : Gram, GraR (fun k => k < W.heap.size) W v g ∧ g.prods.length * 32 ≤ 140737488351232 := by
  obtain ⟨cs, g, rfl, h1, h2⟩ := topM_agg (M := weightM Try.prog H) Try.underlying24 hv h opensM_gram (weightM_top hsz j hj hd)
  rw [Array.toArray_toList] at h1
  exact ⟨g, h1, h2⟩
end Go.Proofs.Ytlojfbnimmdehaa.eng

/- TreeL -/
namespace Go.Proofs.Ytlojfbnimmdehaa.treeL
open gramL
inductive Tree where
  | mk (prod tok : Int) (kids : List Tree)
def Tree.prod : Tree → Int | .mk p _ _ => p
def Tree.tok : Tree → Int | .mk _ t _ => t
def Tree.kids : Tree → List Tree | .mk _ _ k => k
def prodAt (l : List gramL.Prod) (p : Int) : gramL.Prod := l.getD p.toNat (0, [])
mutual
def size : Tree → Nat
  | .mk _ _ kids => sizes kids + 1
def sizes : List Tree → Nat
  | [] => 0
  | k :: r => size k + sizes r
end
mutual
def leaves : Tree → Nat
  | .mk p _ kids => if p < 0 then 1 else leavess kids
def leavess : List Tree → Nat
  | [] => 0
  | k :: r => leaves k + leavess r
end
mutual
/-- a tree that is right at a symbol, its leaves' numbers from one on -/
def Right (l : List gramL.Prod) : Tree → Sym → Nat → Prop
  | .mk p k kids, x, v =>
    (x.1 = 1 ∧ p = -1 ∧ k = (v : Int) ∧ kids = []) ∨ (x.1 ≠ 1 ∧ 0 ≤ p ∧ p < (l.length : Int) ∧ (prodAt l p).1 = x.2 ∧ k = 0 ∧ Rights l kids (prodAt l p).2 v)
def Rights (l : List gramL.Prod) : List Tree → List Sym → Nat → Prop
  | [], [], _ => True
  | [], _ :: _, _ => False
  | _ :: _, [], _ => False
  | k :: r, y :: b, v => Right l k y v ∧ Rights l r b (v + leaves k)
end
theorem rights_len {l : List gramL.Prod} : ∀ {ks : List Tree} {b : List Sym} {v : Nat}, Rights l ks b v → ks.length = b.length
  | [], [], _, _ => rfl
  | [], _ :: _, _, h => by simp [Rights] at h
  | _ :: _, [], _, h => by simp [Rights] at h
  | _ :: r, _ :: b, _, h => by
    rw [Rights] at h
    rw [List.length_cons, List.length_cons, rights_len h.2]
/-! ### what each does -/
inductive Deed where
  | ahead (p : Int)
  | behind (p : Int)
  | leaf (term tok : Int)
mutual
def acts (l : List gramL.Prod) : Tree → List Deed
  | .mk p _ kids => .ahead p :: (actss l kids (prodAt l p).2 ++ [.behind p])
def actss (l : List gramL.Prod) : List Tree → List Sym → List Deed
  | [], _ => []
  | _ :: _, [] => []
  | .mk p k ks :: r, y :: b => (if p < 0 then [.leaf y.2 k] else acts l (.mk p k ks)) ++ actss l r b
end
end Go.Proofs.Ytlojfbnimmdehaa.treeL

/- SmL -/
namespace Go.Proofs.Ytlojfbnimmdehaa.smallL
/-! ### the first ones -/
section
variable {κ : Type} [DecidableEq κ]
def firsts : List κ → List κ → List κ
  | D, [] => D
  | D, k :: r => firsts (if k ∈ D then D else D ++ [k]) r
def more (D : List κ) (k : κ) : List κ := if k ∈ D then D else D ++ [k]
theorem firsts_snoc : ∀ (l D : List κ) (k : κ), firsts D (l ++ [k]) = more (firsts D l) k
  | [], _, _ => rfl
  | _ :: l, _, k => firsts_snoc l _ k
theorem more_pre (D : List κ) (k : κ) : ∃ E, more D k = D ++ E := by
  unfold more; split
  · exact ⟨[], by simp⟩
  · exact ⟨[k], rfl⟩
theorem mem_more {D : List κ} {k x : κ} : x ∈ more D k ↔ x ∈ D ∨ x = k := by
  unfold more; split
  · rename_i h
    exact ⟨.inl, fun e => e.elim id fun e => e ▸ h⟩
  · simp
theorem mem_firsts {x : κ} : ∀ {l D : List κ}, x ∈ firsts D l ↔ x ∈ D ∨ x ∈ l
  | [], D => by simp [firsts]
  | k :: l, D => by
    show x ∈ firsts (more D k) l ↔ _
    rw [mem_firsts, mem_more, List.mem_cons, or_assoc]
theorem more_nodup {D : List κ} {k : κ} (h : D.Nodup) : (more D k).Nodup := by
  unfold more; split
  · exact h
  · rename_i hk
    exact List.nodup_append.2 ⟨h, by simp, fun a ha b hb e => by simp at hb; subst hb e; exact hk ha⟩
theorem firsts_nodup : ∀ (l D : List κ), D.Nodup → (firsts D l).Nodup
  | [], _, h => h
  | _ :: l, _, h => firsts_nodup l _ (more_nodup h)
/-- the place of one; its list's length, if it isn't there -/
def idx (D : List κ) (k : κ) : Nat := D.idxOf k
theorem idx_lt {D : List κ} {k : κ} (h : k ∈ D) : idx D k < D.length := List.idxOf_lt_length_of_mem h
theorem idx_get {D : List κ} {k : κ} (h : idx D k < D.length) : D[idx D k] = k := List.getElem_idxOf h
theorem idx_pre {D E : List κ} {k : κ} (h : k ∈ D) : idx (D ++ E) k = idx D k := by unfold idx; rw [List.idxOf_append, if_pos h]
/-- the number of one that has just come -/
theorem idx_more {D : List κ} {k : κ} : idx (more D k) k = if k ∈ D then idx D k else D.length := by
  unfold more; split
  · rfl
  · rename_i h
    unfold idx; rw [List.idxOf_append, if_neg h]; simp
end
theorem getD_left {α : Type} {l m : List α} {k : Nat} {d : α} (h : k < l.length) : (l ++ m).getD k d = l.getD k d := by
  rw [List.getD_eq_getElem?_getD, List.getElem?_append_left h, List.getD_eq_getElem?_getD]
theorem getD_right {α : Type} {l m : List α} {k : Nat} {d : α} (h : l.length ≤ k) : (l ++ m).getD k d = m.getD (k - l.length) d := by
  rw [List.getD_eq_getElem?_getD, List.getElem?_append_right h, List.getD_eq_getElem?_getD]
theorem nodup_bound {l : List Nat} {m : Nat} (h : l.Nodup) (hb : ∀ x ∈ l, x < m) : l.length ≤ m := by
  have hs : ∀ (l l' : List Nat), l.Nodup → (∀ x ∈ l, x ∈ l') → l.length ≤ l'.length := by
    intro l
    induction l with
    | nil => intro l' _ _; simp
    | cons x l ih =>
      intro l' hn hs
      rw [List.nodup_cons] at hn
      have hx : x ∈ l' := hs x (by simp)
      have := ih (l'.erase x) hn.2 (fun y hy => (List.mem_erase_of_ne (by rintro rfl; exact hn.1 hy)).2 (hs y (by simp [hy])))
      rw [List.length_erase_of_mem hx] at this
      have : 0 < l'.length := List.length_pos_of_mem hx
      simp; omega
  have := hs l (List.range m) h fun x hx => List.mem_range.2 (hb x hx)
  simpa using this
end Go.Proofs.Ytlojfbnimmdehaa.smallL

/- ItL -/
namespace Go.Proofs.Ytlojfbnimmdehaa.itemL
open gramL treeL smallL
/-- production, dot, look -/
abbrev Item := Int × Int × Int
def cmpI (a b : Int) : Int := if a < b then -1 else if b < a then 1 else 0
/-- one behind the other -/
def ordI (a b : Item) : Int := if cmpI a.1 b.1 ≠ 0 then cmpI a.1 b.1 else if cmpI a.2.1 b.2.1 ≠ 0 then cmpI a.2.1 b.2.1 else cmpI a.2.2 b.2.2
def ltI (a b : Item) : Bool := decide (ordI a b < 0)
theorem ltI_iff (a b : Item) : ltI a b = true ↔ a.1 < b.1 ∨ (a.1 = b.1 ∧ (a.2.1 < b.2.1 ∨ (a.2.1 = b.2.1 ∧ a.2.2 < b.2.2))) := by
  unfold ltI ordI cmpI
  rw [decide_eq_true_eq]
  repeat' split
  all_goals omega
theorem ltI_no (a b : Item) : ltI a b = false ↔ ¬ (a.1 < b.1 ∨ (a.1 = b.1 ∧ (a.2.1 < b.2.1 ∨ (a.2.1 = b.2.1 ∧ a.2.2 < b.2.2)))) := by
  rw [← ltI_iff, Bool.not_eq_true]
def leI (a b : Item) : Bool := !ltI b a
theorem leI_iff (a b : Item) : leI a b = true ↔ ¬ (b.1 < a.1 ∨ (b.1 = a.1 ∧ (b.2.1 < a.2.1 ∨ (b.2.1 = a.2.1 ∧ b.2.2 < a.2.2)))) := by
  unfold leI
  rw [Bool.not_eq_true', ltI_no]
theorem leI_trans (a b c : Item) (h1 : leI a b = true) (h2 : leI b c = true) : leI a c = true := by
  rw [leI_iff] at *; omega
theorem leI_total (a b : Item) : (leI a b || leI b a) = true := by
  rw [Bool.or_eq_true, leI_iff, leI_iff]; omega
theorem leI_anti {a b : Item} (h1 : leI a b = true) (h2 : leI b a = true) : a = b := by
  rw [leI_iff] at *
  obtain ⟨a1, a2, a3⟩ := a
  obtain ⟨b1, b2, b3⟩ := b
  dsimp only at h1 h2
  rw [Prod.mk.injEq, Prod.mk.injEq]
  omega
theorem ltI_parts (x y : Item) (h1 : ltI x y = false) (h2 : ltI y x = false) : x = y := leI_anti (by unfold leI; rw [h2]; rfl) (by unfold leI; rw [h1]; rfl)
/-- lists that rise: one list for one set -/
def RisI (l : List Item) : Prop := l.Pairwise fun a b => ltI a b = true
theorem ltI_irr (a : Item) : ltI a a = false := by rw [ltI_no]; omega
theorem ltI_tr {a b c : Item} (h1 : ltI a b = true) (h2 : ltI b c = true) : ltI a c = true := by
  rw [ltI_iff] at *; omega
theorem ris_ext : ∀ {l m : List Item}, RisI l → RisI m → (∀ x, x ∈ l ↔ x ∈ m) → l = m
  | [], [], _, _, _ => rfl
  | [], b :: m, _, _, h => by have := (h b).2 (List.mem_cons_self ..); cases this
  | a :: l, [], _, _, h => by have := (h a).1 (List.mem_cons_self ..); cases this
  | a :: l, b :: m, hl, hm, h => by
    have hl' := List.pairwise_cons.1 hl
    have hm' := List.pairwise_cons.1 hm
    have e : a = b := by
      rcases List.mem_cons.1 ((h a).1 (List.mem_cons_self ..)) with e | e
      · exact e
      · rcases List.mem_cons.1 ((h b).2 (List.mem_cons_self ..)) with e' | e'
        · exact e'.symm
        · have h1 := hm'.1 a e
          have h2 := hl'.1 b e'
          have := ltI_tr h1 h2
          rw [ltI_irr] at this; cases this
    subst e
    congr 1
    refine ris_ext hl'.2 hm'.2 fun x => ?_
    constructor
    · intro hx
      rcases List.mem_cons.1 ((h x).1 (List.mem_cons_of_mem _ hx)) with e | e
      · subst e
        have := hl'.1 x hx
        rw [ltI_irr] at this; cases this
      · exact e
    · intro hx
      rcases List.mem_cons.1 ((h x).2 (List.mem_cons_of_mem _ hx)) with e | e
      · subst e
        have := hm'.1 x hx
        rw [ltI_irr] at this; cases this
      · exact e
theorem ris_nodup {l : List Item} (h : RisI l) : l.Nodup := h.imp fun {a b} hab e => by subst e; rw [ltI_irr] at hab; cases hab
def sortI (l : List Item) : List Item := l.mergeSort leI
theorem sort_mem {l : List Item} {x : Item} : x ∈ sortI l ↔ x ∈ l := (List.mergeSort_perm l leI).mem_iff
theorem sort_len (l : List Item) : (sortI l).length = l.length := List.length_mergeSort _
theorem sort_ris {l : List Item} (h : l.Nodup) : RisI (sortI l) := by
  have h1 : (sortI l).Pairwise fun a b => leI a b = true := List.pairwise_mergeSort leI_trans leI_total l
  have h2 : (sortI l).Nodup := (List.mergeSort_perm l leI).nodup_iff.2 h
  refine (h1.and h2).imp fun {a b} hab => ?_
  cases e : ltI a b with
  | true => rfl
  | false => exact absurd (leI_anti hab.1 (by unfold leI; rw [e]; rfl)) hab.2
section
variable (l : List gramL.Prod) (T : Nat) (lk : Int → Int → Nat)
/-- a production's body; the WHOLE's too -/
def bodyI (p : Int) : List Sym := if p = (l.length : Int) then [(2, 0)] else (prodAt l p).2
/-- the symbol behind the dot -/
def nextS (it : Item) : Option Sym := (bodyI l it.1)[it.2.1.toNat]?
/-- looks of what comes up behind it -/
def looksI (it : Item) : Nat := if (lk it.1 it.2.1).testBit 62 = true then (lk it.1 it.2.1 ^^^ 2 ^ 62) ||| 2 ^ it.2.2.toNat else lk it.1 it.2.1
def expLook (i : Nat) (bits : Nat) (out : List Item) : Nat → List Item
  | 0 => out
  | k + 1 => if bits.testBit k = true then more (expLook i bits out k) ((i : Int), 0, (k : Int)) else expLook i bits out k
def expProd (N : Int) (bits : Nat) (out : List Item) : Nat → List Item
  | 0 => out
  | i + 1 => if (prodAt l (i : Int)).1 = N then expLook i bits (expProd N bits out i) (T + 1) else expProd N bits out i
def expI (it : Item) (out : List Item) : List Item := match nextS l it with
  | some x => if x.1 = 2 then expProd l T x.2 (looksI lk it) out l.length else out
  | none => out
def workI : Nat → Nat → List Item → List Item
  | 0, _, out => out
  | f + 1, n, out => if n < out.length then workI f (n + 1) (expI l T lk (out.getD n (0, 0, 0)) out) else out
def closedI (l0 : List Item) : List Item := sortI (workI l T lk 12000 0 (firsts [] l0))
/-- what comes of an item -/
def ExpI (it x : Item) : Prop := ∃ N : Int, ∃ i k : Nat, nextS l it = some (2, N) ∧ i < l.length ∧ (prodAt l (i : Int)).1 = N ∧ k ≤ T ∧ (looksI lk it).testBit k = true ∧ x = ((i : Int), 0, (k : Int))
inductive Cl (l0 : List Item) : Item → Prop
  | base {x : Item} (h : x ∈ l0) : Cl l0 x
  | step {it x : Item} (h : Cl l0 it) (hx : ExpI l T lk it x) : Cl l0 x
def RightI (it : Item) : Prop := 0 ≤ it.1 ∧ it.1 ≤ (l.length : Int) ∧ 0 ≤ it.2.1 ∧ it.2.1 ≤ ((bodyI l it.1).length : Int) ∧ 0 ≤ it.2.2 ∧ it.2.2 ≤ (T : Int)
end
section
variable {l : List gramL.Prod} {T : Nat} {lk : Int → Int → Nat}
theorem expLook_mem {i bits : Nat} {out : List Item} {x : Item} : ∀ k, x ∈ expLook i bits out k ↔ x ∈ out ∨ ∃ j, j < k ∧ bits.testBit j = true ∧ x = ((i : Int), 0, (j : Int))
  | 0 => ⟨.inl, fun h => h.elim id fun ⟨j, hj, _⟩ => absurd hj (Nat.not_lt_zero j)⟩
  | k + 1 => by
    rw [expLook]
    by_cases c : bits.testBit k = true
    · rw [if_pos c, mem_more, expLook_mem k]
      constructor
      · rintro ((h | ⟨j, h1, h2⟩) | h)
        · exact .inl h
        · exact .inr ⟨j, by omega, h2⟩
        · exact .inr ⟨k, by omega, c, h⟩
      · rintro (h | ⟨j, h1, h2, h3⟩)
        · exact .inl (.inl h)
        · by_cases e : j = k
          · subst e; exact .inr h3
          · exact .inl (.inr ⟨j, by omega, h2, h3⟩)
    · rw [if_neg c, expLook_mem k]
      constructor
      · rintro (h | ⟨j, h1, h2⟩)
        · exact .inl h
        · exact .inr ⟨j, by omega, h2⟩
      · rintro (h | ⟨j, h1, h2, h3⟩)
        · exact .inl h
        · by_cases e : j = k
          · subst e; exact absurd h2 c
          · exact .inr ⟨j, by omega, h2, h3⟩
theorem expLook_pre (i bits : Nat) (out : List Item) : ∀ k, ∃ E, expLook i bits out k = out ++ E
  | 0 => ⟨[], (List.append_nil _).symm⟩
  | k + 1 => by
    rw [expLook]
    obtain ⟨E, h⟩ := expLook_pre i bits out k
    split
    · obtain ⟨E2, h2⟩ := more_pre (expLook i bits out k) (((i : Int), 0, (k : Int)) : Item)
      exact ⟨E ++ E2, by rw [h2, h, List.append_assoc]⟩
    · exact ⟨E, h⟩
theorem expLook_nodup {i bits : Nat} {out : List Item} (h : out.Nodup) : ∀ k, (expLook i bits out k).Nodup
  | 0 => h
  | k + 1 => by
    rw [expLook]
    split
    · exact more_nodup (expLook_nodup h k)
    · exact expLook_nodup h k
theorem expProd_mem {N : Int} {bits : Nat} {out : List Item} {x : Item} : ∀ n, x ∈ expProd l T N bits out n ↔ x ∈ out ∨ ∃ i k : Nat, i < n ∧ (prodAt l (i : Int)).1 = N ∧ k ≤ T ∧ bits.testBit k = true ∧ x = ((i : Int), 0, (k : Int))
  | 0 => ⟨.inl, fun h => h.elim id fun ⟨j, _, hj, _⟩ => absurd hj (Nat.not_lt_zero j)⟩
  | n + 1 => by
    rw [expProd]
    by_cases c : (prodAt l (n : Int)).1 = N
    · rw [if_pos c, expLook_mem, expProd_mem n]
      constructor
      · rintro ((h | ⟨i, k, h1, h2⟩) | ⟨j, h1, h2, h3⟩)
        · exact .inl h
        · exact .inr ⟨i, k, by omega, h2⟩
        · exact .inr ⟨n, j, by omega, c, by omega, h2, h3⟩
      · rintro (h | ⟨i, k, h1, h2, h3, h4, h5⟩)
        · exact .inl (.inl h)
        · by_cases e : i = n
          · subst e; exact .inr ⟨k, by omega, h4, h5⟩
          · exact .inl (.inr ⟨i, k, by omega, h2, h3, h4, h5⟩)
    · rw [if_neg c, expProd_mem n]
      constructor
      · rintro (h | ⟨i, k, h1, h2⟩)
        · exact .inl h
        · exact .inr ⟨i, k, by omega, h2⟩
      · rintro (h | ⟨i, k, h1, h2, h3⟩)
        · exact .inl h
        · by_cases e : i = n
          · subst e; exact absurd h2 c
          · exact .inr ⟨i, k, by omega, h2, h3⟩
theorem expProd_pre (N : Int) (bits : Nat) (out : List Item) : ∀ n, ∃ E, expProd l T N bits out n = out ++ E
  | 0 => ⟨[], (List.append_nil _).symm⟩
  | n + 1 => by
    rw [expProd]
    obtain ⟨E, h⟩ := expProd_pre N bits out n
    split
    · obtain ⟨E2, h2⟩ := expLook_pre n bits (expProd l T N bits out n) (T + 1)
      exact ⟨E ++ E2, by rw [h2, h, List.append_assoc]⟩
    · exact ⟨E, h⟩
theorem expProd_nodup {N : Int} {bits : Nat} {out : List Item} (h : out.Nodup) : ∀ n, (expProd l T N bits out n).Nodup
  | 0 => h
  | n + 1 => by
    rw [expProd]
    split
    · exact expLook_nodup (expProd_nodup h n) _
    · exact expProd_nodup h n
theorem exp_mem {it : Item} {out : List Item} {x : Item} : x ∈ expI l T lk it out ↔ x ∈ out ∨ ExpI l T lk it x := by
  unfold expI ExpI
  cases e : nextS l it with
  | none => exact ⟨.inl, fun h => h.elim id fun ⟨_, _, _, h, _⟩ => by cases h⟩
  | some s =>
    obtain ⟨k, N⟩ := s
    dsimp only
    by_cases c : k = 2
    · subst c
      rw [if_pos rfl, expProd_mem]
      constructor
      · rintro (h | ⟨i, j, h1, h2, h3, h4, h5⟩)
        · exact .inl h
        · exact .inr ⟨N, i, j, rfl, h1, h2, h3, h4, h5⟩
      · rintro (h | ⟨N', i, j, h0, h1, h2, h3, h4, h5⟩)
        · exact .inl h
        · simp only [Option.some.injEq, Prod.mk.injEq, true_and] at h0
          subst h0
          exact .inr ⟨i, j, h1, h2, h3, h4, h5⟩
    · rw [if_neg c]
      refine ⟨.inl, fun h => h.elim id fun ⟨N', _, _, h, _⟩ => ?_⟩
      simp only [Option.some.injEq, Prod.mk.injEq] at h
      exact absurd h.1 c
theorem exp_pre (it : Item) (out : List Item) : ∃ E, expI l T lk it out = out ++ E := by
  unfold expI
  split
  · split
    · exact expProd_pre _ _ _ _
    · exact ⟨[], (List.append_nil _).symm⟩
  · exact ⟨[], (List.append_nil _).symm⟩
theorem exp_nodup {it : Item} {out : List Item} (h : out.Nodup) : (expI l T lk it out).Nodup := by
  unfold expI
  split
  · split
    · exact expProd_nodup h _
    · exact h
  · exact h
/-! ### as many as there may be -/
theorem body_len {p : Int} (hw : ∀ q ∈ l, q.2.length ≤ 8) : (bodyI l p).length ≤ 8 := by
  unfold bodyI
  split
  · decide
  · unfold prodAt
    rw [List.getD_eq_getElem?_getD]
    cases e : l[p.toNat]? with
    | none => exact Nat.zero_le _
    | some q => exact hw q (List.mem_of_getElem? e)
theorem right_exp {it x : Item} (h : ExpI l T lk it x) : RightI l T x := by
  obtain ⟨N, i, k, _, h2, _, h4, _, rfl⟩ := h
  exact ⟨by dsimp only; omega, by dsimp only; omega, Int.le_refl _, by dsimp only; omega, by dsimp only; omega, by dsimp only; omega⟩
theorem right_cl {l0 : List Item} (h0 : ∀ x ∈ l0, RightI l T x) {x : Item} (h : Cl l T lk l0 x) : RightI l T x := by
  cases h with
  | base h => exact h0 x h
  | step _ hx => exact right_exp hx
theorem items_few {out : List Item} (hw : ∀ q ∈ l, q.2.length ≤ 8) (hl : l.length ≤ 40) (hT : T ≤ 30) (hn : out.Nodup) (hr : ∀ x ∈ out, RightI l T x) : out.length ≤ 11439 := by
  have := nodup_bound (l := out.map fun x : Item => x.1.toNat * 279 + x.2.1.toNat * 31 + x.2.2.toNat) (m := 11439) ?_ ?_
  · rwa [List.length_map] at this
  · rw [List.nodup_iff_pairwise_ne, List.pairwise_map]
    refine (List.Pairwise.and_mem.1 hn).imp fun {a b} hab e => hab.2.2 ?_
    have ha := hr a hab.1
    have hb := hr b hab.2.1
    have ha8 := body_len (p := a.1) hw
    have hb8 := body_len (p := b.1) hw
    unfold RightI at ha hb
    obtain ⟨a1, a2, a3⟩ := a
    obtain ⟨b1, b2, b3⟩ := b
    dsimp only at *
    rw [Prod.mk.injEq, Prod.mk.injEq]
    omega
  · intro x hx
    obtain ⟨a, ha, rfl⟩ := List.mem_map.1 hx
    have h1 := hr a ha
    have h8 := body_len (p := a.1) hw
    unfold RightI at h1
    omega
/-! ### what is come to -/
structure WkI (l : List gramL.Prod) (T : Nat) (lk : Int → Int → Nat) (l0 : List Item) (n : Nat) (out : List Item) : Prop where
  nd : out.Nodup
  le : n ≤ out.length
  has : ∀ x ∈ l0, x ∈ out
  cl : ∀ x ∈ out, Cl l T lk l0 x
  shut : ∀ j (h : j < out.length), j < n → ∀ x, ExpI l T lk out[j] x → x ∈ out
theorem wk_step {l0 : List Item} {n : Nat} {out : List Item} (h : WkI l T lk l0 n out) (hn : n < out.length) : WkI l T lk l0 (n + 1) (expI l T lk out[n] out) := by
  obtain ⟨E, hE⟩ := exp_pre (l := l) (T := T) (lk := lk) out[n] out
  have hlen : out.length ≤ (expI l T lk out[n] out).length := by rw [hE, List.length_append]; omega
  have hget : ∀ j (h : j < out.length), (expI l T lk out[n] out)[j]'(by omega) = out[j] := fun j hj => by
    simp only [hE, List.getElem_append_left hj]
  refine ⟨exp_nodup h.nd, by omega, fun x hx => exp_mem.2 (.inl (h.has x hx)), fun x hx => ?_, fun j hj hjn x hx => ?_⟩
  · rcases exp_mem.1 hx with h1 | h1
    · exact h.cl x h1
    · exact .step (h.cl _ (List.getElem_mem hn)) h1
  · have hj' : j < out.length := by omega
    rw [hget j hj'] at hx
    by_cases e : j = n
    · subst e; exact exp_mem.2 (.inr hx)
    · exact exp_mem.2 (.inl (h.shut j hj' (by omega) x hx))
theorem work_law {l0 : List Item} (hw : ∀ q ∈ l, q.2.length ≤ 8) (hl : l.length ≤ 40) (hT : T ≤ 30) (h0 : ∀ x ∈ l0, RightI l T x) : ∀ (f n : Nat) (out : List Item), 11440 ≤ f + n → WkI l T lk l0 n out → WkI l T lk l0 (workI l T lk f n out).length (workI l T lk f n out)
  | 0, n, out, hf, h => by
    have := items_few hw hl hT h.nd fun x hx => right_cl h0 (h.cl x hx)
    have := h.le
    omega
  | f + 1, n, out, hf, h => by
    rw [workI]
    by_cases c : n < out.length
    · rw [if_pos c, List.getD_eq_getElem?_getD, List.getElem?_eq_getElem c, Option.getD_some]
      exact work_law hw hl hT h0 f (n + 1) _ (by omega) (wk_step h c)
    · rw [if_neg c]
      have := h.le
      rw [show out.length = n by omega]; exact h
theorem wk_start (l0 : List Item) : WkI l T lk l0 0 (firsts [] l0) :=
  ⟨firsts_nodup l0 [] List.nodup_nil, Nat.zero_le _, fun x hx => mem_firsts.2 (.inr hx), fun x hx => .base ((mem_firsts.1 hx).resolve_left (by simp)), fun j _ h => absurd h (Nat.not_lt_zero j)⟩
section
variable (hw : ∀ q ∈ l, q.2.length ≤ 8) (hl : l.length ≤ 40) (hT : T ≤ 30)
include hw hl hT
theorem closed_mem {l0 : List Item} (h0 : ∀ x ∈ l0, RightI l T x) {x : Item} : x ∈ closedI l T lk l0 ↔ Cl l T lk l0 x := by
  unfold closedI
  rw [sort_mem]
  have h := work_law (lk := lk) hw hl hT h0 12000 0 _ (by omega) (wk_start l0)
  refine ⟨h.cl x, fun hx => ?_⟩
  induction hx with
  | base hb => exact h.has _ hb
  | step _ hx ih =>
    obtain ⟨j, hj, rfl⟩ := List.mem_iff_getElem.1 ih
    exact h.shut j hj hj _ hx
theorem closed_ris {l0 : List Item} (h0 : ∀ x ∈ l0, RightI l T x) : RisI (closedI l T lk l0) :=
  sort_ris (work_law (lk := lk) hw hl hT h0 12000 0 _ (by omega) (wk_start l0)).nd
theorem closed_right {l0 : List Item} (h0 : ∀ x ∈ l0, RightI l T x) : ∀ x ∈ closedI l T lk l0, RightI l T x := fun _ hx => right_cl h0 ((closed_mem hw hl hT h0).1 hx)
theorem closed_len {l0 : List Item} (h0 : ∀ x ∈ l0, RightI l T x) : (closedI l T lk l0).length ≤ 11439 :=
  items_few hw hl hT (ris_nodup (closed_ris hw hl hT h0)) (closed_right hw hl hT h0)
end
end
end Go.Proofs.Ytlojfbnimmdehaa.itemL

/- ItM -/
namespace Go.Proofs.Ytlojfbnimmdehaa.itemL
open gramL treeL smallL
def advI (it : Item) : Item := (it.1, it.2.1 + 1, it.2.2)
section
variable (l : List gramL.Prod) (T N : Nat) (lk : Int → Int → Nat)
/-- items whose dot has gone over x -/
def overI (s : List Item) (x : Sym) : List Item := (s.filter fun it => decide (nextS l it = some x)).map advI
def stepI (s : List Item) (x : Sym) : List Item := closedI l T lk (overI l s x)
def symsI : List Sym := (List.range T).map (fun n : Nat => ((1 : Int), (n : Int))) ++ (List.range N).map (fun n : Nat => ((2 : Int), (n : Int)))
def stateI (S : List (List Item)) (s : List Item) : Nat × List (List Item) := if s ∈ S then (idx S s, S) else (S.length, S ++ [s])
def cellI (s : List Item) (x : Sym) (S : List (List Item)) : Int × List (List Item) := if stepI l T lk s x = [] then (-1, S) else (((stateI S (stepI l T lk s x)).1 : Int), (stateI S (stepI l T lk s x)).2)
def rowI (s : List Item) : List Sym → List Int → List (List Item) → Option (List Int × List (List Item))
  | [], nx, S => some (nx, S)
  | x :: r, nx, S => if 200 < (cellI l T lk s x S).2.length then none else rowI s r (nx ++ [(cellI l T lk s x S).1]) (cellI l T lk s x S).2
def allTo : Nat → Nat → List (List Int) → List (List Item) → Option (List (List Int) × List (List Item))
  | 0, _, _, _ => none
  | f + 1, n, Nx, S => if n < S.length then (match rowI l T lk (S.getD n []) (symsI T N) [] S with
      | none => none
      | some (nx, S') => allTo f (n + 1) (Nx ++ [nx]) S') else some (Nx, S)
def startI : List Item := closedI l T lk [((l.length : Int), 0, (T : Int))]
def allI : Option (List (List Int) × List (List Item)) := allTo l T N lk 202 0 [] [startI l T lk]
end
theorem syms_len (T N : Nat) : (symsI T N).length = T + N := by unfold symsI; rw [List.length_append, List.length_map, List.length_map, List.length_range, List.length_range]
theorem syms_term {T N k : Nat} (h : k < T) : (symsI T N)[k]? = some (1, (k : Int)) := by
  unfold symsI
  rw [List.getElem?_append_left (by simpa using h), List.getElem?_map, List.getElem?_range h]; rfl
theorem syms_non {T N k : Nat} (h : k < N) : (symsI T N)[T + k]? = some (2, (k : Int)) := by
  unfold symsI
  rw [List.getElem?_append_right (by simp), List.length_map, List.length_range, Nat.add_sub_cancel_left, List.getElem?_map, List.getElem?_range h]; rfl
section
variable {l : List gramL.Prod} {T N : Nat} {lk : Int → Int → Nat}
theorem mem_over {s : List Item} {x : Sym} {y : Item} : y ∈ overI l s x ↔ ∃ it ∈ s, nextS l it = some x ∧ y = advI it := by
  unfold overI
  rw [List.mem_map]
  constructor
  · rintro ⟨it, h, rfl⟩
    rw [List.mem_filter, decide_eq_true_eq] at h
    exact ⟨it, h.1, h.2, rfl⟩
  · rintro ⟨it, h1, h2, rfl⟩
    exact ⟨it, List.mem_filter.2 ⟨h1, decide_eq_true h2⟩, rfl⟩
theorem over_right {s : List Item} {x : Sym} (hs : ∀ it ∈ s, RightI l T it) : ∀ y ∈ overI l s x, RightI l T y := by
  intro y hy
  obtain ⟨it, h1, h2, rfl⟩ := mem_over.1 hy
  have hr := hs it h1
  have hd := (List.getElem?_eq_some_iff.1 h2).1
  unfold RightI advI at *
  dsimp only
  omega
/-- states so far, each right -/
structure SsOk (l : List gramL.Prod) (T : Nat) (lk : Int → Int → Nat) (S : List (List Item)) : Prop where
  nd : S.Nodup
  right : ∀ s ∈ S, ∀ it ∈ s, RightI l T it
  shut : ∀ s ∈ S, ∀ it ∈ s, ∀ x, ExpI l T lk it x → x ∈ s
def CellI (l : List gramL.Prod) (T : Nat) (lk : Int → Int → Nat) (S : List (List Item)) (s : List Item) (x : Sym) (c : Int) : Prop :=
  (stepI l T lk s x = [] ∧ c = -1) ∨ (stepI l T lk s x ≠ [] ∧ stepI l T lk s x ∈ S ∧ c = (idx S (stepI l T lk s x) : Int))
theorem CellI.app {S : List (List Item)} {s : List Item} {x : Sym} {c : Int} (h : CellI l T lk S s x c) (E : List (List Item)) : CellI l T lk (S ++ E) s x c := by
  rcases h with h | ⟨h1, h2, h3⟩
  · exact .inl h
  · exact .inr ⟨h1, List.mem_append_left _ h2, by rw [h3, idx_pre h2]⟩
section
variable (hw : ∀ q ∈ l, q.2.length ≤ 8) (hl : l.length ≤ 40) (hT : T ≤ 30)
include hw hl hT
omit hw hl hT in
theorem state_lawI {S : List (List Item)} (hS : SsOk l T lk S) {s : List Item} (hs : ∀ it ∈ s, RightI l T it) (hsh : ∀ it ∈ s, ∀ x, ExpI l T lk it x → x ∈ s) : (∃ E, (stateI S s).2 = S ++ E) ∧ s ∈ (stateI S s).2 ∧ (stateI S s).1 = idx (stateI S s).2 s ∧ SsOk l T lk (stateI S s).2 := by
  unfold stateI
  by_cases c : s ∈ S
  · rw [if_pos c]
    exact ⟨⟨[], (List.append_nil _).symm⟩, c, rfl, hS⟩
  · rw [if_neg c]
    refine ⟨⟨[s], rfl⟩, List.mem_append_right _ (List.mem_singleton.2 rfl), ?_, ?_, ?_, ?_⟩
    · show S.length = idx (S ++ [s]) s
      have := idx_more (D := S) (k := s)
      unfold more at this
      rw [if_neg c, if_neg c] at this
      exact this.symm
    · rw [List.nodup_append]
      exact ⟨hS.nd, by simp, fun a ha b hb e => by rw [List.mem_singleton.1 hb] at e; subst e; exact c ha⟩
    · intro s' hs' it hit
      rcases List.mem_append.1 hs' with h | h
      · exact hS.right s' h it hit
      · rw [List.mem_singleton.1 h] at hit; exact hs it hit
    · intro s' hs' it hit x hx
      rcases List.mem_append.1 hs' with h | h
      · exact hS.shut s' h it hit x hx
      · rw [List.mem_singleton.1 h] at hit ⊢; exact hsh it hit x hx
theorem closed_shut {l0 : List Item} (h0 : ∀ x ∈ l0, RightI l T x) : ∀ it ∈ closedI l T lk l0, ∀ x, ExpI l T lk it x → x ∈ closedI l T lk l0 := fun it hit x hx =>
  (closed_mem hw hl hT h0).2 (.step ((closed_mem hw hl hT h0).1 hit) hx)
theorem cell_lawI {S : List (List Item)} (hS : SsOk l T lk S) {s : List Item} (hs : ∀ it ∈ s, RightI l T it) (x : Sym) : (∃ E, (cellI l T lk s x S).2 = S ++ E) ∧ CellI l T lk (cellI l T lk s x S).2 s x (cellI l T lk s x S).1 ∧ SsOk l T lk (cellI l T lk s x S).2 := by
  unfold cellI
  by_cases c : stepI l T lk s x = []
  · rw [if_pos c]
    exact ⟨⟨[], (List.append_nil _).symm⟩, .inl ⟨c, rfl⟩, hS⟩
  · rw [if_neg c]
    obtain ⟨h1, h2, h3, h4⟩ := state_lawI hS (closed_right (lk := lk) hw hl hT (over_right (x := x) hs)) (closed_shut hw hl hT (over_right (x := x) hs))
    exact ⟨h1, .inr ⟨c, h2, congrArg _ h3⟩, h4⟩
theorem row_lawI {s : List Item} (hs : ∀ it ∈ s, RightI l T it) : ∀ (xs : List Sym) (nx : List Int) (S : List (List Item)) (done : List Sym) (nx' : List Int) (S' : List (List Item)), SsOk l T lk S → rowI l T lk s xs nx S = some (nx', S') → S.length ≤ 200 → nx.length = done.length → (∀ k x, done[k]? = some x → CellI l T lk S s x (nx.getD k 0)) →
    (∃ E, S' = S ++ E) ∧ SsOk l T lk S' ∧ S'.length ≤ 200 ∧ nx'.length = (done ++ xs).length ∧ ∀ k x, (done ++ xs)[k]? = some x → CellI l T lk S' s x (nx'.getD k 0)
  | [], nx, S, done, nx', S', hS, h, h200, hlen, hd => by
    simp only [rowI, Option.some.injEq, Prod.mk.injEq] at h
    obtain ⟨rfl, rfl⟩ := h
    rw [List.append_nil]
    exact ⟨⟨[], (List.append_nil _).symm⟩, hS, h200, hlen, hd⟩
  | x :: xs, nx, S, done, nx', S', hS, h, h200, hlen, hd => by
    rw [rowI] at h
    by_cases c : 200 < (cellI l T lk s x S).2.length
    · rw [if_pos c] at h; cases h
    · rw [if_neg c] at h
      obtain ⟨⟨E, h1⟩, h2, h3⟩ := cell_lawI (lk := lk) hw hl hT hS hs x
      obtain ⟨⟨E2, q1⟩, q2, q3, q4, q5⟩ := row_lawI hs xs (nx ++ [(cellI l T lk s x S).1]) _ (done ++ [x]) nx' S' h3 h (by omega) (by rw [List.length_append, List.length_append, hlen]; rfl) (fun k y hk => by
        by_cases ek : k < done.length
        · rw [List.getElem?_append_left ek] at hk
          rw [getD_left (by omega), h1]
          exact (hd k y hk).app E
        · have hk' := (List.getElem?_eq_some_iff.1 hk).1
          rw [List.length_append, List.length_singleton] at hk'
          obtain rfl : k = done.length := by omega
          rw [List.getElem?_append_right (Nat.le_refl _), Nat.sub_self] at hk
          simp only [List.getElem?_cons_zero, Option.some.injEq] at hk
          subst hk
          rw [getD_right (by omega), hlen, Nat.sub_self]
          exact h2)
      rw [List.append_assoc, List.singleton_append] at q4 q5
      exact ⟨⟨E ++ E2, by rw [q1, h1, List.append_assoc]⟩, q2, q3, q4, q5⟩
/-- what has been made of all -/
structure AllI (l : List gramL.Prod) (T N : Nat) (lk : Int → Int → Nat) (n : Nat) (Nx : List (List Int)) (S : List (List Item)) : Prop where
  ss : SsOk l T lk S
  few : S.length ≤ 200
  le : n ≤ S.length
  len : Nx.length = n
  start : S[0]? = some (startI l T lk)
  wide : ∀ q, q < n → (Nx.getD q []).length = T + N
  cell : ∀ q, q < n → ∀ k x, (symsI T N)[k]? = some x → CellI l T lk S (S.getD q []) x ((Nx.getD q []).getD k 0)
theorem all_lawI : ∀ (f n : Nat) (Nx : List (List Int)) (S : List (List Item)) (Nx' : List (List Int)) (S' : List (List Item)), allTo l T N lk f n Nx S = some (Nx', S') → AllI l T N lk n Nx S → AllI l T N lk S'.length Nx' S'
  | 0, _, _, _, _, _, h, _ => by cases h
  | f + 1, n, Nx, S, Nx', S', h, hi => by
    rw [allTo] at h
    by_cases c : n < S.length
    · rw [if_pos c] at h
      have hget : S.getD n [] = S[n] := by rw [List.getD_eq_getElem?_getD, List.getElem?_eq_getElem c]; rfl
      have hs : ∀ it ∈ S.getD n [], RightI l T it := by rw [hget]; exact hi.ss.right _ (List.getElem_mem c)
      cases e : rowI l T lk (S.getD n []) (symsI T N) [] S with
      | none => rw [e] at h; cases h
      | some r =>
        obtain ⟨nx, S1⟩ := r
        rw [e] at h
        dsimp only at h
        obtain ⟨⟨E, q1⟩, q2, q3, q4, q5⟩ := row_lawI (lk := lk) hw hl hT hs (symsI T N) [] S [] nx S1 hi.ss e hi.few rfl (fun k x hk => by simp at hk)
        rw [List.nil_append] at q4 q5
        have hlen := congrArg List.length q1
        rw [List.length_append] at hlen
        refine all_lawI f (n + 1) _ S1 Nx' S' h ⟨q2, q3, by omega, by rw [List.length_append, hi.len]; rfl, ?_, fun q hq => ?_, fun q hq k x hk => ?_⟩
        · rw [q1, List.getElem?_append_left (by have := (List.getElem?_eq_some_iff.1 hi.start).1; omega)]; exact hi.start
        · by_cases eq : q = n
          · subst eq
            rw [getD_right (by rw [hi.len]; exact Nat.le_refl _), hi.len, Nat.sub_self]
            show nx.length = T + N
            rw [q4, syms_len]
          · rw [getD_left (by rw [hi.len]; omega)]; exact hi.wide q (by omega)
        · by_cases eq : q = n
          · subst eq
            rw [getD_right (by rw [hi.len]; exact Nat.le_refl _), hi.len, Nat.sub_self]
            have e1 : S1.getD q [] = S.getD q [] := by rw [q1, getD_left c]
            rw [e1]
            exact q5 k x hk
          · rw [getD_left (by rw [hi.len]; omega)]
            have e1 : S1.getD q [] = S.getD q [] := by rw [q1, getD_left (by omega)]
            rw [e1, q1]
            exact (hi.cell q (by omega) k x hk).app E
    · rw [if_neg c] at h
      simp only [Option.some.injEq, Prod.mk.injEq] at h
      obtain ⟨rfl, rfl⟩ := h
      have : n = S.length := by have := hi.le; omega
      rw [← this]; exact hi
omit hw in
theorem start_right : ∀ x ∈ [(((l.length : Int), 0, (T : Int)) : Item)], RightI l T x := by
  intro x hx
  rw [List.mem_singleton.1 hx]
  exact ⟨by dsimp only; omega, Int.le_refl _, Int.le_refl _, by dsimp only; omega, by dsimp only; omega, Int.le_refl _⟩
theorem allI_law {Nx : List (List Int)} {S : List (List Item)} (h : allI l T N lk = some (Nx, S)) : AllI l T N lk S.length Nx S :=
  all_lawI hw hl hT 202 0 [] [startI l T lk] Nx S h
    ⟨⟨by simp, fun s hs it hit => by rw [List.mem_singleton.1 hs] at hit; exact closed_right (lk := lk) hw hl hT (start_right hl hT) it hit, fun s hs it hit x hx => by rw [List.mem_singleton.1 hs] at hit ⊢; exact closed_shut hw hl hT (start_right hl hT) it hit x hx⟩, by simp, Nat.zero_le _, rfl, rfl, fun q hq => absurd hq (Nat.not_lt_zero q), fun q hq => absurd hq (Nat.not_lt_zero q)⟩
end
end
/-! ### names of lists -/
def nameI (s : List Item) : List UInt8 := s.flatMap fun it => [UInt8.ofNat it.1.toNat, UInt8.ofNat it.2.1.toNat, UInt8.ofNat it.2.2.toNat]
theorem u8_inj {a b : Int} (ha : 0 ≤ a ∧ a < 256) (hb : 0 ≤ b ∧ b < 256) (h : UInt8.ofNat a.toNat = UInt8.ofNat b.toNat) : a = b := by
  have := congrArg UInt8.toNat h
  rw [UInt8.toNat_ofNat', UInt8.toNat_ofNat'] at this
  omega
theorem name_inj : ∀ {s s' : List Item}, (∀ it ∈ s, 0 ≤ it.1 ∧ it.1 < 256 ∧ 0 ≤ it.2.1 ∧ it.2.1 < 256 ∧ 0 ≤ it.2.2 ∧ it.2.2 < 256) → (∀ it ∈ s', 0 ≤ it.1 ∧ it.1 < 256 ∧ 0 ≤ it.2.1 ∧ it.2.1 < 256 ∧ 0 ≤ it.2.2 ∧ it.2.2 < 256) → nameI s = nameI s' → s = s'
  | [], [], _, _, _ => rfl
  | [], b :: s', _, _, h => by simp [nameI] at h
  | a :: s, [], _, _, h => by simp [nameI] at h
  | a :: s, b :: s', h1, h2, h => by
    have ha := h1 a (List.mem_cons_self ..)
    have hb := h2 b (List.mem_cons_self ..)
    unfold nameI at h
    rw [List.flatMap_cons, List.flatMap_cons] at h
    simp only [List.cons_append, List.nil_append, List.cons.injEq] at h
    obtain ⟨e1, e2, e3, e4⟩ := h
    have e1 := u8_inj ⟨ha.1, ha.2.1⟩ ⟨hb.1, hb.2.1⟩ e1
    have e2 := u8_inj ⟨ha.2.2.1, ha.2.2.2.1⟩ ⟨hb.2.2.1, hb.2.2.2.1⟩ e2
    have e3 := u8_inj ⟨ha.2.2.2.2.1, ha.2.2.2.2.2⟩ ⟨hb.2.2.2.2.1, hb.2.2.2.2.2⟩ e3
    have e : a = b := by
      obtain ⟨a1, a2, a3⟩ := a
      obtain ⟨b1, b2, b3⟩ := b
      simp only at e1 e2 e3
      rw [e1, e2, e3]
    rw [e, name_inj (fun it hit => h1 it (List.mem_cons_of_mem _ hit)) (fun it hit => h2 it (List.mem_cons_of_mem _ hit)) e4]
end Go.Proofs.Ytlojfbnimmdehaa.itemL

/- TreeM -/
namespace Go.Proofs.Ytlojfbnimmdehaa.treeL
open gramL
def termOf : Deed → Option Int
  | .leaf t _ => some t
  | _ => none
def yieldT (l : List gramL.Prod) (t : Tree) : List Int := (acts l t).filterMap termOf
def yields (l : List gramL.Prod) (ks : List Tree) (b : List Sym) : List Int := (actss l ks b).filterMap termOf
theorem yieldT_eq (l : List gramL.Prod) (p k : Int) (kids : List Tree) : yieldT l (.mk p k kids) = yields l kids (prodAt l p).2 := by
  unfold yieldT yields
  rw [acts, List.filterMap_cons_none rfl, List.filterMap_append]
  simp [termOf]
theorem yields_cons (l : List gramL.Prod) (p k : Int) (ks r : List Tree) (y : Sym) (b : List Sym) : yields l (.mk p k ks :: r) (y :: b) = (if p < 0 then [y.2] else yieldT l (.mk p k ks)) ++ yields l r b := by
  unfold yields yieldT
  rw [actss, List.filterMap_append]
  congr 1
  split <;> rfl
theorem leavess_app (a b : List Tree) : leavess (a ++ b) = leavess a + leavess b := by
  induction a with
  | nil => rw [List.nil_append, leavess, Nat.zero_add]
  | cons x r ih => rw [List.cons_append, leavess, leavess, ih, Nat.add_assoc]
mutual
theorem yield_len {l : List gramL.Prod} : ∀ {t : Tree} {x : Sym} {u : Nat}, Right l t x u → 0 ≤ t.prod → (yieldT l t).length = leaves t
  | .mk p k kids, x, u, h, hp => by
    rw [Right] at h
    have hp : 0 ≤ p := hp
    rw [yieldT_eq, leaves, if_neg (by omega)]
    rcases h with ⟨_, h, _⟩ | ⟨_, _, _, _, _, h⟩
    · omega
    · exact yields_len h
theorem yields_len {l : List gramL.Prod} : ∀ {ks : List Tree} {b : List Sym} {u : Nat}, Rights l ks b u → (yields l ks b).length = leavess ks
  | [], [], _, _ => by rw [leavess]; simp [yields, actss]
  | .mk p k kk :: r, y :: b, u, h => by
    rw [Rights] at h
    rw [yields_cons, List.length_append, yields_len h.2, leavess]
    congr 1
    split
    · rw [leaves, if_pos (by assumption)]; rfl
    · exact yield_len h.1 (by show (0 : Int) ≤ p; omega)
  | [], _ :: _, _, h => by simp [Rights] at h
  | _ :: _, [], _, h => by simp [Rights] at h
end
end Go.Proofs.Ytlojfbnimmdehaa.treeL

/- TreeE -/
namespace Go.Proofs.Ytlojfbnimmdehaa.treeL
open gramL
def evU : Deed → Option Sym
  | .ahead _ => none
  | .leaf _ q => some (2, q)
  | .behind p => some (4, p)
def upE (l : List gramL.Prod) (t : Tree) : List Sym := (acts l t).filterMap evU
end Go.Proofs.Ytlojfbnimmdehaa.treeL

/- TreeP -/
namespace Go.Proofs.Ytlojfbnimmdehaa.treeL
open gramL
theorem acts_eq (l : List gramL.Prod) (p k : Int) (kids : List Tree) : acts l (.mk p k kids) = .ahead p :: (actss l kids (prodAt l p).2 ++ [.behind p]) := by rw [acts]
end Go.Proofs.Ytlojfbnimmdehaa.treeL

/- CountL -/
namespace Go.Proofs.Ytlojfbnimmdehaa.countL
open gramL
abbrev Span := Int × Int × Int
abbrev Chart := Span → Nat
def oneF (c : Chart) (w : List Int) (x : Sym) (a b : Nat) : Nat := if x.1 = 2 then c (x.2, (a : Int), (b : Int)) else if b = a + 1 ∧ w[a]? = some x.2 then 1 else 0
def sumN (f : Nat → Nat) : Nat → Nat
  | 0 => 0
  | k + 1 => sumN f k + f k
/-- from places to places, by one symbol more -/
def nextF (o : Nat → Nat → Nat) (f : Nat → Nat) (b : Nat) : Nat := min 2 (sumN (fun j => f j * o j b) (b + 1))
/-- the same, i places of the old ones being done -/
def partF (o : Nat → Nat → Nat) (f : Nat → Nat) (i b : Nat) : Nat := min 2 (sumN (fun j => f j * o j b) (min i (b + 1)))
def waysF (o : Sym → Nat → Nat → Nat) (a : Nat) : List Sym → (Nat → Nat) → Nat → Nat
  | [], f => f
  | x :: r, f => waysF o a r (nextF (fun i j => o x (a + i) (a + j)) f)
def ways0 (b : Nat) : Nat := if b = 0 then 1 else 0
def rowF (o : Sym → Nat → Nat → Nat) (l : List Sym) (a b : Nat) : Nat := waysF o a l ways0 (b - a)
/-- all productions of a nonterminal -/
def sumP (o : Sym → Nat → Nat → Nat) (a b : Nat) (n : Nat) : List gramL.Prod → Nat
  | [] => 0
  | p :: r => (if p.1 = (n : Int) then rowF o p.2 a b else 0) + sumP o a b n r
def nowF (o : Sym → Nat → Nat → Nat) (l : List gramL.Prod) (a b n : Nat) : Nat := min 2 (sumP o a b n l)
/-- a function as a list -/
def tab (len : Nat) (f : Nat → Nat) : List Nat := (List.range len).map f
theorem tab_len (len : Nat) (f : Nat → Nat) : (tab len f).length = len := by simp [tab]
theorem tab_get {len : Nat} (f : Nat → Nat) {k : Nat} (h : k < len) : (tab len f)[k]? = some (f k) := by simp [tab, h]
theorem tab_set {len : Nat} (f g : Nat → Nat) (k v : Nat) (h : ∀ i, i < len → g i = if i = k then v else f i) : (tab len f).set k v = tab len g := by
  apply List.ext_getElem?
  intro i
  rw [List.getElem?_set]
  by_cases hi : i < len
  · rw [tab_get g hi, h i hi]
    by_cases e : k = i
    · subst e; simp [tab_len, hi]
    · rw [if_neg e, if_neg (fun e' => e e'.symm), tab_get f hi]
  · have h1 : (tab len g)[i]? = none := List.getElem?_eq_none (by rw [tab_len]; omega)
    have h2 : (tab len f)[i]? = none := List.getElem?_eq_none (by rw [tab_len]; omega)
    rw [h1, h2]
    by_cases e : k = i
    · subst e; simp [tab_len, hi]
    · rw [if_neg e]
theorem tab_congr {len : Nat} {f g : Nat → Nat} (h : ∀ i, i < len → f i = g i) : tab len f = tab len g := by
  unfold tab
  apply List.map_congr_left
  intro i hi
  exact h i (by simpa using hi)
theorem sumN_zero (f : Nat → Nat) : ∀ k, (∀ j, j < k → f j = 0) → sumN f k = 0
  | 0, _ => rfl
  | k + 1, h => by rw [sumN, sumN_zero f k fun j hj => h j (by omega), h k (by omega)]
theorem nextF_le (o : Nat → Nat → Nat) (f : Nat → Nat) (b : Nat) : nextF o f b ≤ 2 := Nat.min_le_left ..
theorem partF_le (o : Nat → Nat → Nat) (f : Nat → Nat) (i b : Nat) : partF o f i b ≤ 2 := Nat.min_le_left ..
theorem partF_0 (o : Nat → Nat → Nat) (f : Nat → Nat) (b : Nat) : partF o f 0 b = 0 := by simp [partF, sumN]
theorem partF_end (o : Nat → Nat → Nat) (f : Nat → Nat) {i b : Nat} (h : b < i) : partF o f i b = nextF o f b := by
  unfold partF nextF
  have e : min i (b + 1) = b + 1 := by omega
  rw [e]
theorem partF_step (o : Nat → Nat → Nat) (f : Nat → Nat) {i b : Nat} (h : i ≤ b) : partF o f (i + 1) b = min (partF o f i b + f i * o i b) 2 := by
  unfold partF
  have e1 : min (i + 1) (b + 1) = i + 1 := by omega
  have e2 : min i (b + 1) = i := by omega
  rw [e1, e2, sumN]
  omega
theorem partF_skip (o : Nat → Nat → Nat) (f : Nat → Nat) {i b : Nat} (h : b < i) : partF o f (i + 1) b = partF o f i b := by
  rw [partF_end o f h, partF_end o f (by omega)]
theorem partF_none (o : Nat → Nat → Nat) (f : Nat → Nat) {i : Nat} (h : f i = 0) (b : Nat) : partF o f (i + 1) b = partF o f i b := by
  by_cases c : i ≤ b
  · rw [partF_step o f c, h, Nat.zero_mul]
    have := partF_le o f i b
    omega
  · exact partF_skip o f (by omega)
/-- i places are done, and the one behind them up to b -/
def mixF (o : Nat → Nat → Nat) (f : Nat → Nat) (i b : Nat) : Nat → Nat := fun j => if j < b then partF o f (i + 1) j else partF o f i j
theorem mixF_0 (o : Nat → Nat → Nat) (f : Nat → Nat) (i : Nat) : mixF o f i i = partF o f i := by
  funext j
  unfold mixF
  split
  · exact partF_skip o f (by assumption)
  · rfl
theorem mixF_none (o : Nat → Nat → Nat) (f : Nat → Nat) {i : Nat} (h : f i = 0) (b : Nat) : mixF o f i b = partF o f (i + 1) := by
  funext j
  unfold mixF
  rw [partF_none o f h, ite_self]
theorem mixF_at (o : Nat → Nat → Nat) (f : Nat → Nat) (i b : Nat) : mixF o f i b b = partF o f i b := by simp [mixF]
theorem mixF_step (o : Nat → Nat → Nat) (f : Nat → Nat) (i b j : Nat) : mixF o f i (b + 1) j = if j = b then partF o f (i + 1) b else mixF o f i b j := by
  unfold mixF
  by_cases c : j = b
  · subst c; rw [if_pos (by omega), if_pos rfl]
  · rw [if_neg c]
    by_cases c2 : j < b
    · rw [if_pos (by omega), if_pos c2]
    · rw [if_neg (by omega), if_neg c2]
theorem mixF_end (o : Nat → Nat → Nat) (f : Nat → Nat) {i b len : Nat} (h : len ≤ b) : tab len (mixF o f i b) = tab len (partF o f (i + 1)) := tab_congr fun j hj => by
  unfold mixF; rw [if_pos (by omega)]
theorem oneF_le {c : Chart} (hc : ∀ x, c x ≤ 2) (w : List Int) (x : Sym) (a b : Nat) : oneF c w x a b ≤ 2 := by
  unfold oneF
  split
  · exact hc _
  · split <;> omega
theorem ways0_le (b : Nat) : ways0 b ≤ 2 := by unfold ways0; split <;> omega
theorem waysF_le {o : Sym → Nat → Nat → Nat} {a : Nat} : ∀ (l : List Sym) (f : Nat → Nat), (∀ b, f b ≤ 2) → ∀ b, waysF o a l f b ≤ 2
  | [], f, h, b => h b
  | x :: r, f, h, b => waysF_le r _ (fun b => nextF_le _ _ b) b
theorem rowF_le (o : Sym → Nat → Nat → Nat) (l : List Sym) (a b : Nat) : rowF o l a b ≤ 2 := waysF_le l _ ways0_le _
theorem nowF_le (o : Sym → Nat → Nat → Nat) (l : List gramL.Prod) (a b n : Nat) : nowF o l a b n ≤ 2 := Nat.min_le_left ..
theorem sumP_snoc (o : Sym → Nat → Nat → Nat) (a b n : Nat) (p : gramL.Prod) : ∀ l, sumP o a b n (l ++ [p]) = sumP o a b n l + (if p.1 = (n : Int) then rowF o p.2 a b else 0)
  | [] => by simp [sumP]
  | q :: r => by rw [List.cons_append, sumP, sumP, sumP_snoc o a b n p r]; omega
theorem nowF_snoc (o : Sym → Nat → Nat → Nat) (a b : Nat) (p : gramL.Prod) (l : List gramL.Prod) {h : Nat} (hp : p.1 = (h : Int)) (n : Nat) : nowF o (l ++ [p]) a b n = if n = h then min (nowF o l a b h + rowF o p.2 a b) 2 else nowF o l a b n := by
  unfold nowF
  rw [sumP_snoc]
  by_cases c : n = h
  · subst c
    rw [if_pos hp, if_pos rfl]
    omega
  · rw [if_neg (by omega), if_neg c, Nat.add_zero]
/-- a round over a span: what the chart is behind it, and whether something is new -/
def roundC (c : Chart) (w : List Int) (l : List gramL.Prod) (nons a b : Nat) (k : Nat) : Chart := fun x => if x.2.1 = (a : Int) ∧ x.2.2 = (b : Int) ∧ 0 ≤ x.1 ∧ x.1 < (k : Int) ∧ x.1 < (nons : Int) then nowF (oneF c w) l a b x.1.toNat else c x
def newB (c : Chart) (w : List Int) (l : List gramL.Prod) (a b : Nat) : Nat → Bool
  | 0 => false
  | k + 1 => newB c w l a b k || !decide (c ((k : Int), (a : Int), (b : Int)) = nowF (oneF c w) l a b k)
theorem roundC_0 (c : Chart) (w : List Int) (l : List gramL.Prod) (n a b : Nat) : roundC c w l n a b 0 = c := by
  funext x
  unfold roundC
  rw [if_neg (by omega)]
theorem roundC_at (c : Chart) (w : List Int) (l : List gramL.Prod) (n a b k : Nat) : roundC c w l n a b k ((k : Int), (a : Int), (b : Int)) = c ((k : Int), (a : Int), (b : Int)) := by
  unfold roundC
  rw [if_neg (by dsimp only; omega)]
theorem roundC_step (c : Chart) (w : List Int) (l : List gramL.Prod) {n a b k : Nat} (hk : k < n) (y : Span) : roundC c w l n a b (k + 1) y = if y = ((k : Int), (a : Int), (b : Int)) then nowF (oneF c w) l a b k else roundC c w l n a b k y := by
  obtain ⟨q, y1, y2⟩ := y
  unfold roundC
  dsimp only
  by_cases e : (q, y1, y2) = ((k : Int), (a : Int), (b : Int))
  · rw [if_pos e]
    simp only [Prod.mk.injEq] at e
    obtain ⟨rfl, rfl, rfl⟩ := e
    rw [if_pos (by omega), Int.toNat_natCast]
  · rw [if_neg e]
    by_cases c1 : y1 = (a : Int) ∧ y2 = (b : Int) ∧ 0 ≤ q ∧ q < (k : Int) ∧ q < (n : Int)
    · rw [if_pos c1, if_pos (by omega)]
    · rw [if_neg c1, if_neg (fun h => ?_)]
      have : q = (k : Int) := by omega
      exact e (by rw [this, h.1, h.2.1])
def checkW (t : Int) : List Int → Int
  | [] => 0
  | x :: r => if x < 0 then 1 else if t ≤ x then 1 else checkW t r
def checkC (g : Gram) (w : List Int) : Int := if checkG g ≠ 0 then checkG g else if 20 < w.length then 2 else checkW g.terms w
theorem checkW_ok {t : Int} : ∀ {w : List Int}, checkW t w = 0 → ∀ x ∈ w, 0 ≤ x ∧ x < t
  | [], _, _, h => by cases h
  | y :: r, h, x, hx => by
    unfold checkW at h
    split at h; · cases h
    split at h; · cases h
    rcases List.mem_cons.1 hx with rfl | hx
    · omega
    · exact checkW_ok h x hx
theorem checkC_ok {g : Gram} {w : List Int} (h : checkC g w = 0) : checkG g = 0 ∧ w.length ≤ 20 ∧ ∀ x ∈ w, 0 ≤ x ∧ x < g.terms := by
  unfold checkC at h
  split at h; · contradiction
  split at h; · cases h
  rename_i a b
  exact ⟨by simpa using a, by omega, checkW_ok h⟩
end Go.Proofs.Ytlojfbnimmdehaa.countL

/- CountN -/
namespace Go.Proofs.Ytlojfbnimmdehaa.countL
open gramL
theorem sumN_mono {f f' : Nat → Nat} : ∀ k, (∀ j, j < k → f j ≤ f' j) → sumN f k ≤ sumN f' k
  | 0, _ => Nat.le_refl _
  | k + 1, h => by
    rw [sumN, sumN]
    exact Nat.add_le_add (sumN_mono k fun j hj => h j (by omega)) (h k (by omega))
theorem nextF_mono {o o' : Nat → Nat → Nat} {f f' : Nat → Nat} {b : Nat} (ho : ∀ j, j ≤ b → o j b ≤ o' j b) (hf : ∀ j, j ≤ b → f j ≤ f' j) : nextF o f b ≤ nextF o' f' b := by
  have := sumN_mono (f := fun j => f j * o j b) (f' := fun j => f' j * o' j b) (b + 1) fun j hj => Nat.mul_le_mul (hf j (by omega)) (ho j (by omega))
  unfold nextF
  omega
theorem waysF_mono {o o' : Sym → Nat → Nat → Nat} {a d : Nat} : ∀ (l : List Sym) (f f' : Nat → Nat), (∀ x ∈ l, ∀ i j, i ≤ j → j ≤ d → o x (a + i) (a + j) ≤ o' x (a + i) (a + j)) → (∀ j, j ≤ d → f j ≤ f' j) → ∀ j, j ≤ d → waysF o a l f j ≤ waysF o' a l f' j
  | [], _, _, _, hf, j, hj => hf j hj
  | x :: r, f, f', ho, hf, j, hj => by
    rw [waysF, waysF]
    exact waysF_mono r _ _ (fun y hy => ho y (by simp [hy])) (fun j hj => nextF_mono (o := fun i j => o x (a + i) (a + j)) (o' := fun i j => o' x (a + i) (a + j)) (fun i hi => ho x (by simp) i j hi hj) fun i hi => hf i (by omega)) j hj
theorem rowF_mono {o o' : Sym → Nat → Nat → Nat} {l : List Sym} {a b : Nat} (hab : a ≤ b) (ho : ∀ x ∈ l, ∀ i j, a ≤ i → i ≤ j → j ≤ b → o x i j ≤ o' x i j) : rowF o l a b ≤ rowF o' l a b :=
  waysF_mono (d := b - a) l _ _ (fun x hx i j hi hj => ho x hx (a + i) (a + j) (by omega) (by omega) (by omega)) (fun _ _ => Nat.le_refl _) _ (Nat.le_refl _)
theorem sumP_mono {o o' : Sym → Nat → Nat → Nat} {a b n : Nat} : ∀ (l : List gramL.Prod), (∀ p ∈ l, p.1 = (n : Int) → rowF o p.2 a b ≤ rowF o' p.2 a b) → sumP o a b n l ≤ sumP o' a b n l
  | [], _ => Nat.le_refl _
  | p :: r, h => by
    rw [sumP, sumP]
    refine Nat.add_le_add ?_ (sumP_mono r fun q hq => h q (by simp [hq]))
    split
    · exact h p (by simp) (by assumption)
    · exact Nat.le_refl _
theorem nowF_mono {o o' : Sym → Nat → Nat → Nat} {l : List gramL.Prod} {a b n : Nat} (hab : a ≤ b) (ho : ∀ p ∈ l, ∀ x ∈ p.2, ∀ i j, a ≤ i → i ≤ j → j ≤ b → o x i j ≤ o' x i j) : nowF o l a b n ≤ nowF o' l a b n := by
  have := sumP_mono (n := n) l fun p hp _ => rowF_mono (l := p.2) hab (ho p hp)
  unfold nowF
  omega
/-- symbols of productions: nonterminals are there -/
def NonsIn (n : Nat) (l : List gramL.Prod) : Prop := ∀ p ∈ l, ∀ x ∈ p.2, x.1 = 2 → 0 ≤ x.2 ∧ x.2 < (n : Int)
theorem oneF_mono {c c' : Chart} {w : List Int} {n : Nat} {x : Sym} {a b : Nat} (hx : x.1 = 2 → 0 ≤ x.2 ∧ x.2 < (n : Int)) (h : ∀ k, k < n → c ((k : Int), (a : Int), (b : Int)) ≤ c' ((k : Int), (a : Int), (b : Int))) : oneF c w x a b ≤ oneF c' w x a b := by
  unfold oneF
  split
  · rename_i e
    obtain ⟨h1, h2⟩ := hx e
    have e2 : x.2 = ((x.2.toNat : Nat) : Int) := by omega
    rw [e2]
    exact h _ (by omega)
  · exact Nat.le_refl _
theorem now_mono {c c' : Chart} {w : List Int} {n : Nat} {l : List gramL.Prod} (hl : NonsIn n l) {a b : Nat} (hab : a ≤ b) (h : ∀ k i j, k < n → a ≤ i → i ≤ j → j ≤ b → c ((k : Int), (i : Int), (j : Int)) ≤ c' ((k : Int), (i : Int), (j : Int))) (m : Nat) : nowF (oneF c w) l a b m ≤ nowF (oneF c' w) l a b m :=
  nowF_mono hab fun p hp x hx i j h1 h2 h3 => oneF_mono (hl p hp x hx) fun k hk => h k i j hk h1 h2 h3
/-- a chart in which nothing is missing -/
def PreC (w : List Int) (l : List gramL.Prod) (n : Nat) (S : Chart) : Prop := ∀ k a b, k < n → a ≤ b → b ≤ w.length → nowF (oneF S w) l a b k ≤ S ((k : Int), (a : Int), (b : Int))
def Fix1 (w : List Int) (l : List gramL.Prod) (n : Nat) (c : Chart) (a b : Nat) : Prop := ∀ k, k < n → c ((k : Int), (a : Int), (b : Int)) = nowF (oneF c w) l a b k
/-- the least chart that is right -/
structure Lfp (w : List Int) (l : List gramL.Prod) (n : Nat) (c : Chart) : Prop where
  le2 : ∀ x, c x ≤ 2
  fixed : ∀ a b, a ≤ b → b ≤ w.length → Fix1 w l n c a b
  least : ∀ S, PreC w l n S → ∀ k a b, k < n → a ≤ b → b ≤ w.length → c ((k : Int), (a : Int), (b : Int)) ≤ S ((k : Int), (a : Int), (b : Int))
/-- some spans are done -/
structure InvC (w : List Int) (l : List gramL.Prod) (n : Nat) (D : Nat → Nat → Prop) (c : Chart) : Prop where
  le2 : ∀ x, c x ≤ 2
  fixed : ∀ a b, a ≤ b → b ≤ w.length → D a b → Fix1 w l n c a b
  least : ∀ S, PreC w l n S → ∀ k a b, k < n → a ≤ b → b ≤ w.length → c ((k : Int), (a : Int), (b : Int)) ≤ S ((k : Int), (a : Int), (b : Int))
  zero : ∀ k a b, k < n → a ≤ b → b ≤ w.length → ¬ D a b → c ((k : Int), (a : Int), (b : Int)) = 0
/-- one is under way -/
structure InvI (w : List Int) (l : List gramL.Prod) (n : Nat) (D : Nat → Nat → Prop) (a b : Nat) (c : Chart) : Prop where
  le2 : ∀ x, c x ≤ 2
  fixed : ∀ i j, i ≤ j → j ≤ w.length → D i j → Fix1 w l n c i j
  least : ∀ S, PreC w l n S → ∀ k i j, k < n → i ≤ j → j ≤ w.length → c ((k : Int), (i : Int), (j : Int)) ≤ S ((k : Int), (i : Int), (j : Int))
  zero : ∀ k i j, k < n → i ≤ j → j ≤ w.length → ¬ D i j → ¬ (i = a ∧ j = b) → c ((k : Int), (i : Int), (j : Int)) = 0
  grow : ∀ k, k < n → c ((k : Int), (a : Int), (b : Int)) ≤ nowF (oneF c w) l a b k
section
variable {w : List Int} {l : List gramL.Prod} {n : Nat} {D D' : Nat → Nat → Prop} {a b : Nat} {c : Chart}
theorem InvC.begin (h : InvC w l n D c) (hab : a ≤ b) (hb : b ≤ w.length) (hD : ¬ D a b) : InvI w l n D a b c :=
  ⟨h.le2, h.fixed, h.least, fun k i j hk h1 h2 h3 _ => h.zero k i j hk h1 h2 h3, fun k hk => by rw [h.zero k a b hk hab hb hD]; exact Nat.zero_le _⟩
theorem InvI.done (h : InvI w l n D a b c) (hf : Fix1 w l n c a b) (hD : ∀ i j, i ≤ j → j ≤ w.length → (D' i j ↔ D i j ∨ (i = a ∧ j = b))) : InvC w l n D' c :=
  ⟨h.le2, fun i j h1 h2 h3 => ((hD i j h1 h2).1 h3).elim (h.fixed i j h1 h2) fun ⟨e1, e2⟩ => by subst e1 e2; exact hf, h.least, fun k i j hk h1 h2 h3 => by
    have : ¬ (D i j ∨ (i = a ∧ j = b)) := fun h => h3 ((hD i j h1 h2).2 h)
    exact h.zero k i j hk h1 h2 (fun h => this (.inl h)) fun h => this (.inr h)⟩
theorem InvC.same (h : InvC w l n D c) (hD : ∀ i j, i ≤ j → j ≤ w.length → (D' i j ↔ D i j)) : InvC w l n D' c :=
  ⟨h.le2, fun i j h1 h2 h3 => h.fixed i j h1 h2 ((hD i j h1 h2).1 h3), h.least, fun k i j hk h1 h2 h3 => h.zero k i j hk h1 h2 fun h => h3 ((hD i j h1 h2).2 h)⟩
theorem InvC.lfp (h : InvC w l n D c) (hD : ∀ i j, i ≤ j → j ≤ w.length → D i j) : Lfp w l n c :=
  ⟨h.le2, fun i j h1 h2 => h.fixed i j h1 h2 (hD i j h1 h2), h.least⟩
theorem inv0 : InvC w l n (fun i j => j - i < 0) (fun _ => 0) :=
  ⟨fun _ => by omega, fun _ _ _ _ h => by omega, fun _ _ _ _ _ _ _ _ => Nat.zero_le _, fun _ _ _ _ _ _ _ => rfl⟩
theorem roundC_in {k : Nat} (hk : k < n) : roundC c w l n a b n ((k : Int), (a : Int), (b : Int)) = nowF (oneF c w) l a b k := by
  unfold roundC
  rw [if_pos (by dsimp only; omega), Int.toNat_natCast]
theorem roundC_out {k i j : Nat} (h : ¬ (i = a ∧ j = b)) : roundC c w l n a b n ((k : Int), (i : Int), (j : Int)) = c ((k : Int), (i : Int), (j : Int)) := by
  unfold roundC
  rw [if_neg (by dsimp only; omega)]
theorem round_le2 (h : ∀ x, c x ≤ 2) (x : Span) : roundC c w l n a b n x ≤ 2 := by
  unfold roundC
  split
  · exact nowF_le _ _ _ _ _
  · exact h x
theorem round_up (h : InvI w l n D a b c) {k i j : Nat} (hk : k < n) : c ((k : Int), (i : Int), (j : Int)) ≤ roundC c w l n a b n ((k : Int), (i : Int), (j : Int)) := by
  by_cases e : i = a ∧ j = b
  · obtain ⟨rfl, rfl⟩ := e
    rw [roundC_in hk]; exact h.grow k hk
  · rw [roundC_out e]; exact Nat.le_refl _
theorem round_inv (hl : NonsIn n l) (h : InvI w l n D a b c) (hab : a ≤ b) (hb : b ≤ w.length) (hD : ∀ i j, D i j → ¬ (i ≤ a ∧ b ≤ j)) : InvI w l n D a b (roundC c w l n a b n) := by
  refine ⟨round_le2 h.le2, fun i j h1 h2 h3 => ?_, fun S hS k i j hk h1 h2 => ?_, fun k i j hk h1 h2 h3 h4 => ?_, fun k hk => ?_⟩
  · intro k hk
    have hne : ¬ (i = a ∧ j = b) := fun ⟨e1, e2⟩ => hD i j h3 ⟨by omega, by omega⟩
    rw [roundC_out hne, h.fixed i j h1 h2 h3 k hk]
    apply Nat.le_antisymm
    · exact now_mono hl h1 (fun q x y hq _ _ _ => round_up h hq) k
    · refine now_mono hl h1 (fun q x y hq h4 h5 h6 => ?_) k
      rw [roundC_out fun ⟨e1, e2⟩ => hD i j h3 ⟨by omega, by omega⟩]
      exact Nat.le_refl _
  · by_cases e : i = a ∧ j = b
    · obtain ⟨rfl, rfl⟩ := e
      rw [roundC_in hk]
      exact Nat.le_trans (now_mono hl h1 (fun q x y hq h4 h5 h6 => h.least S hS q x y hq h5 (by omega)) k) (hS k i j hk h1 h2)
    · rw [roundC_out e]
      exact h.least S hS k i j hk h1 h2
  · rw [roundC_out h4]
    exact h.zero k i j hk h1 h2 h3 h4
  · rw [roundC_in hk]
    exact now_mono hl hab (fun q x y hq _ _ _ => round_up h hq) k
theorem newB_false : ∀ k, newB c w l a b k = false → ∀ i, i < k → c ((i : Int), (a : Int), (b : Int)) = nowF (oneF c w) l a b i
  | 0, _, _, h => by omega
  | k + 1, h, i, hi => by
    rw [newB, Bool.or_eq_false_iff] at h
    by_cases e : i = k
    · subst e; simpa using h.2
    · exact newB_false k h.1 i (by omega)
theorem round_fix (hl : NonsIn n l) (h : InvI w l n D a b c) (hab : a ≤ b) (hnew : newB c w l a b n = false) : Fix1 w l n (roundC c w l n a b n) a b := by
  have hf := newB_false n hnew
  intro k hk
  rw [roundC_in hk]
  apply Nat.le_antisymm
  · exact now_mono hl hab (fun q x y hq _ _ _ => round_up h hq) k
  · refine now_mono hl hab (fun q x y hq h4 h5 h6 => ?_) k
    by_cases e : x = a ∧ y = b
    · obtain ⟨rfl, rfl⟩ := e
      rw [roundC_in hq, hf q hq]; exact Nat.le_refl _
    · rw [roundC_out e]; exact Nat.le_refl _
/-- how much a span may still get -/
def lackC (n : Nat) (c : Chart) (a b : Nat) : Nat := sumN (fun k => 2 - c ((k : Int), (a : Int), (b : Int))) n
theorem lackC_le (n : Nat) (c : Chart) (a b : Nat) : lackC n c a b ≤ 2 * n := by
  unfold lackC
  induction n with
  | zero => exact Nat.le_refl _
  | succ k ih => rw [sumN]; omega
theorem lack_round (h : InvI w l n D a b c) : ∀ k, k ≤ n → lackC k (roundC c w l n a b n) a b ≤ lackC k c a b ∧ (newB c w l a b k = true → lackC k (roundC c w l n a b n) a b < lackC k c a b)
  | 0, _ => ⟨Nat.le_refl _, fun h => by cases h⟩
  | k + 1, hk => by
    obtain ⟨ih1, ih2⟩ := lack_round h k (by omega)
    have hu := h.grow k (by omega)
    have h2 := nowF_le (oneF c w) l a b k
    unfold lackC at ih1 ih2 ⊢
    rw [sumN, sumN, roundC_in (by omega), newB]
    refine ⟨by omega, fun hc => ?_⟩
    rw [Bool.or_eq_true] at hc
    rcases hc with hc | hc
    · have := ih2 hc; omega
    · simp only [Bool.not_eq_true', decide_eq_false_iff_not] at hc
      omega
end
end Go.Proofs.Ytlojfbnimmdehaa.countL

/- CountT -/
namespace Go.Proofs.Ytlojfbnimmdehaa.countL
open gramL
theorem Lfp.pre {w : List Int} {l : List gramL.Prod} {n : Nat} {c : Chart} (h : Lfp w l n c) : PreC w l n c := fun k a b hk h1 h2 => by rw [← h.fixed a b h1 h2 k hk]; exact Nat.le_refl _
theorem Lfp.unique {w : List Int} {l : List gramL.Prod} {n : Nat} {c c' : Chart} (h : Lfp w l n c) (h' : Lfp w l n c') {k a b : Nat} (hk : k < n) (h1 : a ≤ b) (h2 : b ≤ w.length) : c ((k : Int), (a : Int), (b : Int)) = c' ((k : Int), (a : Int), (b : Int)) :=
  Nat.le_antisymm (h.least c' h'.pre k a b hk h1 h2) (h'.least c h.pre k a b hk h1 h2)
open Classical in
/-- the least chart that is right -/
noncomputable def chartOf (w : List Int) (l : List gramL.Prod) (n : Nat) : Chart := fun x => if ∃ S, PreC w l n S ∧ S x = 0 then 0 else if ∃ S, PreC w l n S ∧ S x = 1 then 1 else 2
theorem pre2 {w : List Int} {l : List gramL.Prod} {n : Nat} : PreC w l n (fun _ => 2) := fun _ _ _ _ _ _ => nowF_le _ _ _ _ _
theorem chartOf_le {w : List Int} {l : List gramL.Prod} {n : Nat} {S : Chart} (hS : PreC w l n S) (x : Span) : chartOf w l n x ≤ S x := by
  unfold chartOf
  split
  · omega
  · rename_i h0
    split
    · have : S x ≠ 0 := fun e => h0 ⟨S, hS, e⟩
      omega
    · rename_i h1
      have a : S x ≠ 0 := fun e => h0 ⟨S, hS, e⟩
      have b : S x ≠ 1 := fun e => h1 ⟨S, hS, e⟩
      omega
theorem chartOf_glb {w : List Int} {l : List gramL.Prod} {n : Nat} {x : Span} {v : Nat} (h : ∀ S, PreC w l n S → v ≤ S x) : v ≤ chartOf w l n x := by
  unfold chartOf
  split
  · rename_i h0
    obtain ⟨S, hS, e⟩ := h0
    have := h S hS; omega
  · split
    · rename_i h1
      obtain ⟨S, hS, e⟩ := h1
      have := h S hS; omega
    · exact h _ pre2
theorem chartOf_pre {w : List Int} {l : List gramL.Prod} {n : Nat} (hl : NonsIn n l) : PreC w l n (chartOf w l n) := fun k a b hk h1 h2 =>
  chartOf_glb fun S hS => Nat.le_trans (now_mono hl h1 (fun q i j _ _ _ _ => chartOf_le hS _) k) (hS k a b hk h1 h2)
theorem chartOf_lfp {w : List Int} {l : List gramL.Prod} {n : Nat} (hl : NonsIn n l) : Lfp w l n (chartOf w l n) := by
  have hp := chartOf_pre (w := w) hl
  refine ⟨fun x => chartOf_le pre2 x, fun a b h1 h2 k hk => Nat.le_antisymm ?_ (hp k a b hk h1 h2), fun S hS k a b _ _ _ => chartOf_le hS _⟩
  have hS : PreC w l n (fun x => if 0 ≤ x.1 ∧ x.1 < (n : Int) ∧ 0 ≤ x.2.1 ∧ x.2.1 ≤ x.2.2 ∧ x.2.2 ≤ (w.length : Int) then nowF (oneF (chartOf w l n) w) l x.2.1.toNat x.2.2.toNat x.1.toNat else 2) := fun q i j hq h3 h4 => by
    dsimp only
    rw [if_pos (by omega), Int.toNat_natCast, Int.toNat_natCast, Int.toNat_natCast]
    refine now_mono hl h3 (fun q' i' j' hq' h5 h6 h7 => ?_) q
    dsimp only
    rw [if_pos (by omega), Int.toNat_natCast, Int.toNat_natCast, Int.toNat_natCast]
    exact hp q' i' j' hq' h6 (by omega)
  have := chartOf_le hS ((k : Int), (a : Int), (b : Int))
  dsimp only at this
  rw [if_pos (by omega), Int.toNat_natCast, Int.toNat_natCast, Int.toNat_natCast] at this
  exact this
theorem chartOf_eq {w : List Int} {l : List gramL.Prod} {n : Nat} {c : Chart} (hl : NonsIn n l) (h : Lfp w l n c) {k a b : Nat} (hk : k < n) (h1 : a ≤ b) (h2 : b ≤ w.length) : c ((k : Int), (a : Int), (b : Int)) = chartOf w l n ((k : Int), (a : Int), (b : Int)) := h.unique (chartOf_lfp hl) hk h1 h2
theorem nonsIn_of {g : Gram} {n : Nat} (h : checkG g = 0) (hn : g.nons = n) : NonsIn n g.prods := by
  obtain ⟨a1, a2, a3, a4, a5, a6⟩ := checkG_ok h
  intro p hp x hx h2
  have := (a6 p hp).2.2.2 x hx
  unfold right at this
  rw [if_neg (by omega), if_pos h2] at this
  simp at this; omega
noncomputable def treesN (g : Gram) (w : List Int) : Nat := if checkC g w = 0 then chartOf w g.prods g.nons.toNat (0, 0, (w.length : Int)) else 0
theorem treesN_eq {g : Gram} {w : List Int} {c : Chart} (hc : checkC g w = 0) (h : Lfp w g.prods g.nons.toNat c) : c (0, 0, (w.length : Int)) = treesN g w := by
  obtain ⟨h1, h2, h3⟩ := checkC_ok hc
  obtain ⟨_, _, a3, _⟩ := checkG_ok h1
  unfold treesN
  rw [if_pos hc]
  exact chartOf_eq (nonsIn_of h1 (by omega)) h (k := 0) (a := 0) (by omega) (Nat.zero_le _) (Nat.le_refl _)
end Go.Proofs.Ytlojfbnimmdehaa.countL

/- CountR -/
namespace Go.Proofs.Ytlojfbnimmdehaa.countL
open gramL
theorem sumN_congr {f g : Nat → Nat} : ∀ k, (∀ j, j < k → f j = g j) → sumN f k = sumN g k
  | 0, _ => rfl
  | k + 1, h => by rw [sumN, sumN, sumN_congr k fun j hj => h j (by omega), h k (by omega)]
theorem sumN_add (f g : Nat → Nat) : ∀ k, sumN (fun j => f j + g j) k = sumN f k + sumN g k
  | 0 => rfl
  | k + 1 => by rw [sumN, sumN, sumN, sumN_add f g k]; omega
theorem sumN_mul (v : Nat) (f : Nat → Nat) : ∀ k, sumN (fun j => v * f j) k = v * sumN f k
  | 0 => rfl
  | k + 1 => by rw [sumN, sumN, sumN_mul v f k, Nat.mul_add]
theorem sumN_mulr (v : Nat) (f : Nat → Nat) : ∀ k, sumN (fun j => f j * v) k = sumN f k * v
  | 0 => by simp [sumN]
  | k + 1 => by rw [sumN, sumN, sumN_mulr v f k, Nat.add_mul]
theorem sumN_swap (f : Nat → Nat → Nat) (m : Nat) : ∀ k, sumN (fun i => sumN (fun j => f i j) m) k = sumN (fun j => sumN (fun i => f i j) k) m
  | 0 => by rw [sumN]; exact (sumN_zero _ m fun _ _ => rfl).symm
  | k + 1 => by rw [sumN, sumN_swap f m k, ← sumN_add]; rfl
theorem sumN_front (f : Nat → Nat) : ∀ k, sumN f (k + 1) = f 0 + sumN (fun j => f (j + 1)) k
  | 0 => by simp [sumN]
  | k + 1 => by rw [sumN, sumN_front f k, sumN]; omega
theorem sumN_split (f : Nat → Nat) (a : Nat) : ∀ k, sumN f (a + k) = sumN f a + sumN (fun j => f (a + j)) k
  | 0 => by simp [sumN]
  | k + 1 => by rw [← Nat.add_assoc, sumN, sumN_split f a k, sumN]; omega
theorem sumN_one (f : Nat → Nat) {i k : Nat} (hi : i < k) (h : ∀ j, j < k → j ≠ i → f j = 0) : sumN f k = f i := by
  induction k with
  | zero => omega
  | succ k ih =>
    rw [sumN]
    by_cases e : i = k
    · subst e
      rw [sumN_zero f i fun j hj => h j (by omega) (by omega), Nat.zero_add]
    · rw [ih (by omega) fun j hj => h j (by omega), h k (by omega) (fun e' => e e'.symm), Nat.add_zero]
/-- a triangle, summed by rows and by columns -/
theorem sumN_tri (f : Nat → Nat → Nat) (d : Nat) : sumN (fun j => sumN (fun i => f i j) (j + 1)) (d + 1) = sumN (fun i => sumN (fun k => f i (i + k)) (d - i + 1)) (d + 1) := by
  have h1 : sumN (fun j => sumN (fun i => f i j) (j + 1)) (d + 1) = sumN (fun j => sumN (fun i => if i ≤ j then f i j else 0) (d + 1)) (d + 1) := by
    refine sumN_congr _ fun j hj => ?_
    rw [show d + 1 = (j + 1) + (d - j) by omega, sumN_split (fun i => if i ≤ j then f i j else 0)]
    rw [sumN_zero (fun q => if j + 1 + q ≤ j then f (j + 1 + q) j else 0) _ fun q _ => if_neg (by omega), Nat.add_zero]
    exact sumN_congr _ fun i hi => (if_pos (by omega)).symm
  rw [h1, sumN_swap]
  refine sumN_congr _ fun i hi => ?_
  rw [show d + 1 = i + (d - i + 1) by omega, sumN_split, sumN_zero _ i fun j hj => if_neg (by omega), Nat.zero_add]
  exact sumN_congr _ fun k _ => if_pos (by omega)
/-- all ways in which symbols make what lies between two places -/
def rowE (o : Sym → Nat → Nat → Nat) : List Sym → Nat → Nat → Nat
  | [], a, b => if a = b then 1 else 0
  | x :: r, a, b => sumN (fun i => o x a (a + i) * rowE o r (a + i) b) (b - a + 1)
theorem cap_sum (f g : Nat → Nat) : ∀ k, (∀ j, j < k → min 2 (f j) = min 2 (g j)) → min 2 (sumN f k) = min 2 (sumN g k)
  | 0, _ => rfl
  | k + 1, h => by
    have h1 := cap_sum f g k fun j hj => h j (by omega)
    have h2 := h k (by omega)
    rw [sumN, sumN]
    omega
theorem cap_mul (u v : Nat) : min 2 (min 2 u * v) = min 2 (u * v) := by
  by_cases h : u ≤ 2
  · have e : min 2 u = u := by omega
    rw [e]
  · have e : min 2 u = 2 := by omega
    rw [e]
    by_cases hv : v = 0
    · subst hv; simp
    · have : 2 ≤ 2 * v := by omega
      have h2 : 2 * v ≤ u * v := Nat.mul_le_mul_right v (by omega)
      omega
theorem waysF_E (o : Sym → Nat → Nat → Nat) (a : Nat) : ∀ (l : List Sym) (f : Nat → Nat) (d : Nat), (∀ j, f j ≤ 2) → waysF o a l f d = min 2 (sumN (fun i => f i * rowE o l (a + i) (a + d)) (d + 1))
  | [], f, d, h => by
    rw [waysF, sumN_one _ (show d < d + 1 by omega) fun j _ hj => by rw [rowE, if_neg (by omega), Nat.mul_zero], rowE, if_pos rfl, Nat.mul_one]
    have := h d; omega
  | x :: r, f, d, h => by
    rw [waysF, waysF_E o a r _ d (nextF_le _ _)]
    have h1 : min 2 (sumN (fun i => nextF (fun i j => o x (a + i) (a + j)) f i * rowE o r (a + i) (a + d)) (d + 1)) = min 2 (sumN (fun j => sumN (fun i => f i * o x (a + i) (a + j) * rowE o r (a + j) (a + d)) (j + 1)) (d + 1)) := cap_sum _ _ _ fun j _ => by
      rw [sumN_mulr]
      exact cap_mul _ _
    rw [h1, sumN_tri (fun i j => f i * o x (a + i) (a + j) * rowE o r (a + j) (a + d))]
    congr 1
    refine sumN_congr _ fun i hi => ?_
    rw [rowE, ← sumN_mul, show a + d - (a + i) = d - i by omega]
    refine sumN_congr _ fun k _ => ?_
    rw [Nat.mul_assoc, Nat.add_assoc]
theorem rowF_E (o : Sym → Nat → Nat → Nat) (l : List Sym) {a b : Nat} (h : a ≤ b) : rowF o l a b = min 2 (rowE o l a b) := by
  unfold rowF
  rw [waysF_E o a l ways0 _ ways0_le, sumN_front]
  rw [sumN_zero (fun j => ways0 (j + 1) * rowE o l (a + (j + 1)) (a + (b - a))) _ fun j _ => by simp [ways0]]
  rw [show a + (b - a) = b by omega]
  simp [ways0]
end Go.Proofs.Ytlojfbnimmdehaa.countL

/- TreeW -/
namespace Go.Proofs.Ytlojfbnimmdehaa.countL
open gramL treeL
/-- symbols of a grammar -/
def SymsOk (n : Nat) (l : List gramL.Prod) : Prop := ∀ p ∈ l, 0 ≤ p.1 ∧ p.1 < (n : Int) ∧ ∀ x ∈ p.2, x.1 = 1 ∨ (x.1 = 2 ∧ 0 ≤ x.2 ∧ x.2 < (n : Int))
theorem symsOk_of {g : Gram} {n : Nat} (h : checkG g = 0) (hn : g.nons = n) : SymsOk n g.prods := fun p hp => by
  obtain ⟨_, _, _, _, _, a6⟩ := checkG_ok h
  obtain ⟨b1, b2, b3, b4⟩ := a6 p hp
  refine ⟨b2, by omega, fun x hx => ?_⟩
  have := b4 x hx
  unfold right at this
  split at this
  · exact .inl (by assumption)
  · split at this
    · simp at this; exact .inr ⟨by assumption, by omega, by omega⟩
    · simp at this
theorem SymsOk.nons {n : Nat} {l : List gramL.Prod} (h : SymsOk n l) : NonsIn n l := fun p hp x hx h2 => by
  rcases (h p hp).2.2 x hx with h | h
  · omega
  · exact h.2
theorem sumN_ge (f : Nat → Nat) {i k : Nat} (h : i < k) : f i ≤ sumN f k := by
  induction k with
  | zero => omega
  | succ k ih =>
    rw [sumN]
    by_cases e : i = k
    · subst e; omega
    · have := ih (by omega); omega
theorem sumP_ge (o : Sym → Nat → Nat → Nat) (a b n : Nat) {p : gramL.Prod} : ∀ {l : List gramL.Prod}, p ∈ l → p.1 = (n : Int) → rowF o p.2 a b ≤ sumP o a b n l
  | q :: r, h, hp => by
    rw [sumP]
    rcases List.mem_cons.1 h with rfl | h
    · rw [if_pos hp]; omega
    · have := sumP_ge o a b n h hp; omega
theorem prodAt_mem {l : List gramL.Prod} {p : Int} (h0 : 0 ≤ p) (h : p < (l.length : Int)) : prodAt l p ∈ l := by
  unfold prodAt
  rw [List.getD_eq_getElem?_getD, List.getElem?_eq_getElem (by omega)]
  exact List.getElem_mem _
/-- what a tree yields, where a symbol stands -/
def yieldX (l : List gramL.Prod) (t : Tree) (x : Sym) : List Int := if t.prod < 0 then [x.2] else yieldT l t
theorem yields_X (l : List gramL.Prod) (t : Tree) (r : List Tree) (y : Sym) (b : List Sym) : yields l (t :: r) (y :: b) = yieldX l t y ++ yields l r b := by
  obtain ⟨p, k, ks⟩ := t
  exact yields_cons l p k ks r y b
theorem yieldX_len {l : List gramL.Prod} {t : Tree} {x : Sym} {u : Nat} (h : Right l t x u) : (yieldX l t x).length = leaves t := by
  unfold yieldX
  split
  · obtain ⟨p, k, ks⟩ := t
    rw [leaves, if_pos (by assumption)]; rfl
  · exact yield_len h (by omega)
section
end
mutual
theorem yield_in {g : Gram} (h : checkG g = 0) : ∀ {t : Tree} {x : Sym} {u : Nat}, Right g.prods t x u → 0 ≤ t.prod → ∀ y ∈ yieldT g.prods t, 0 ≤ y ∧ y < g.terms
  | .mk p k kids, x, u, hr, hp, y, hy => by
    have hp : 0 ≤ p := hp
    rw [Right] at hr
    rw [yieldT_eq] at hy
    rcases hr with ⟨_, e, _⟩ | ⟨_, a2, a3, _, _, a6⟩
    · omega
    · exact yields_in h a6 (((checkG_ok h).2.2.2.2.2 _ (prodAt_mem a2 a3)).2.2.2) y hy
theorem yields_in {g : Gram} (h : checkG g = 0) : ∀ {ks : List Tree} {b : List Sym} {u : Nat}, Rights g.prods ks b u → (∀ x ∈ b, right g.terms g.nons x = true) → ∀ y ∈ yields g.prods ks b, 0 ≤ y ∧ y < g.terms
  | [], [], _, _, _, y, hy => by simp [yields, actss] at hy
  | .mk p k kk :: r, x :: b, u, hr, hb, y, hy => by
    rw [Rights] at hr
    rw [yields_X, List.mem_append] at hy
    rcases hy with hy | hy
    · unfold yieldX at hy
      by_cases c : p < 0
      · rw [if_pos (show (Tree.mk p k kk).prod < 0 from c)] at hy
        simp only [List.mem_cons, List.not_mem_nil, or_false] at hy
        subst hy
        have h1 := hr.1
        rw [Right] at h1
        have hx := hb x (by simp)
        unfold right at hx
        rcases h1 with ⟨e, _⟩ | ⟨_, e, _⟩
        · rw [if_pos e] at hx; simp at hx; omega
        · omega
      · rw [if_neg (show ¬ (Tree.mk p k kk).prod < 0 from c)] at hy
        exact yield_in h hr.1 (by show 0 ≤ p; omega) y hy
    · exact yields_in h hr.2 (fun z hz => hb z (by simp [hz])) y hy
  | [], _ :: _, _, hr, _, _, _ => by simp [Rights] at hr
  | _ :: _, [], _, hr, _, _, _ => by simp [Rights] at hr
end
end Go.Proofs.Ytlojfbnimmdehaa.countL

/- TreeU -/
namespace Go.Proofs.Ytlojfbnimmdehaa.treeL
open gramL countL
def upX (l : List gramL.Prod) (t : Tree) : List Sym := if t.prod < 0 then [(2, t.tok)] else upE l t
theorem actss_up (l : List gramL.Prod) : ∀ (ks : List Tree) (b : List Sym), ks.length = b.length → (actss l ks b).filterMap evU = ks.flatMap (upX l)
  | [], b, _ => by cases b <;> simp [actss]
  | t :: r, [], h => by simp at h
  | .mk p k kids :: r, y :: b, h => by
    have ih := actss_up l r b (by simpa using h)
    rw [actss, List.flatMap_cons, List.filterMap_append, ih]
    congr 1
    unfold upX upE
    show _ = if p < 0 then [(2, k)] else _
    split
    · rfl
    · rfl
theorem upX_node {l : List gramL.Prod} {n : Int} {ks : List Tree} (h0 : 0 ≤ n) (h : ks.length = (prodAt l n).2.length) : upX l (.mk n 0 ks) = ks.flatMap (upX l) ++ [(4, n)] := by
  unfold upX upE
  rw [if_neg (by show ¬ n < 0; omega), acts_eq, List.filterMap_cons_none rfl, List.filterMap_append, actss_up l _ _ h]
  rfl
theorem upX_leaf (l : List gramL.Prod) (k : Int) : upX l (.mk (-1) k []) = [(2, k)] := by
  unfold upX
  rw [if_pos (show (Tree.mk (-1) k []).prod < 0 by show (-1 : Int) < 0; decide)]
  rfl
end Go.Proofs.Ytlojfbnimmdehaa.treeL

/- FactsL -/
namespace Go.Proofs.Ytlojfbnimmdehaa.factsL
open gramL
def markF (l : List Bool) (i : Nat) (b : Bool) : List Bool × Bool := if b = true ∧ l.getD i false = false then (l.set i true, true) else (l, false)
/-- are all of a body's nonterminals so? -/
def allF (l : List Bool) (body : List Sym) (terms : Bool) : Bool := body.all fun x => if x.1 = 1 then terms else if x.1 = 2 then l.getD x.2.toNat false else true
def addF (l : List Nat) (i : Nat) (b : Nat) : List Nat × Bool := (l.set i (l.getD i 0 ||| b), !decide ((l.getD i 0 ||| b) = l.getD i 0))
/-- what some symbols begin with, something standing behind -/
def beginGo (E : List Bool) (F : List Nat) (behind : Nat) : List Sym → Nat → Nat
  | [], out => out ||| behind
  | x :: r, out => if x.1 = 1 then out ||| 2 ^ x.2.toNat else if E.getD x.2.toNat false = true then beginGo E F behind r (out ||| F.getD x.2.toNat 0) else out ||| F.getD x.2.toNat 0
def beginF (E : List Bool) (F : List Nat) (body : List Sym) (behind : Nat) : Nat := beginGo E F behind body 0
theorem markF_len (l : List Bool) (i : Nat) (b : Bool) : (markF l i b).1.length = l.length := by
  unfold markF; split <;> simp
theorem addF_len (l : List Nat) (i : Nat) (b : Nat) : (addF l i b).1.length = l.length := by
  simp [addF]
structure FS where
  E : List Bool
  R : List Bool
  M : List Bool
  more : Bool
def stepR (h : Nat) (x : Sym) (R : List Bool) (more : Bool) : List Bool × Bool := if x.1 = 2 then ((markF R x.2.toNat (R.getD h false)).1, (markF R x.2.toNat (R.getD h false)).2 || more) else (R, more)
def roundR (h : Nat) : List Sym → List Bool → Bool → List Bool × Bool
  | [], R, more => (R, more)
  | x :: r, R, more => roundR h r (stepR h x R more).1 (stepR h x R more).2
def roundP (p : gramL.Prod) (s : FS) : FS :=
  let h := p.1.toNat
  let a := markF s.E h (allF s.E p.2 false)
  let b := markF s.M h (allF s.M p.2 true)
  let c := roundR h p.2 s.R (b.2 || (a.2 || s.more))
  ⟨a.1, c.1, b.1, c.2⟩
def roundL : List gramL.Prod → FS → FS
  | [], s => s
  | p :: r, s => roundL r (roundP p s)
theorem stepR_len (h : Nat) (x : Sym) (R : List Bool) (more : Bool) : (stepR h x R more).1.length = R.length := by
  unfold stepR; split
  · exact markF_len _ _ _
  · rfl
theorem roundR_len (h : Nat) : ∀ (body : List Sym) (R : List Bool) (more : Bool), (roundR h body R more).1.length = R.length
  | [], _, _ => rfl
  | x :: r, R, more => by rw [roundR, roundR_len h r, stepR_len]
/-- how many are true -/
def trues (l : List Bool) : Nat := l.countP id
theorem markF_trues {l : List Bool} {i : Nat} {b : Bool} (hi : i < l.length) : trues (markF l i b).1 = trues l + (if (markF l i b).2 = true then 1 else 0) := by
  unfold markF
  split
  · rename_i c
    have h0 : l[i] = false := by
      have := c.2
      rw [List.getD_eq_getElem?_getD, List.getElem?_eq_getElem hi] at this
      simpa using this
    unfold trues
    rw [List.countP_set hi]
    simp [h0]
  · simp
end Go.Proofs.Ytlojfbnimmdehaa.factsL

/- FactsM -/
namespace Go.Proofs.Ytlojfbnimmdehaa.factsL
open gramL
/-! ### steps till nothing is new -/
def fixN {σ : Type} (step : σ → σ × Bool) : Nat → σ → σ
  | 0, s => s
  | f + 1, s => if (step s).2 = true then fixN step f (step s).1 else (step s).1
structure Falls {σ : Type} (step : σ → σ × Bool) (ok : σ → Prop) (μ : σ → Nat) : Prop where
  keep : ∀ s, ok s → ok (step s).1
  dec : ∀ s, ok s → (step s).2 = true → μ (step s).1 < μ s
def fix {σ : Type} (step : σ → σ × Bool) (μ : σ → Nat) (s : σ) : σ := fixN step (μ s + 1) s
section
variable {σ : Type} {step : σ → σ × Bool} {ok : σ → Prop} {μ : σ → Nat}
theorem fixN_fuel (h : Falls step ok μ) : ∀ (f g : Nat) (s : σ), ok s → μ s < f → μ s < g → fixN step f s = fixN step g s
  | 0, _, _, _, h1, _ => by omega
  | _, 0, _, _, _, h2 => by omega
  | f + 1, g + 1, s, hs, h1, h2 => by
    unfold fixN
    by_cases c : (step s).2 = true
    · rw [if_pos c, if_pos c]
      have := h.dec s hs c
      exact fixN_fuel h f g _ (h.keep s hs) (by omega) (by omega)
    · rw [if_neg c, if_neg c]
theorem fix_go (h : Falls step ok μ) {s : σ} (hs : ok s) (c : (step s).2 = true) : fix step μ s = fix step μ (step s).1 := by
  have := h.dec s hs c
  unfold fix
  rw [fixN, if_pos c]
  exact fixN_fuel h _ _ _ (h.keep s hs) (by omega) (by omega)
theorem fix_stop {s : σ} (c : (step s).2 = false) : fix step μ s = (step s).1 := by
  unfold fix
  rw [fixN, if_neg (by rw [c]; decide)]
/-- what is come to is a fixed point: a step from some state there tells nothing new -/
theorem fix_end (h : Falls step ok μ) : ∀ (k : Nat) (s : σ), ok s → μ s ≤ k → ∃ s', ok s' ∧ (step s').2 = false ∧ fix step μ s = (step s').1
  | k, s, hs, hk => by
    by_cases c : (step s).2 = true
    · have hd := h.dec s hs c
      match k with
      | 0 => omega
      | k + 1 =>
        obtain ⟨s', h1, h2, h3⟩ := fix_end h k (step s).1 (h.keep s hs) (by omega)
        exact ⟨s', h1, h2, by rw [fix_go h hs c, h3]⟩
    · have c' : (step s).2 = false := by simpa using c
      exact ⟨s, hs, c', fix_stop c'⟩
end
/-! ### First -/
def stepF (E : List Bool) (M : List Bool) (p : gramL.Prod) (F : List Nat) (more : Bool) : List Nat × Bool :=
  if allF M p.2 true = true then ((addF F p.1.toNat (beginF E F p.2 0)).1, (addF F p.1.toNat (beginF E F p.2 0)).2 || more) else (F, more)
def passF (E M : List Bool) : List gramL.Prod → List Nat → Bool → List Nat × Bool
  | [], F, more => (F, more)
  | p :: r, F, more => passF E M r (stepF E M p F more).1 (stepF E M p F more).2
/-! ### Follow -/
def stepW (E : List Bool) (F : List Nat) (h : Nat) (x : Sym) (r : List Sym) (W : List Nat) (more : Bool) : List Nat × Bool :=
  if x.1 = 2 then ((addF W x.2.toNat (beginF E F r (W.getD h 0))).1, (addF W x.2.toNat (beginF E F r (W.getD h 0))).2 || more) else (W, more)
def passWb (E : List Bool) (F : List Nat) (h : Nat) : List Sym → List Nat → Bool → List Nat × Bool
  | [], W, more => (W, more)
  | x :: r, W, more => passWb E F h r (stepW E F h x r W more).1 (stepW E F h x r W more).2
def passW (E : List Bool) (F : List Nat) : List gramL.Prod → List Nat → Bool → List Nat × Bool
  | [], W, more => (W, more)
  | p :: r, W, more => passW E F r (passWb E F p.1.toNat p.2 W more).1 (passWb E F p.1.toNat p.2 W more).2
/-- how much is missing -/
def lack (l : List Nat) : Nat := (l.map fun x => 18446744073709551616 - x).sum
def okW (n : Nat) (l : List Nat) : Prop := l.length = n ∧ ∀ x ∈ l, x < 18446744073709551616
theorem getD_lt {n : Nat} {l : List Nat} (h : okW n l) (i : Nat) : l.getD i 0 < 18446744073709551616 := by
  rw [List.getD_eq_getElem?_getD]
  cases e : l[i]? with
  | none => decide
  | some y => exact h.2 y (List.mem_of_getElem? e)
theorem or_lt64 {x y : Nat} (hx : x < 18446744073709551616) (hy : y < 18446744073709551616) : x ||| y < 18446744073709551616 := Nat.or_lt_two_pow (n := 64) hx hy
theorem addF_ok {n : Nat} {l : List Nat} {i b : Nat} (h : okW n l) (hb : b < 18446744073709551616) : okW n (addF l i b).1 := by
  refine ⟨by rw [addF_len]; exact h.1, fun x hx => ?_⟩
  rcases List.mem_or_eq_of_mem_set hx with h1 | rfl
  · exact h.2 x h1
  · exact or_lt64 (getD_lt h i) hb
theorem sum_set : ∀ (l : List Nat) (i : Nat) (y : Nat) (h : i < l.length), ((l.set i y).map fun x => 18446744073709551616 - x).sum + (18446744073709551616 - l[i]) = (l.map fun x => 18446744073709551616 - x).sum + (18446744073709551616 - y)
  | a :: r, 0, y, h => by simp; omega
  | a :: r, i + 1, y, h => by
    have := sum_set r i y (by simpa using h)
    simp at this ⊢; omega
theorem addF_lack {n : Nat} {l : List Nat} {i b : Nat} (h : okW n l) (hi : i < n) (hb : b < 18446744073709551616) : lack (addF l i b).1 ≤ lack l ∧ ((addF l i b).2 = true → lack (addF l i b).1 < lack l) := by
  have hil : i < l.length := by rw [h.1]; exact hi
  have hs := sum_set l i (l.getD i 0 ||| b) hil
  have e : l.getD i 0 = l[i] := by rw [List.getD_eq_getElem?_getD, List.getElem?_eq_getElem hil]; rfl
  have h1 : l[i] ≤ l.getD i 0 ||| b := by rw [e]; exact Nat.left_le_or
  have h2 := or_lt64 (getD_lt h i) hb
  have h3 := h.2 _ (List.getElem_mem hil)
  unfold lack addF
  dsimp only
  refine ⟨by omega, fun hc => ?_⟩
  simp only [Bool.not_eq_true', decide_eq_false_iff_not] at hc
  omega
theorem beginF_lt {E : List Bool} {F : List Nat} {n : Nat} {body : List Sym} {behind : Nat} (hF : okW n F) (hb : behind < 18446744073709551616) (hx : ∀ x ∈ body, x.1 = 1 → x.2.toNat < 64) : beginF E F body behind < 18446744073709551616 := by
  have key : ∀ (body : List Sym) (out : Nat), out < 18446744073709551616 → (∀ x ∈ body, x.1 = 1 → x.2.toNat < 64) → beginGo E F behind body out < 18446744073709551616 := by
    intro body
    induction body with
    | nil => intro out h _; exact or_lt64 h hb
    | cons x r ih =>
      intro out h hx
      unfold beginGo
      split
      · rename_i c
        have hp : (2 : Nat) ^ x.2.toNat < 2 ^ 64 := Nat.pow_lt_pow_right (by decide) (hx x (by simp) c)
        exact or_lt64 h (by simpa using hp)
      · split
        · exact ih _ (or_lt64 h (getD_lt hF _)) fun y hy => hx y (by simp [hy])
        · exact or_lt64 h (getD_lt hF _)
  exact key body 0 (by decide) hx
/-- what a grammar's productions are like -/
structure Fine (n : Nat) (l : List gramL.Prod) : Prop where
  head : ∀ p ∈ l, 0 ≤ p.1 ∧ p.1.toNat < n
  term : ∀ p ∈ l, ∀ x ∈ p.2, x.1 = 1 → 0 ≤ x.2 ∧ x.2.toNat < 64
  non : ∀ p ∈ l, ∀ x ∈ p.2, x.1 ≠ 1 → x.1 = 2 ∧ 0 ≤ x.2 ∧ x.2.toNat < n
theorem fine_of {g : Gram} {n : Nat} (h : checkG g = 0) (hn : g.nons = n) : Fine n g.prods := by
  obtain ⟨a, b, c, d, e, f⟩ := checkG_ok h
  refine ⟨fun p hp => ?_, fun p hp x hx hx1 => ?_, fun p hp x hx hx1 => ?_⟩
  · have := f p hp; omega
  · have := (f p hp).2.2.2 x hx
    unfold right at this
    rw [if_pos hx1] at this
    simp at this; omega
  · have := (f p hp).2.2.2 x hx
    unfold right at this
    rw [if_neg hx1] at this
    split at this
    · rename_i h2
      simp at this
      exact ⟨h2, by omega, by omega⟩
    · simp at this
theorem Fine.tail {n : Nat} {p : gramL.Prod} {l : List gramL.Prod} (h : Fine n (p :: l)) : Fine n l :=
  ⟨fun q hq => h.head q (by simp [hq]), fun q hq => h.term q (by simp [hq]), fun q hq => h.non q (by simp [hq])⟩
theorem passF_ok {E M : List Bool} {n : Nat} : ∀ (l : List gramL.Prod) (F : List Nat) (more : Bool), Fine n l → okW n F → okW n (passF E M l F more).1 ∧ lack (passF E M l F more).1 ≤ lack F ∧ ((passF E M l F more).2 = true → more = true ∨ lack (passF E M l F more).1 < lack F)
  | [], F, more, _, h => ⟨h, Nat.le_refl _, fun c => .inl c⟩
  | p :: r, F, more, hf, h => by
    have hb : beginF E F p.2 0 < 18446744073709551616 := beginF_lt h (by decide) fun x hx hx1 => (hf.term p (by simp) x hx hx1).2
    have hh := hf.head p (by simp)
    rw [passF]
    unfold stepF
    split
    · have h1 := addF_ok (i := p.1.toNat) h hb
      have h2 := addF_lack h hh.2 hb
      obtain ⟨k1, k2, k3⟩ := passF_ok r (addF F p.1.toNat (beginF E F p.2 0)).1 ((addF F p.1.toNat (beginF E F p.2 0)).2 || more) hf.tail h1
      refine ⟨k1, Nat.le_trans k2 h2.1, fun c => ?_⟩
      rcases k3 c with c2 | c2
      · rw [Bool.or_eq_true] at c2
        rcases c2 with c2 | c2
        · exact .inr (Nat.lt_of_le_of_lt k2 (h2.2 c2))
        · exact .inl c2
      · exact .inr (Nat.lt_of_lt_of_le c2 h2.1)
    · exact passF_ok r F more hf.tail h
theorem passWb_ok {E : List Bool} {F : List Nat} {n h : Nat} (hF : okW n F) (hh : h < n) : ∀ (body : List Sym) (W : List Nat) (more : Bool), (∀ x ∈ body, x.1 = 1 → x.2.toNat < 64) → (∀ x ∈ body, x.1 = 2 → x.2.toNat < n) → okW n W → okW n (passWb E F h body W more).1 ∧ lack (passWb E F h body W more).1 ≤ lack W ∧ ((passWb E F h body W more).2 = true → more = true ∨ lack (passWb E F h body W more).1 < lack W)
  | [], W, more, _, _, hW => ⟨hW, Nat.le_refl _, fun c => .inl c⟩
  | x :: r, W, more, ht, hx, hW => by
    have hb : beginF E F r (W.getD h 0) < 18446744073709551616 := beginF_lt hF (getD_lt hW h) fun y hy => ht y (by simp [hy])
    have tl := fun W more => passWb_ok (E := E) hF hh r W more (fun y hy => ht y (by simp [hy])) (fun y hy => hx y (by simp [hy]))
    rw [passWb]
    unfold stepW
    split
    · rename_i c0
      have h1 := addF_ok (i := x.2.toNat) hW hb
      have h2 := addF_lack hW (hx x (by simp) c0) hb
      obtain ⟨k1, k2, k3⟩ := tl (addF W x.2.toNat (beginF E F r (W.getD h 0))).1 ((addF W x.2.toNat (beginF E F r (W.getD h 0))).2 || more) h1
      refine ⟨k1, Nat.le_trans k2 h2.1, fun c => ?_⟩
      rcases k3 c with c2 | c2
      · rw [Bool.or_eq_true] at c2
        rcases c2 with c2 | c2
        · exact .inr (Nat.lt_of_le_of_lt k2 (h2.2 c2))
        · exact .inl c2
      · exact .inr (Nat.lt_of_lt_of_le c2 h2.1)
    · exact tl W more hW
theorem passW_ok {E : List Bool} {F : List Nat} {n : Nat} (hF : okW n F) : ∀ (l : List gramL.Prod) (W : List Nat) (more : Bool), Fine n l → okW n W → okW n (passW E F l W more).1 ∧ lack (passW E F l W more).1 ≤ lack W ∧ ((passW E F l W more).2 = true → more = true ∨ lack (passW E F l W more).1 < lack W)
  | [], W, more, _, h => ⟨h, Nat.le_refl _, fun c => .inl c⟩
  | p :: r, W, more, hf, h => by
    rw [passW]
    obtain ⟨a1, a2, a3⟩ := passWb_ok (E := E) hF (hf.head p (by simp)).2 p.2 W more (fun x hx h1 => (hf.term p (by simp) x hx h1).2) (fun x hx h2 => (hf.non p (by simp) x hx (by omega)).2.2) h
    obtain ⟨k1, k2, k3⟩ := passW_ok hF r (passWb E F p.1.toNat p.2 W more).1 (passWb E F p.1.toNat p.2 W more).2 hf.tail a1
    refine ⟨k1, Nat.le_trans k2 a2, fun c => ?_⟩
    rcases k3 c with c2 | c2
    · rcases a3 c2 with c3 | c3
      · exact .inl c3
      · exact .inr (Nat.lt_of_le_of_lt k2 c3)
    · exact .inr (Nat.lt_of_lt_of_le c2 a2)
theorem fallsF {E M : List Bool} {n : Nat} {l : List gramL.Prod} (hf : Fine n l) : Falls (fun F => passF E M l F false) (okW n) lack :=
  ⟨fun s hs => (passF_ok l s false hf hs).1, fun s hs c => by
    rcases (passF_ok (E := E) (M := M) l s false hf hs).2.2 c with h | h
    · cases h
    · exact h⟩
theorem fallsW {E : List Bool} {F : List Nat} {n : Nat} {l : List gramL.Prod} (hF : okW n F) (hf : Fine n l) : Falls (fun W => passW E F l W false) (okW n) lack :=
  ⟨fun s hs => (passW_ok hF l s false hf hs).1, fun s hs c => by
    rcases (passW_ok (E := E) hF l s false hf hs).2.2 c with h | h
    · cases h
    · exact h⟩
end Go.Proofs.Ytlojfbnimmdehaa.factsL

/- FactsN -/
namespace Go.Proofs.Ytlojfbnimmdehaa.factsL
open gramL
def okR (n : Nat) (s : FS) : Prop := s.E.length = n ∧ s.R.length = n ∧ s.M.length = n
def had (s : FS) : Nat := trues s.E + trues s.R + trues s.M
/-- a step of rounds, begun with nothing new -/
def stepS (l : List gramL.Prod) (s : FS) : FS × Bool := (roundL l ⟨s.E, s.R, s.M, false⟩, (roundL l ⟨s.E, s.R, s.M, false⟩).more)
theorem trues_le (l : List Bool) : trues l ≤ l.length := List.countP_le_length
theorem markF_grow {l : List Bool} {i : Nat} {b : Bool} (hi : i < l.length) : trues l ≤ trues (markF l i b).1 ∧ ((markF l i b).2 = true → trues l < trues (markF l i b).1) := by
  have := markF_trues (b := b) hi
  refine ⟨by split at this <;> omega, fun h => ?_⟩
  rw [if_pos h] at this
  omega
theorem roundR_grow {h n : Nat} : ∀ (body : List Sym) (R : List Bool) (more : Bool), (∀ x ∈ body, x.1 = 2 → x.2.toNat < n) → R.length = n → trues R ≤ trues (roundR h body R more).1 ∧ ((roundR h body R more).2 = true → more = true ∨ trues R < trues (roundR h body R more).1)
  | [], R, more, _, _ => ⟨Nat.le_refl _, fun c => .inl c⟩
  | x :: r, R, more, hx, hR => by
    rw [roundR]
    have ih := fun R more => roundR_grow (h := h) r R more fun y hy => hx y (by simp [hy])
    unfold stepR
    split
    · rename_i c0
      have hg := markF_grow (b := R.getD h false) (show x.2.toNat < R.length by rw [hR]; exact hx x (by simp) c0)
      have hl := markF_len R x.2.toNat (R.getD h false)
      generalize markF R x.2.toNat (R.getD h false) = a at *
      obtain ⟨R2, m2⟩ := a
      dsimp only at *
      obtain ⟨k1, k2⟩ := ih R2 (m2 || more) (by omega)
      refine ⟨by omega, fun c => ?_⟩
      rcases k2 c with c2 | c2
      · rw [Bool.or_eq_true] at c2
        rcases c2 with c2 | c2
        · have := hg.2 c2
          exact .inr (by omega)
        · exact .inl c2
      · exact .inr (by omega)
    · exact ih R more hR
theorem roundP_grow {n : Nat} {p : gramL.Prod} {s : FS} (hp : p.1.toNat < n) (hx : ∀ x ∈ p.2, x.1 = 2 → x.2.toNat < n) (h : okR n s) : okR n (roundP p s) ∧ had s ≤ had (roundP p s) ∧ ((roundP p s).more = true → s.more = true ∨ had s < had (roundP p s)) := by
  obtain ⟨E, R, M, more⟩ := s
  obtain ⟨h1, h2, h3⟩ := h
  unfold roundP okR had
  dsimp only at *
  have e1 := markF_grow (b := allF E p.2 false) (show p.1.toNat < E.length by omega)
  have e2 := markF_len E p.1.toNat (allF E p.2 false)
  have m1 := markF_grow (b := allF M p.2 true) (show p.1.toNat < M.length by omega)
  have m2 := markF_len M p.1.toNat (allF M p.2 true)
  generalize markF E p.1.toNat (allF E p.2 false) = a at *
  generalize markF M p.1.toNat (allF M p.2 true) = b at *
  obtain ⟨E2, ce⟩ := a
  obtain ⟨M2, cm⟩ := b
  dsimp only at *
  have r1 := roundR_grow (h := p.1.toNat) p.2 R (cm || (ce || more)) hx h2
  have r2 := roundR_len p.1.toNat p.2 R (cm || (ce || more))
  generalize roundR p.1.toNat p.2 R (cm || (ce || more)) = c at *
  obtain ⟨R2, cr⟩ := c
  dsimp only at *
  refine ⟨⟨by omega, by omega, by omega⟩, by omega, fun hc => ?_⟩
  rcases r1.2 hc with h4 | h4
  · rw [Bool.or_eq_true, Bool.or_eq_true] at h4
    rcases h4 with h4 | h4 | h4
    · have := m1.2 h4
      exact .inr (by omega)
    · have := e1.2 h4
      exact .inr (by omega)
    · exact .inl h4
  · exact .inr (by omega)
theorem roundL_grow {n : Nat} : ∀ (l : List gramL.Prod) (s : FS), Fine n l → okR n s → okR n (roundL l s) ∧ had s ≤ had (roundL l s) ∧ ((roundL l s).more = true → s.more = true ∨ had s < had (roundL l s))
  | [], s, _, h => ⟨h, Nat.le_refl _, fun c => .inl c⟩
  | p :: r, s, hf, h => by
    rw [roundL]
    obtain ⟨a1, a2, a3⟩ := roundP_grow (s := s) (hf.head p (by simp)).2 (fun x hx h2 => (hf.non p (by simp) x hx (by omega)).2.2) h
    obtain ⟨k1, k2, k3⟩ := roundL_grow r (roundP p s) hf.tail a1
    refine ⟨k1, by omega, fun c => ?_⟩
    rcases k3 c with c2 | c2
    · rcases a3 c2 with c3 | c3
      · exact .inl c3
      · exact .inr (by omega)
    · exact .inr (by omega)
theorem had_le {n : Nat} {s : FS} (h : okR n s) : had s ≤ 3 * n := by
  have a := trues_le s.E
  have b := trues_le s.R
  have c := trues_le s.M
  obtain ⟨h1, h2, h3⟩ := h
  unfold had; omega
/-- what is still missing after rounds -/
def lackS (n : Nat) (s : FS) : Nat := 3 * n - had s
theorem fallsS {n : Nat} {l : List gramL.Prod} (hf : Fine n l) : Falls (stepS l) (okR n) (lackS n) :=
  ⟨fun s hs => (roundL_grow l ⟨s.E, s.R, s.M, false⟩ hf hs).1, fun s hs c => by
    have h := roundL_grow l ⟨s.E, s.R, s.M, false⟩ hf hs
    have h2 := had_le h.1
    rcases h.2.2 c with h3 | h3
    · cases h3
    · have e : had ⟨s.E, s.R, s.M, false⟩ = had s := rfl
      show 3 * n - had (roundL l ⟨s.E, s.R, s.M, false⟩) < 3 * n - had s
      omega⟩
end Go.Proofs.Ytlojfbnimmdehaa.factsL

/- FactsP -/
namespace Go.Proofs.Ytlojfbnimmdehaa.factsL
open gramL
theorem set_getD (l : List Nat) (i : Nat) : l.set i (l.getD i 0) = l := by
  by_cases h : i < l.length
  · have e : l.getD i 0 = l[i] := by rw [List.getD_eq_getElem?_getD, List.getElem?_eq_getElem h]; rfl
    rw [e, List.set_getElem_self]
  · rw [List.set_eq_of_length_le (by omega)]
/-- a pass that tells nothing new: all holds already -/
theorem passF_still {E M : List Bool} : ∀ (l : List gramL.Prod) (F : List Nat) (more : Bool), (passF E M l F more).2 = false → more = false ∧ (passF E M l F more).1 = F ∧ ∀ p ∈ l, allF M p.2 true = true → F.getD p.1.toNat 0 ||| beginF E F p.2 0 = F.getD p.1.toNat 0
  | [], F, more, h => ⟨h, rfl, fun p hp => by cases hp⟩
  | p :: r, F, more, h => by
    rw [passF] at h ⊢
    unfold stepF at h ⊢
    by_cases c : allF M p.2 true = true
    · rw [if_pos c] at h ⊢
      obtain ⟨h1, h2, h3⟩ := passF_still r _ _ h
      rw [Bool.or_eq_false_iff] at h1
      have h4 : F.getD p.1.toNat 0 ||| beginF E F p.2 0 = F.getD p.1.toNat 0 := by
        have := h1.1
        unfold addF at this
        simpa using this
      have h5 : (addF F p.1.toNat (beginF E F p.2 0)).1 = F := by
        unfold addF
        dsimp only
        rw [h4, set_getD]
      rw [h2]
      rw [h5] at h3 ⊢
      refine ⟨h1.2, rfl, fun q hq hc => ?_⟩
      rcases List.mem_cons.1 hq with rfl | hq
      · exact h4
      · exact h3 q hq hc
    · rw [if_neg c] at h ⊢
      obtain ⟨h1, h2, h3⟩ := passF_still r _ _ h
      refine ⟨h1, h2, fun q hq hc => ?_⟩
      rcases List.mem_cons.1 hq with rfl | hq
      · exact absurd hc c
      · exact h3 q hq hc
end Go.Proofs.Ytlojfbnimmdehaa.factsL

/- FactsQ -/
namespace Go.Proofs.Ytlojfbnimmdehaa.factsL
open gramL treeL
theorem markF_still {l : List Bool} {i : Nat} {b : Bool} (h : (markF l i b).2 = false) : (markF l i b).1 = l ∧ (b = true → l.getD i false = true) := by
  unfold markF at h ⊢
  split at h
  · cases h
  · rename_i c
    rw [if_neg c]
    refine ⟨rfl, fun hb => ?_⟩
    cases e : l.getD i false
    · exact absurd ⟨hb, e⟩ c
    · rfl
theorem roundR_still {h : Nat} : ∀ (body : List Sym) (R : List Bool) (more : Bool), (roundR h body R more).2 = false → more = false ∧ (roundR h body R more).1 = R ∧ ∀ x ∈ body, x.1 = 2 → R.getD h false = true → R.getD x.2.toNat false = true
  | [], R, more, hm => ⟨hm, rfl, fun x hx => by cases hx⟩
  | x :: r, R, more, hm => by
    rw [roundR] at hm ⊢
    unfold stepR at hm ⊢
    by_cases c : x.1 = 2
    · rw [if_pos c] at hm ⊢
      obtain ⟨h1, h2, h3⟩ := roundR_still r _ _ hm
      rw [Bool.or_eq_false_iff] at h1
      obtain ⟨k1, k2⟩ := markF_still h1.1
      rw [h2]
      dsimp only at h3 ⊢
      rw [k1] at h3 ⊢
      refine ⟨h1.2, rfl, fun y hy => ?_⟩
      rcases List.mem_cons.1 hy with rfl | hy
      · exact fun _ => k2
      · exact h3 y hy
    · rw [if_neg c] at hm ⊢
      obtain ⟨h1, h2, h3⟩ := roundR_still r _ _ hm
      refine ⟨h1, h2, fun y hy => ?_⟩
      rcases List.mem_cons.1 hy with rfl | hy
      · exact fun h => absurd h c
      · exact h3 y hy
/-- nothing is missing of the three sets of nonterminals -/
structure ClosedS (l : List gramL.Prod) (E R M : List Bool) : Prop where
  empty : ∀ p ∈ l, allF E p.2 false = true → E.getD p.1.toNat false = true
  makes : ∀ p ∈ l, allF M p.2 true = true → M.getD p.1.toNat false = true
  reach : ∀ p ∈ l, ∀ x ∈ p.2, x.1 = 2 → R.getD p.1.toNat false = true → R.getD x.2.toNat false = true
theorem roundP_still {p : gramL.Prod} {s : FS} (h : (roundP p s).more = false) : s.more = false ∧ (roundP p s).E = s.E ∧ (roundP p s).R = s.R ∧ (roundP p s).M = s.M ∧ ClosedS [p] s.E s.R s.M := by
  unfold roundP at h ⊢
  dsimp only at h ⊢
  obtain ⟨h1, h2, h3⟩ := roundR_still p.2 s.R _ h
  rw [Bool.or_eq_false_iff, Bool.or_eq_false_iff] at h1
  obtain ⟨m1, m2⟩ := markF_still h1.1
  obtain ⟨e1, e2⟩ := markF_still h1.2.1
  refine ⟨h1.2.2, e1, h2, m1, ⟨fun q hq => ?_, fun q hq => ?_, fun q hq => ?_⟩⟩
  · simp only [List.mem_cons, List.not_mem_nil, or_false] at hq; subst hq; exact e2
  · simp only [List.mem_cons, List.not_mem_nil, or_false] at hq; subst hq; exact m2
  · simp only [List.mem_cons, List.not_mem_nil, or_false] at hq; subst hq; exact h3
theorem roundL_still : ∀ (l : List gramL.Prod) (s : FS), (roundL l s).more = false → s.more = false ∧ (roundL l s).E = s.E ∧ (roundL l s).R = s.R ∧ (roundL l s).M = s.M ∧ ClosedS l s.E s.R s.M
  | [], s, h => ⟨h, rfl, rfl, rfl, ⟨fun p hp => (by cases hp), fun p hp => (by cases hp), fun p hp => (by cases hp)⟩⟩
  | p :: r, s, h => by
    rw [roundL] at h ⊢
    obtain ⟨h1, h2, h3, h4, h5⟩ := roundL_still r _ h
    obtain ⟨k1, k2, k3, k4, k5⟩ := roundP_still h1
    rw [k2] at h2
    rw [k3] at h3
    rw [k4] at h4
    rw [k2, k3, k4] at h5
    refine ⟨k1, h2, h3, h4, ⟨fun q hq => ?_, fun q hq => ?_, fun q hq => ?_⟩⟩
    · rcases List.mem_cons.1 hq with rfl | hq
      · exact k5.empty q (by simp)
      · exact h5.empty q hq
    · rcases List.mem_cons.1 hq with rfl | hq
      · exact k5.makes q (by simp)
      · exact h5.makes q hq
    · rcases List.mem_cons.1 hq with rfl | hq
      · exact k5.reach q (by simp)
      · exact h5.reach q hq
/-- what is true stays true -/
theorem markF_keep {l : List Bool} {i k : Nat} {b : Bool} (h : l.getD k false = true) : (markF l i b).1.getD k false = true := by
  unfold markF
  split
  · rw [List.getD_eq_getElem?_getD] at h ⊢
    rw [List.getElem?_set]
    split
    · split
      · rfl
      · rename_i e1 e2
        rw [List.getElem?_eq_none (by omega)] at h; cases h
    · exact h
  · exact h
theorem roundR_keep {h k : Nat} : ∀ (body : List Sym) (R : List Bool) (more : Bool), R.getD k false = true → (roundR h body R more).1.getD k false = true
  | [], R, more, hk => hk
  | x :: r, R, more, hk => by
    rw [roundR]
    refine roundR_keep r _ _ ?_
    unfold stepR
    split
    · exact markF_keep hk
    · exact hk
theorem roundL_keep {k : Nat} : ∀ (l : List gramL.Prod) (s : FS), s.R.getD k false = true → (roundL l s).R.getD k false = true
  | [], s, h => h
  | p :: r, s, h => by
    rw [roundL]
    refine roundL_keep r _ ?_
    unfold roundP
    exact roundR_keep _ _ _ h
theorem passWb_still {E : List Bool} {F : List Nat} {h : Nat} : ∀ (body : List Sym) (W : List Nat) (more : Bool), (passWb E F h body W more).2 = false → more = false ∧ (passWb E F h body W more).1 = W ∧ ∀ pre x post, body = pre ++ x :: post → x.1 = 2 → W.getD x.2.toNat 0 ||| beginF E F post (W.getD h 0) = W.getD x.2.toNat 0
  | [], W, more, hm => ⟨hm, rfl, fun pre x post e => by simp at e⟩
  | y :: r, W, more, hm => by
    rw [passWb] at hm ⊢
    unfold stepW at hm ⊢
    by_cases c : y.1 = 2
    · rw [if_pos c] at hm ⊢
      obtain ⟨h1, h2, h3⟩ := passWb_still r _ _ hm
      rw [Bool.or_eq_false_iff] at h1
      have h4 : W.getD y.2.toNat 0 ||| beginF E F r (W.getD h 0) = W.getD y.2.toNat 0 := by
        have := h1.1
        unfold addF at this
        simpa using this
      have h5 : (addF W y.2.toNat (beginF E F r (W.getD h 0))).1 = W := by
        unfold addF
        dsimp only
        rw [h4, set_getD]
      rw [h2]
      dsimp only at h3 ⊢
      rw [h5] at h3 ⊢
      refine ⟨h1.2, rfl, fun pre x post e hx => ?_⟩
      match pre, e with
      | [], e =>
        simp only [List.nil_append, List.cons.injEq] at e
        obtain ⟨rfl, rfl⟩ := e
        exact h4
      | z :: pre, e =>
        simp only [List.cons_append, List.cons.injEq] at e
        exact h3 pre x post e.2 hx
    · rw [if_neg c] at hm ⊢
      obtain ⟨h1, h2, h3⟩ := passWb_still r _ _ hm
      refine ⟨h1, h2, fun pre x post e hx => ?_⟩
      match pre, e with
      | [], e =>
        simp only [List.nil_append, List.cons.injEq] at e
        obtain ⟨rfl, rfl⟩ := e
        exact absurd hx c
      | z :: pre, e =>
        simp only [List.cons_append, List.cons.injEq] at e
        exact h3 pre x post e.2 hx
theorem passW_still {E : List Bool} {F : List Nat} : ∀ (l : List gramL.Prod) (W : List Nat) (more : Bool), (passW E F l W more).2 = false → more = false ∧ (passW E F l W more).1 = W ∧ ∀ p ∈ l, ∀ pre x post, p.2 = pre ++ x :: post → x.1 = 2 → W.getD x.2.toNat 0 ||| beginF E F post (W.getD p.1.toNat 0) = W.getD x.2.toNat 0
  | [], W, more, hm => ⟨hm, rfl, fun p hp => by cases hp⟩
  | p :: r, W, more, hm => by
    rw [passW] at hm ⊢
    obtain ⟨h1, h2, h3⟩ := passW_still r _ _ hm
    obtain ⟨k1, k2, k3⟩ := passWb_still p.2 W more h1
    rw [k2] at h2 h3 ⊢
    refine ⟨k1, h2, fun q hq => ?_⟩
    rcases List.mem_cons.1 hq with rfl | hq
    · exact k3
    · exact h3 q hq
theorem addF_keep {l : List Nat} {i b k z : Nat} (h : (l.getD k 0).testBit z = true) : ((addF l i b).1.getD k 0).testBit z = true := by
  unfold addF
  dsimp only
  rw [List.getD_eq_getElem?_getD, List.getElem?_set]
  split
  · rename_i e
    subst e
    split
    · rw [Option.getD_some, Nat.testBit_or, h, Bool.true_or]
    · rename_i e2
      rw [List.getD_eq_getElem?_getD, List.getElem?_eq_none (by omega)] at h; simp at h
  · rw [← List.getD_eq_getElem?_getD]; exact h
theorem passWb_keep {E : List Bool} {F : List Nat} {h k z : Nat} : ∀ (body : List Sym) (W : List Nat) (more : Bool), (W.getD k 0).testBit z = true → ((passWb E F h body W more).1.getD k 0).testBit z = true
  | [], W, more, hk => hk
  | x :: r, W, more, hk => by
    rw [passWb]
    refine passWb_keep r _ _ ?_
    unfold stepW
    split
    · exact addF_keep hk
    · exact hk
theorem passW_keep {E : List Bool} {F : List Nat} {k z : Nat} : ∀ (l : List gramL.Prod) (W : List Nat) (more : Bool), (W.getD k 0).testBit z = true → ((passW E F l W more).1.getD k 0).testBit z = true
  | [], W, more, hk => hk
  | p :: r, W, more, hk => by
    rw [passW]
    exact passW_keep r _ _ (passWb_keep _ _ _ hk)
/-- nothing is missing of any set -/
structure ClosedF (l : List gramL.Prod) (E : List Bool) (F W : List Nat) (R M : List Bool) : Prop extends ClosedS l E R M where
  first : ∀ p ∈ l, allF M p.2 true = true → F.getD p.1.toNat 0 ||| beginF E F p.2 0 = F.getD p.1.toNat 0
  follow : ∀ p ∈ l, ∀ pre x post, p.2 = pre ++ x :: post → x.1 = 2 → W.getD x.2.toNat 0 ||| beginF E F post (W.getD p.1.toNat 0) = W.getD x.2.toNat 0
  top : R.getD 0 false = true
  last : (W.getD 0 0).testBit 63 = true
theorem or_bit {x y z : Nat} (h : x ||| y = x) (hy : y.testBit z = true) : x.testBit z = true := by
  rw [← h, Nat.testBit_or, hy, Bool.or_true]
end Go.Proofs.Ytlojfbnimmdehaa.factsL

/- FactsR -/
namespace Go.Proofs.Ytlojfbnimmdehaa.factsL
open gramL treeL countL
def bitAt (w : List Int) (a : Nat) : Nat := if a < w.length then (w.getD a 0).toNat else 63
theorem beginGo_out {E : List Bool} {F : List Nat} {behind z : Nat} : ∀ (b : List Sym) (out : Nat), out.testBit z = true → (beginGo E F behind b out).testBit z = true
  | [], out, h => by unfold beginGo; rw [Nat.testBit_or, h, Bool.true_or]
  | x :: r, out, h => by
    unfold beginGo
    split
    · rw [Nat.testBit_or, h, Bool.true_or]
    · split
      · exact beginGo_out r _ (by rw [Nat.testBit_or, h, Bool.true_or])
      · rw [Nat.testBit_or, h, Bool.true_or]
theorem right_x {l : List gramL.Prod} {p k : Int} {kids : List Tree} {x : Sym} {u : Nat} (h : Right l (.mk p k kids) x u) (hp : 0 ≤ p) : x.1 ≠ 1 ∧ p < (l.length : Int) ∧ (prodAt l p).1 = x.2 ∧ k = 0 ∧ Rights l kids (prodAt l p).2 u := by
  rw [Right] at h
  rcases h with ⟨_, e, _⟩ | ⟨a1, _, a3, a4, a5, a6⟩
  · omega
  · exact ⟨a1, a3, a4, a5, a6⟩
theorem right_kind {l : List gramL.Prod} {p k : Int} {kids : List Tree} {x : Sym} {u : Nat} (h : Right l (.mk p k kids) x u) : (x.1 = 1 ∧ p = -1 ∧ kids = []) ∨ (x.1 ≠ 1 ∧ 0 ≤ p) := by
  rw [Right] at h
  rcases h with ⟨a, b, _, c⟩ | ⟨a, b, _⟩
  · exact .inl ⟨a, b, c⟩
  · exact .inr ⟨a, b⟩
section
variable {l : List gramL.Prod} {n : Nat} {E R M : List Bool} {F W : List Nat} {w : List Int}
mutual
theorem empty_of (hC : ClosedF l E F W R M) : ∀ {t : Tree} {x : Sym} {u : Nat}, Right l t x u → 0 ≤ t.prod → leaves t = 0 → E.getD x.2.toNat false = true
  | .mk p k kids, x, u, h, hp, h0 => by
    have hp : 0 ≤ p := hp
    obtain ⟨a1, a2, a3, a4, a5⟩ := right_x h hp
    rw [leaves, if_neg (by omega)] at h0
    rw [← a3]
    exact hC.empty _ (prodAt_mem hp a2) (empties_of hC a5 h0)
theorem empties_of (hC : ClosedF l E F W R M) : ∀ {ks : List Tree} {b : List Sym} {u : Nat}, Rights l ks b u → leavess ks = 0 → allF E b false = true
  | [], [], _, _, _ => rfl
  | .mk p k kk :: r, y :: b, u, h, h0 => by
    rw [Rights] at h
    rw [leavess] at h0
    have ih := empties_of hC h.2 (by omega)
    unfold allF at ih ⊢
    rw [List.all_cons, ih, Bool.and_true]
    rcases right_kind h.1 with ⟨e1, e2, _⟩ | ⟨e1, e2⟩
    · rw [leaves, if_pos (by omega)] at h0; omega
    · rw [if_neg e1]
      split
      · exact empty_of hC h.1 e2 (by omega)
      · rfl
  | [], _ :: _, _, h, _ => by simp [Rights] at h
  | _ :: _, [], _, h, _ => by simp [Rights] at h
end
mutual
theorem makes_of (hC : ClosedF l E F W R M) : ∀ {t : Tree} {x : Sym} {u : Nat}, Right l t x u → 0 ≤ t.prod → M.getD x.2.toNat false = true
  | .mk p k kids, x, u, h, hp => by
    have hp : 0 ≤ p := hp
    obtain ⟨a1, a2, a3, a4, a5⟩ := right_x h hp
    rw [← a3]
    exact hC.makes _ (prodAt_mem hp a2) (makess_of hC a5)
theorem makess_of (hC : ClosedF l E F W R M) : ∀ {ks : List Tree} {b : List Sym} {u : Nat}, Rights l ks b u → allF M b true = true
  | [], [], _, _ => rfl
  | .mk p k kk :: r, y :: b, u, h => by
    rw [Rights] at h
    have ih := makess_of hC h.2
    unfold allF at ih ⊢
    rw [List.all_cons, ih, Bool.and_true]
    rcases right_kind h.1 with ⟨e1, e2, _⟩ | ⟨e1, e2⟩
    · rw [if_pos e1]
    · rw [if_neg e1]
      split
      · exact makes_of hC h.1 e2
      · rfl
  | [], _ :: _, _, h => by simp [Rights] at h
  | _ :: _, [], _, h => by simp [Rights] at h
end
theorem bit_first {a : Nat} {v : Int} {r : List Int} (h : w.drop a = v :: r) : bitAt w a = v.toNat := by
  have h1 : (w.drop a)[0]? = some v := by rw [h]; rfl
  rw [List.getElem?_drop] at h1
  have h2 := (List.getElem?_eq_some_iff.1 h1).1
  unfold bitAt
  rw [if_pos (by simpa using h2), List.getD_eq_getElem?_getD]
  rw [Nat.add_zero] at h1
  rw [h1]; rfl
mutual
theorem first_of (hC : ClosedF l E F W R M) : ∀ {t : Tree} {x : Sym} {u a : Nat}, Right l t x u → 0 ≤ t.prod → 0 < leaves t → (∃ r, w.drop a = yieldT l t ++ r) → (F.getD x.2.toNat 0).testBit (bitAt w a) = true
  | .mk p k kids, x, u, a, h, hp, h0, ⟨r, hr⟩ => by
    have hp : 0 ≤ p := hp
    obtain ⟨a1, a2, a3, a4, a5⟩ := right_x h hp
    rw [leaves, if_neg (by omega)] at h0
    rw [← a3]
    refine or_bit (hC.first _ (prodAt_mem hp a2) (makess_of hC a5)) ?_
    rw [yieldT_eq] at hr
    exact begin_has hC a5 ⟨r, hr⟩ 0 0 fun h => by omega
theorem begin_has (hC : ClosedF l E F W R M) : ∀ {ks : List Tree} {b : List Sym} {u a : Nat}, Rights l ks b u → (∃ r, w.drop a = yields l ks b ++ r) → ∀ (behind out : Nat), (leavess ks = 0 → behind.testBit (bitAt w a) = true) → (beginGo E F behind b out).testBit (bitAt w a) = true
  | [], [], u, a, _, _, behind, out, hb => by
    unfold beginGo
    rw [Nat.testBit_or, hb (by rw [leavess]), Bool.or_true]
  | .mk p k kk :: ks, y :: b, u, a, h, ⟨r, hr⟩, behind, out, hb => by
    rw [Rights] at h
    rw [yields_X, List.append_assoc] at hr
    unfold beginGo
    rcases right_kind h.1 with ⟨e1, e2, e3⟩ | ⟨e1, e2⟩
    · rw [if_pos e1]
      have hx : yieldX l (.mk p k kk) y = [y.2] := by unfold yieldX; rw [if_pos (by show p < 0; omega)]
      rw [hx] at hr
      rw [bit_first hr, Nat.testBit_or, Nat.testBit_two_pow_self, Bool.or_true]
    · rw [if_neg e1]
      have hx : yieldX l (.mk p k kk) y = yieldT l (.mk p k kk) := by unfold yieldX; rw [if_neg (by show ¬ p < 0; omega)]
      rw [hx] at hr
      have hlen := yield_len h.1 e2
      by_cases h0 : leaves (.mk p k kk) = 0
      · rw [if_pos (empty_of hC h.1 e2 h0)]
        have hy : yieldT l (.mk p k kk) = [] := List.eq_nil_of_length_eq_zero (by omega)
        rw [hy, List.nil_append] at hr
        exact begin_has hC h.2 ⟨r, hr⟩ behind _ fun h1 => hb (by rw [leavess]; omega)
      · have hf := first_of hC h.1 e2 (by omega) ⟨_, hr⟩
        split
        · exact beginGo_out _ _ (by rw [Nat.testBit_or, hf, Bool.or_true])
        · rw [Nat.testBit_or, hf, Bool.or_true]
  | [], _ :: _, _, _, h, _, _, _, _ => by simp [Rights] at h
  | _ :: _, [], _, _, h, _, _, _, _ => by simp [Rights] at h
end
end
section
end
section
end
end Go.Proofs.Ytlojfbnimmdehaa.factsL

/- CountX -/
namespace Go.Proofs.Ytlojfbnimmdehaa.countL
open gramL treeL
def cutB (o : Sym → Nat → Nat → Nat) (y : Sym) (r : List Sym) (a b m : Nat) : Bool := decide (0 < o y a m) && decide (0 < rowF o r m b)
section
variable {o : Sym → Nat → Nat → Nat} {l : List gramL.Prod} {x : Sym} {a b : Nat}
theorem sumN_pos {f : Nat → Nat} : ∀ {k : Nat}, 0 < sumN f k → ∃ i, i < k ∧ 0 < f i
  | 0, h => by simp [sumN] at h
  | k + 1, h => by
    rw [sumN] at h
    by_cases c : 0 < f k
    · exact ⟨k, by omega, c⟩
    · obtain ⟨i, h1, h2⟩ := sumN_pos (f := f) (k := k) (by omega)
      exact ⟨i, by omega, h2⟩
theorem row_cut {y : Sym} {r : List Sym} (hab : a ≤ b) (h : 0 < rowF o (y :: r) a b) : ∃ m, a ≤ m ∧ m ≤ b ∧ cutB o y r a b m = true := by
  rw [rowF_E _ _ hab, rowE] at h
  obtain ⟨i, h1, h2⟩ := sumN_pos (f := fun i => o y a (a + i) * rowE o r (a + i) b) (k := b - a + 1) (by omega)
  have h2 : 0 < o y a (a + i) * rowE o r (a + i) b := h2
  refine ⟨a + i, by omega, by omega, ?_⟩
  unfold cutB
  rw [rowF_E _ _ (by omega : a + i ≤ b)]
  rw [Bool.and_eq_true, decide_eq_true_iff, decide_eq_true_iff]
  exact ⟨Nat.pos_of_mul_pos_right h2, by have := Nat.pos_of_mul_pos_left h2; omega⟩
theorem sumP_pos {n : Nat} : ∀ {l : List gramL.Prod}, 0 < sumP o a b n l → ∃ k, k < l.length ∧ (prodAt l (k : Int)).1 = (n : Int) ∧ 0 < rowF o (prodAt l (k : Int)).2 a b
  | [], h => by simp [sumP] at h
  | p :: r, h => by
    rw [sumP] at h
    by_cases c : p.1 = (n : Int) ∧ 0 < rowF o p.2 a b
    · exact ⟨0, by simp, c.1, c.2⟩
    · have : 0 < sumP o a b n r := by
        by_cases c1 : p.1 = (n : Int)
        · rw [if_pos c1] at h
          have : ¬ 0 < rowF o p.2 a b := fun h => c ⟨c1, h⟩
          omega
        · rw [if_neg c1] at h; omega
      obtain ⟨k, h1, h2, h3⟩ := sumP_pos this
      exact ⟨k + 1, by simpa using h1, h2, h3⟩
end
section
end
end Go.Proofs.Ytlojfbnimmdehaa.countL


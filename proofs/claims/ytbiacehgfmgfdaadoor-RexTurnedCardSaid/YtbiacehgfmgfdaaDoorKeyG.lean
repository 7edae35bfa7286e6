/- Keys of maps that are structs or arrays of numbers. -/
import Derived.Test.YtbiacehgfmgfdaaDoorMgB
import Derived.DeepKeys4
namespace Go.Proofs.YtbiacehgfmgfdaaDoor.eng
open Go.RowKit kit mix
theorem mapM_some {α β : Type} {f : α → Option β} : ∀ {l : List α}, (∀ x ∈ l, ∃ y, f x = some y) → ∃ ys, l.mapM f = some ys
  | [], _ => ⟨[], by simp⟩
  | a :: l, h => by
    obtain ⟨y, hy⟩ := h a (by simp)
    obtain ⟨ys, hys⟩ := mapM_some (l := l) fun x hx => h x (by simp [hx])
    exact ⟨y :: ys, by simp [List.mapM_cons, hy, hys]⟩
section
variable {P : Program}
def KL (P : Program) (d : Nat) (t : TypeId) (cs : List Value) : Prop := ∃ ls, P.keyLits d t cs = some ls
theorem kl_int {d : Nat} {t : TypeId} {q : IntKind} {n : Int} (ht : P.underlying t = some (.int q)) (h0 : q.min ≤ n) (h1 : n ≤ q.max) : KL P (d + 1) t [.int q n] := by
  refine ⟨[.int q n], ?_⟩
  have hw : (Lit.int q n).wf = true := by simp [Lit.wf, h0, h1]
  simp [Program.keyLits, ht, hw]
theorem kl_arr {d n : Nat} {t e : TypeId} {cs : List Value} (ht : P.underlying t = some (.array n e)) (hl : cs.length = P.cellsOf t) (h : ∀ i, i < n → KL P d e ((cs.drop (i * P.cellsOf e)).take (P.cellsOf e))) : KL P (d + 1) t cs := by
  obtain ⟨ys, hy⟩ := mapM_some (f := fun i => P.keyLits d e ((cs.drop (i * P.cellsOf e)).take (P.cellsOf e))) (l := List.range n) fun i hi => h i (List.mem_range.1 hi)
  refine ⟨ys.flatten, ?_⟩
  unfold Program.keyLits
  simp only [ht]
  rw [if_pos hl, hy]; rfl
theorem kl_struct {d : Nat} {t : TypeId} {fs : Array Field} {cs : List Value} (ht : P.underlying t = some (.struct fs)) (hl : cs.length = P.cellsOf t) (hn : fs.all (·.name != "_") = true) (h : ∀ f ∈ fs.toList, KL P d f.type ((cs.drop f.offset).take (P.cellsOf f.type))) : KL P (d + 1) t cs := by
  obtain ⟨ys, hy⟩ := mapM_some (f := fun f : Field => P.keyLits d f.type ((cs.drop f.offset).take (P.cellsOf f.type))) (l := fs.toList) h
  refine ⟨ys.flatten, ?_⟩
  unfold Program.keyLits
  simp only [ht]
  rw [if_pos ⟨hl, hn⟩, hy]; rfl
theorem key_ex {t : TypeId} {cs : List Value} {m : Nat} (hw : (match P.underlying t with | some (.array _ _) | some (.struct _) => true | _ => false) = true) (hk : P.keyType t = true) (hl : cs.length = P.cellsOf t) (hm : ∃ d, P.types.size + 1 = d + m) (h : ∀ d, KL P (d + m) t cs) : ∃ l, keyOf P t (.agg cs.toArray) = some l := by
  obtain ⟨d, e⟩ := hm
  obtain ⟨ls, hls⟩ := h d
  refine ⟨.string (keyBytes ls), ?_⟩
  have hf : (Value.agg cs.toArray).formed P t = true := by
    unfold Value.formed
    split at hw <;> simp_all
  have hc : (Value.agg cs.toArray).cells.toList = cs := rfl
  have key : (if (P.keyType t && (Value.agg cs.toArray).formed P t) = true then (P.keyLits (P.types.size + 1) t (Value.agg cs.toArray).cells.toList).map (fun ls => Lit.string (keyBytes ls)) else none) = some (.string (keyBytes ls)) := by
    rw [hk, hf, hc, e, hls]; rfl
  unfold keyOf
  split at hw
  · rename_i h1; rw [h1]; exact key
  · rename_i h1; rw [h1]; exact key
  · cases hw
end
theorem tryLaid : laidOutB Tryd.prog = true := by kernel_rfl
theorem trySize (m : Nat) (h : Nat.ble m (Tryd.prog.types.size + 1) = true) : ∃ d, Tryd.prog.types.size + 1 = d + m := ⟨Tryd.prog.types.size + 1 - m, by have := Nat.le_of_ble_eq_true h; omega⟩
end Go.Proofs.YtbiacehgfmgfdaaDoor.eng

/- Maps that number their keys as they come. -/
import Derived.Test.YtbiacehgfmgfdaaMgB
import Derived.Test.YtbiacehgfmgfdaaSmL
namespace Go.Proofs.Ytbiacehgfmgfdaa.eng
open Go.RowKit kit mix smallL
def mapAt {κ : Type} [DecidableEq κ] (D : List κ) (x : κ) : Option Value := if x ∈ D then some (.int .i64 (idx D x : Int)) else none
theorem mapAt_add {κ : Type} [DecidableEq κ] {D : List κ} {x : κ} (hn : x ∉ D) : (fun y => if y = x then some (.int .i64 (D.length : Int)) else mapAt D y) = mapAt (D ++ [x]) := by
  funext y
  unfold mapAt
  by_cases c : y = x
  · subst c
    rw [if_pos rfl, if_pos (by simp)]
    have := idx_more (D := D) (k := y)
    unfold more at this
    rw [if_neg hn, if_neg hn] at this
    rw [this]
  · rw [if_neg c]
    by_cases c2 : y ∈ D
    · rw [if_pos c2, if_pos (List.mem_append_left _ c2), idx_pre c2]
    · rw [if_neg c2, if_neg (by simp [c, c2])]
section
variable {P : Program} {k : TypeId} {κ : Type} {K : KeyT P k κ}
variable {W : Base} {fr : Fr} {L : List Own} {Q : Exit → Act → World → Prop} {ops : Array Oper} {rest : List Oper} {n d : Nat} {dst : Option Tmp} {ty : TypeId} {pos : String} {after : Array Edge} {guard : Option (Nat × Bool)} {i g c : Nat} {t e : TypeId} {D : List κ} {x : κ} {z : Value} {xm xk xv : Operand} [DecidableEq κ]
theorem rr_lookNumS (ht : P.underlying t = some (.map k e)) (hz : ∀ w, (zeroValue e).run P w = .ok z w) (hi : L[i]? = some (mapO K g (mapAt D) c)) (hm : ev fr xm = some (.map (some g))) (hk : ev fr xk = some (K.kv x)) (hx : K.ok x) (hn : x ∈ D) : RR P n W ⟨dst, .lookup t xm xk true, ty, pos, after, guard⟩ fr L (.tuple #[.int .i64 (idx D x : Int), .bool true]) := by
  have := rr_lookOk (n := n) (W := W) (dst := dst) (ty := ty) (pos := pos) (after := after) (guard := guard) K ht hz hi hm hk hx
  rw [show mapAt D x = some (.int .i64 (idx D x : Int)) from if_pos hn] at this
  exact this
theorem rr_lookNumN (ht : P.underlying t = some (.map k e)) (hz : ∀ w, (zeroValue e).run P w = .ok z w) (hi : L[i]? = some (mapO K g (mapAt D) c)) (hm : ev fr xm = some (.map (some g))) (hk : ev fr xk = some (K.kv x)) (hx : K.ok x) (hn : x ∉ D) : RR P n W ⟨dst, .lookup t xm xk true, ty, pos, after, guard⟩ fr L (.tuple #[z, .bool false]) := by
  have := rr_lookOk (n := n) (W := W) (dst := dst) (ty := ty) (pos := pos) (after := after) (guard := guard) K ht hz hi hm hk hx
  rw [show mapAt D x = none from if_neg hn] at this
  exact this
theorem TL_mapNew (hn : Nat.blt d n = true) (h : ∀ g, TL P n W ops Q rest ((d, .map (some g)) :: fr) (L ++ [mapO K g (mapAt []) 0])) :
    TL P n W ops Q (⟨some d, .makeMap t none, ty, pos, after, none⟩ :: rest) fr L := by
  refine TL_map K hn fun g => ?_
  have e : (fun (_ : κ) => (none : Option Value)) = mapAt [] := by funext y; unfold mapAt; rw [if_neg (by simp)]
  rw [e]; exact h g
theorem TL_mapNum (ht : P.underlying t = some (.map k e)) (hi : L[i]? = some (mapO K g (mapAt D) D.length)) (hm : ev fr xm = some (.map (some g))) (hk : ev fr xk = some (K.kv x)) (hv : ev fr xv = some (.int .i64 (D.length : Int))) (hx : K.ok x) (hn : x ∉ D) (hc : D.length ≤ 1152921504606846976)
    (h : TL P n W ops Q rest fr (L.set i (mapO K g (mapAt (D ++ [x])) (D ++ [x]).length))) :
    TL P n W ops Q (⟨none, .mapUpdate t xm xk xv, ty, pos, after, none⟩ :: rest) fr L := by
  refine TL_mapSet K ht hi hm hk hv hx hc ?_
  rw [mapAt_add hn]
  rw [show mapAt D x = none from if_neg hn]
  rw [show (D ++ [x]).length = D.length + 1 by simp] at h
  exact h
end
end Go.Proofs.Ytbiacehgfmgfdaa.eng

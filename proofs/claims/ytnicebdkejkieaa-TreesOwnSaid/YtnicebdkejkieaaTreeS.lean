/- Trees as cells. -/
import Derived.Test.YtnicebdkejkieaaSym
import Derived.Test.YtnicebdkejkieaaRaw
import Derived.Test.YtnicebdkejkieaaTreeL
import Derived.Test.YtnicebdkejkieaaMgB
namespace Go.Proofs.Ytnicebdkejkieaa.eng
open Go.RowKit kit mix gramL treeL
/-- a tree that can be read, its blocks being in F -/
inductive TreeIs (F : Nat → Prop) (w : World) : List Value → Tree → Prop
  | mk {p k : Int} {kids : List Tree} {base : Option Addr} {cap : Nat} (css : List (List Value)) : kit.okI64 p → kit.okI64 k → kids.length ≤ cap → cap ≤ maxLen → css.length = kids.length →
    (∀ i (h : i < kids.length) (h' : i < css.length), TreeIs F w css[i] kids[i]) → (0 < kids.length → ∃ b off, base = some ⟨b, off, none⟩ ∧ F b ∧ ∀ i (_ : i < kids.length) (h' : i < css.length), Rd w b (off + i * 3) css[i]) →
    TreeIs F w [.int .i64 p, .int .i64 k, .slice base kids.length cap] (.mk p k kids)
theorem TreeIs.len3 {F : Nat → Prop} {w : World} {cs : List Value} {t : Tree} (h : TreeIs F w cs t) : cs.length = 3 := by
  cases h; rfl
theorem TreeIs.stayed {F : Nat → Prop} {w w' : World} {cs : List Value} {t : Tree} (h : TreeIs F w cs t) (hk : ∀ k, F k → w'.heap[k]? = w.heap[k]?) : TreeIs F w' cs t := by
  induction h with
  | mk css h1 h2 h3 h4 h5 h6 h7 ih =>
    refine .mk css h1 h2 h3 h4 h5 ih fun hl => ?_
    obtain ⟨b, off, e, hF, hr⟩ := h7 hl
    exact ⟨b, off, e, hF, fun i hi hi' => rd_stay (hr i hi hi') (hk b hF)⟩
theorem TreeIs.mono {F F' : Nat → Prop} {w : World} {cs : List Value} {t : Tree} (h : TreeIs F w cs t) (hk : ∀ k, F k → F' k) : TreeIs F' w cs t := by
  induction h with
  | mk css h1 h2 h3 h4 h5 h6 h7 ih =>
    refine .mk css h1 h2 h3 h4 h5 ih fun hl => ?_
    obtain ⟨b, off, e, hF, hr⟩ := h7 hl
    exact ⟨b, off, e, hk b hF, hr⟩
def treeS : Shp Tree := ⟨3, TreeIs, fun h => h.len3, fun h hk => h.stayed hk, fun h hk => h.mono hk⟩
def treeV (p k : Int) (v : Value) : Value := .agg #[.int .i64 p, .int .i64 k, v]
theorem tree_iff {F : Nat → Prop} {w : World} {cs : List Value} {p k : Int} {kids : List Tree} : TreeIs F w cs (.mk p k kids) ↔ ∃ v, cs = [.int .i64 p, .int .i64 k, v] ∧ kit.okI64 p ∧ kit.okI64 k ∧ SlF treeS F w v kids := by
  constructor
  · intro h
    cases h with
    | mk css h1 h2 h3 h4 h5 h6 h7 =>
      refine ⟨_, rfl, h1, h2, _, _, rfl, h3, h4, fun hl => ?_⟩
      obtain ⟨b, off, e, hF, hr⟩ := h7 hl
      exact ⟨b, off, e, hF, fun i hi => ⟨css[i]'(by omega), h6 i hi (by omega), hr i hi (by omega)⟩⟩
  · rintro ⟨v, rfl, h1, h2, base, cap, rfl, h3, h4, h5⟩
    by_cases hl : 0 < kids.length
    · obtain ⟨b, off, e, hF, hr⟩ := h5 hl
      have hlen : (List.ofFn fun i : Fin kids.length => Classical.choose (hr i i.2)).length = kids.length := by simp
      refine .mk (List.ofFn fun i : Fin kids.length => Classical.choose (hr i i.2)) h1 h2 h3 h4 hlen (fun i hi hi' => ?_) fun _ => ⟨b, off, e, hF, fun i hi hi' => ?_⟩
      · rw [List.getElem_ofFn]; exact (Classical.choose_spec (hr i hi)).1
      · rw [List.getElem_ofFn]; exact (Classical.choose_spec (hr i hi)).2
    · have : kids = [] := List.eq_nil_of_length_eq_zero (by omega)
      subst this
      exact .mk [] h1 h2 h3 h4 rfl (fun i hi => absurd hi (by simp)) fun h => absurd h (by simp)
theorem tree_mk {F : Nat → Prop} {w : World} {cs : List Value} {t : Tree} (h : TreeIs F w cs t) : ∃ v, cs = [.int .i64 t.prod, .int .i64 t.tok, v] ∧ kit.okI64 t.prod ∧ kit.okI64 t.tok ∧ SlF treeS F w v t.kids := by
  obtain ⟨p, k, kids⟩ := t
  exact tree_iff.1 h
/-- a tree that is a value -/
def TreeR (F : Nat → Prop) (w : World) (v : Value) (t : Tree) : Prop := ∃ vk, v = treeV t.prod t.tok vk ∧ kit.okI64 t.prod ∧ kit.okI64 t.tok ∧ SlF treeS F w vk t.kids
theorem TreeR.gr {w w' : World} {v : Value} {t : Tree} (h : TreeR (fun k => k < w.heap.size) w v t) (hg : Gr w w') : TreeR (fun k => k < w'.heap.size) w' v t :=
  let ⟨vk, h1, h2, h3, h4⟩ := h; ⟨vk, h1, h2, h3, h4.gr hg⟩
/-- a kid -/
theorem kid_at {F : Nat → Prop} {w : World} {b off : Nat} {l : List Tree} (h : ∀ i (h : i < l.length), ∃ cs, treeS.is F w cs l[i] ∧ Rd w b (off + i * treeS.c) cs) {k : Nat} (hk : k < l.length) :
    ∃ base cap, Rd w b (off + k * 3) [.int .i64 l[k].prod, .int .i64 l[k].tok, .slice base l[k].kids.length cap] ∧ TreeR F w (treeV l[k].prod l[k].tok (.slice base l[k].kids.length cap)) l[k] := by
  obtain ⟨cs, h1, hr⟩ := h k hk
  obtain ⟨v, rfl, a1, a2, a3⟩ := tree_mk h1
  have a3' := a3
  obtain ⟨base, cap, rfl, _⟩ := a3'
  exact ⟨base, cap, hr, _, rfl, a1, a2, a3⟩
section
variable {P : Program} {n : Nat} {W : Base} {fr : Fr} {L : List Own} {dst : Option Tmp} {ty : TypeId} {pos : String} {after : Array Edge} {guard : Option (Nat × Bool)} {f : FuncId} {ts : Array TypeId} {cl x1 x2 : Operand} {v1 v2 : Value} {first cap : Array Value}
theorem he2c (hf : Enters P f) (hc : ev fr cl = some (.func (.func f) first cap)) (h1 : ev fr x1 = some v1) (h2 : ev fr x2 = some v2) : ∀ a w, Rep n a fr → (execOp a.eval ⟨dst, .call { callee := .value cl, args := #[x1, x2], argTypes := ts }, ty, pos, after, guard⟩).run P w = .ok (.enter f (first ++ #[v1, v2] ++ cap)) w := fun a w hr => by
  have hf' : ∀ args w, (callFunc f args).run P w = .ok (.enter f args) w := hf
  simp [execOp, resolve, hr.ev hc, hr.ev h1, hr.ev h2, Deferred.ofValue, invoke, hf']
theorem he5 {x3 x4 x5 : Operand} {v3 v4 v5 : Value} (hf : Enters P f) (hc : ev fr cl = some (.func (.func f) #[] #[])) (h1 : ev fr x1 = some v1) (h2 : ev fr x2 = some v2) (h3 : ev fr x3 = some v3) (h4 : ev fr x4 = some v4) (h5 : ev fr x5 = some v5) : ∀ a w, Rep n a fr → (execOp a.eval ⟨dst, .call { callee := .value cl, args := #[x1, x2, x3, x4, x5], argTypes := ts }, ty, pos, after, guard⟩).run P w = .ok (.enter f #[v1, v2, v3, v4, v5]) w := fun a w hr => by
  have hf' : ∀ args w, (callFunc f args).run P w = .ok (.enter f args) w := hf
  simp [execOp, resolve, hr.ev hc, hr.ev h1, hr.ev h2, hr.ev h3, hr.ev h4, hr.ev h5, Deferred.ofValue, invoke, hf']
end
end Go.Proofs.Ytnicebdkejkieaa.eng

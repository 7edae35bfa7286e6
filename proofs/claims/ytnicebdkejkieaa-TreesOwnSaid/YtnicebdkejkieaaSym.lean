/- Symbols, productions and grammars as cells. -/
import Derived.Test.YtnicebdkejkieaaMgB
import Derived.Test.YtnicebdkejkieaaGramL
namespace Go.Proofs.Ytnicebdkejkieaa.eng
open Go.RowKit kit mix gramL
def symC (x : Sym) : List Value := [.int .i64 x.1, .int .i64 x.2]
def okSym (x : Sym) : Prop := kit.okI64 x.1 ∧ kit.okI64 x.2
theorem one_sym (l : List Sym) : ∀ u ∈ l.flatMap symC, u.oneCell' = true := by
  intro u hu
  obtain ⟨f, _, h⟩ := List.mem_flatMap.1 hu
  simp only [symC, List.mem_cons, List.not_mem_nil, or_false] at h
  rcases h with rfl | rfl <;> rfl
theorem eq_sym (f f' : Sym) (w : World) : (Op.equalIn 10000 58 (.agg (symC f).toArray) (.agg (symC f').toArray)).run Try.prog w = .ok (decide (f = f')) w := by
  obtain ⟨k, q⟩ := f
  obtain ⟨k', q'⟩ := f'
  unfold symC
  go_simp
  by_cases e1 : k = k' <;> by_cases e2 : q = q' <;> simp [e1, e2]
def symS : Shp Sym := flatS symC 2 (fun _ => rfl) okSym
def prodS : Shp gramL.Prod := pairS intS (sliceS symS)
def graV (t n : Int) (vp : Value) : Value := .agg #[.int .i64 t, .int .i64 n, vp]
/-- a grammar that can be read -/
def GraR (F : Nat → Prop) (w : World) (v : Value) (g : Gram) : Prop := ∃ vp, v = graV g.terms g.nons vp ∧ SlF prodS F w vp g.prods ∧ kit.okI64 g.terms ∧ kit.okI64 g.nons
theorem GraR.stay {F : Nat → Prop} {w w' : World} {v : Value} {g : Gram} (h : GraR F w v g) (hk : ∀ k, F k → w'.heap[k]? = w.heap[k]?) : GraR F w' v g :=
  let ⟨vp, h1, h2, h3⟩ := h; ⟨vp, h1, h2.stay hk, h3⟩
theorem SlF.gr {α : Type} {s : Shp α} {w w' : World} {v : Value} {l : List α} (h : SlF s (fun k => k < w.heap.size) w v l) (hg : Gr w w') : SlF s (fun k => k < w'.heap.size) w' v l :=
  (h.stay fun k hk => hg.block k hk).mono fun k hk => Nat.lt_of_lt_of_le hk hg.size
theorem GraR.gr {w w' : World} {v : Value} {g : Gram} (h : GraR (fun k => k < w.heap.size) w v g) (hg : Gr w w') : GraR (fun k => k < w'.heap.size) w' v g :=
  let ⟨vp, h1, h2, h3⟩ := h; ⟨vp, h1, h2.gr hg, h3⟩
/-- a production of a list -/
theorem prod_at {F : Nat → Prop} {w : World} {b off : Nat} {l : List gramL.Prod} (h : ∀ i (h : i < l.length), ∃ cs, prodS.is F w cs l[i] ∧ Rd w b (off + i * prodS.c) cs) {k : Nat} (hk : k < l.length) :
    ∃ base cap, Rd w b (off + k * 2) [.int .i64 l[k].1, .slice base l[k].2.length cap] ∧ kit.okI64 l[k].1 ∧ SlF symS F w (.slice base l[k].2.length cap) l[k].2 := by
  obtain ⟨cs, ⟨c1, c2, rfl, ⟨rfl, hok⟩, ⟨vb, rfl, hvb⟩⟩, hr⟩ := h k hk
  have hvb' := hvb
  obtain ⟨base, cap, rfl, _⟩ := hvb'
  exact ⟨base, cap, hr, hok, hvb⟩
end Go.Proofs.Ytnicebdkejkieaa.eng

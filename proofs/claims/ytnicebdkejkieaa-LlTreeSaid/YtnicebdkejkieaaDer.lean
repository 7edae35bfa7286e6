/- What symbols make; charts and facts in these words; no program in sight. -/
import Derived.Test.YtnicebdkejkieaaCountX
import Derived.Test.YtnicebdkejkieaaFactsR
namespace Go.Proofs.Ytnicebdkejkieaa.derL
open gramL treeL countL factsL
mutual
/-- a symbol makes a word -/
inductive Der (l : List gramL.Prod) : Sym → List Int → Prop
  | term {x : Sym} (h : x.1 = 1) : Der l x [x.2]
  | non {x : Sym} {p : gramL.Prod} {ws : List Int} (h : x.1 ≠ 1) (hp : p ∈ l) (hx : p.1 = x.2) (hd : Ders l p.2 ws) : Der l x ws
inductive Ders (l : List gramL.Prod) : List Sym → List Int → Prop
  | nil : Ders l [] []
  | cons {y : Sym} {r : List Sym} {a b : List Int} (h1 : Der l y a) (h2 : Ders l r b) : Ders l (y :: r) (a ++ b)
end
theorem Ders.app {l : List gramL.Prod} : ∀ {r r' : List Sym} {a b : List Int}, Ders l r a → Ders l r' b → Ders l (r ++ r') (a ++ b)
  | [], _, _, _, .nil, h => h
  | _ :: _, _, _, _, .cons h1 h2, h => by rw [List.append_assoc]; exact .cons h1 (Ders.app h2 h)
theorem ders_one {l : List gramL.Prod} {x : Sym} {a : List Int} (h : Der l x a) : Ders l [x] a := by
  have := Ders.cons h Ders.nil
  rwa [List.append_nil] at this
theorem der_term {l : List gramL.Prod} {x : Sym} {ws : List Int} (h : Der l x ws) (hx : x.1 = 1) : ws = [x.2] := by
  cases h with
  | term _ => rfl
  | non h _ _ _ => exact absurd hx h
/-- the word between two places -/
def cut (w : List Int) (a b : Nat) : List Int := (w.drop a).take (b - a)
theorem cut_app {w : List Int} {a m b : Nat} (h1 : a ≤ m) (h2 : m ≤ b) : cut w a m ++ cut w m b = cut w a b := by
  unfold cut
  have e3 : w.drop m = (w.drop a).drop (m - a) := by rw [List.drop_drop, show a + (m - a) = m by omega]
  rw [e3, show b - a = (m - a) + (b - m) by omega, List.take_add]
theorem cut_self (w : List Int) (a : Nat) : cut w a a = [] := by unfold cut; simp
theorem cut_end {w : List Int} {a n : Nat} (h : n = w.length) : cut w a n = w.drop a := by
  unfold cut; rw [List.take_of_length_le (by simp; omega)]
theorem cut_len {w : List Int} {a b : Nat} (h1 : a ≤ b) (h2 : b ≤ w.length) : (cut w a b).length = b - a := by
  unfold cut; rw [List.length_take, List.length_drop]; omega
theorem row_ders {l : List gramL.Prod} {w : List Int} {o : Sym → Nat → Nat → Nat} : ∀ (body : List Sym) (a b : Nat), a ≤ b → (∀ y ∈ body, ∀ i j, a ≤ i → i ≤ j → j ≤ b → 0 < o y i j → Der l y (cut w i j)) → 0 < rowF o body a b → Ders l body (cut w a b)
  | [], a, b, hab, _, h => by
    rw [rowF_E _ _ hab, rowE] at h
    have hE : a = b := by
      by_cases c : a = b
      · exact c
      · rw [if_neg c] at h; omega
    subst hE
    rw [cut_self]; exact .nil
  | y :: r, a, b, hab, ho, h => by
    obtain ⟨m, m1, m2, m3⟩ := row_cut hab h
    unfold cutB at m3
    rw [Bool.and_eq_true, decide_eq_true_iff, decide_eq_true_iff] at m3
    rw [← cut_app m1 m2]
    exact .cons (ho y (by simp) a m (Nat.le_refl _) m1 m2 m3.1) (row_ders r m b m2 (fun z hz i j h1 h2 h3 => ho z (by simp [hz]) i j (by omega) h2 h3) m3.2)
section
variable {w : List Int} {l : List gramL.Prod} {n : Nat} {c : Chart}
open Classical in
theorem der_of_chart (hc : Lfp w l n c) (hs : SymsOk n l) {k a b : Nat} (hk : k < n) (hab : a ≤ b) (hb : b ≤ w.length) (h : 0 < c ((k : Int), (a : Int), (b : Int))) : Der l (2, (k : Int)) (cut w a b) := by
  have hp : PreC w l n (fun x => if Der l (2, x.1) (cut w x.2.1.toNat x.2.2.toNat) then 2 else 0) := fun q i j hq hij hj => by
    dsimp only
    rw [Int.toNat_natCast, Int.toNat_natCast]
    by_cases cd : Der l (2, (q : Int)) (cut w i j)
    · rw [if_pos cd]; exact nowF_le _ _ _ _ _
    · rw [if_neg cd]
      apply Nat.le_of_not_lt
      intro h0
      unfold nowF at h0
      obtain ⟨r, r1, r2, r3⟩ := sumP_pos (Nat.lt_min.1 h0).2
      have hm := prodAt_mem (l := l) (p := (r : Int)) (by omega) (by omega)
      refine cd (.non (by show (2 : Int) ≠ 1; decide) hm r2 (row_ders _ i j hij (fun y hy i' j' h1 h2 h3 h4 => ?_) r3))
      unfold oneF at h4
      by_cases e : y.1 = 2
      · rw [if_pos e] at h4
        dsimp only at h4
        rw [Int.toNat_natCast, Int.toNat_natCast] at h4
        split at h4
        · rename_i hd
          obtain ⟨y1, y2⟩ := y
          dsimp only at e hd
          subst e
          exact hd
        · omega
      · rw [if_neg e] at h4
        split at h4
        · rename_i h5
          obtain ⟨h6, h7⟩ := h5
          have e1 : y.1 = 1 := ((hs _ hm).2.2 y hy).resolve_right fun h => e h.1
          obtain ⟨h8, h9⟩ := List.getElem?_eq_some_iff.1 h7
          have : cut w i' j' = [y.2] := by
            unfold cut
            rw [h6, show i' + 1 - i' = 1 by omega, List.drop_eq_getElem_cons h8, h9]; rfl
          rw [this]
          exact .term e1
        · omega
  have := hc.least _ hp k a b hk hab hb
  dsimp only at this
  rw [Int.toNat_natCast, Int.toNat_natCast] at this
  by_cases cd : Der l (2, (k : Int)) (cut w a b)
  · exact cd
  · rw [if_neg cd] at this; omega
theorem der_of_one (hc : Lfp w l n c) (hs : SymsOk n l) {x : Sym} {a b : Nat} (hx : x.1 = 1 ∨ (x.1 = 2 ∧ 0 ≤ x.2 ∧ x.2 < (n : Int))) (hab : a ≤ b) (hb : b ≤ w.length) (h : 0 < oneF c w x a b) : Der l x (cut w a b) := by
  unfold oneF at h
  rcases hx with hx | ⟨h2, h3, h4⟩
  · rw [if_neg (by omega)] at h
    split at h
    · rename_i h5
      obtain ⟨h6, h7⟩ := h5
      obtain ⟨h8, h9⟩ := List.getElem?_eq_some_iff.1 h7
      have : cut w a b = [x.2] := by
        unfold cut
        rw [h6, show a + 1 - a = 1 by omega, List.drop_eq_getElem_cons h8, h9]; rfl
      rw [this]
      exact .term hx
    · omega
  · rw [if_pos h2] at h
    obtain ⟨x1, x2⟩ := x
    dsimp only at *
    subst h2
    have e : x2 = ((x2.toNat : Nat) : Int) := by omega
    rw [e] at h ⊢
    exact der_of_chart hc hs (by omega) hab hb h
mutual
theorem one_of_der (hc : Lfp w l n c) (hs : SymsOk n l) : ∀ {x : Sym} {ws : List Int}, Der l x ws → (x.1 = 1 ∨ x.1 = 2) → ∀ {a : Nat}, a ≤ w.length → (∃ r, w.drop a = ws ++ r) → 1 ≤ oneF c w x a (a + ws.length)
  | x, _, .term h1, _, a, ha, ⟨r, hr⟩ => by
    have hcell : w[a]? = some x.2 := by
      have : (w.drop a)[0]? = some x.2 := by rw [hr]; rfl
      rw [List.getElem?_drop] at this
      exact this
    unfold oneF
    rw [if_neg (by omega), if_pos ⟨rfl, hcell⟩]
    exact Nat.le_refl _
  | x, ws, .non (p := p) h1 hp hx hd, hx2, a, ha, ⟨r, hr⟩ => by
    obtain ⟨s1, s2, s3⟩ := hs _ hp
    have hal : a + ws.length ≤ w.length := by
      have := congrArg List.length hr
      rw [List.length_drop, List.length_append] at this
      omega
    have hrow := row_of_ders hc hs hd (fun y hy => (s3 y hy).imp id fun h => h.1) ha ⟨r, hr⟩
    unfold oneF
    rw [if_pos (hx2.resolve_left h1)]
    have e : x.2 = ((x.2.toNat : Nat) : Int) := by omega
    rw [e, hc.fixed a (a + ws.length) (by omega) hal x.2.toNat (by omega)]
    have h1 := sumP_ge (oneF c w) a (a + ws.length) x.2.toNat hp (by omega)
    rw [rowF_E _ _ (by omega)] at h1
    unfold nowF
    omega
theorem row_of_ders (hc : Lfp w l n c) (hs : SymsOk n l) : ∀ {b : List Sym} {ws : List Int}, Ders l b ws → (∀ y ∈ b, y.1 = 1 ∨ y.1 = 2) → ∀ {a : Nat}, a ≤ w.length → (∃ r, w.drop a = ws ++ r) → 1 ≤ rowE (oneF c w) b a (a + ws.length)
  | [], _, .nil, _, a, _, _ => by rw [rowE, List.length_nil, if_pos (by omega)]; omega
  | y :: b, _, .cons (a := u) (b := s) h1 h2, hy, a, ha, ⟨r, hr⟩ => by
    rw [List.append_assoc] at hr
    have hal : a + u.length ≤ w.length := by
      have := congrArg List.length hr
      rw [List.length_drop, List.length_append] at this
      omega
    have k1 := one_of_der hc hs h1 (hy y (by simp)) ha ⟨_, hr⟩
    have k2 := row_of_ders hc hs h2 (fun z hz => hy z (by simp [hz])) hal ⟨r, by rw [← List.drop_drop, hr, List.drop_left]⟩
    rw [rowE, List.length_append, show a + (u.length + s.length) = a + u.length + s.length by omega]
    have h3 := sumN_ge (fun i => oneF c w y a (a + i) * rowE (oneF c w) b (a + i) (a + u.length + s.length)) (i := u.length) (k := a + u.length + s.length - a + 1) (by omega)
    have h4 : 1 * 1 ≤ oneF c w y a (a + u.length) * rowE (oneF c w) b (a + u.length) (a + u.length + s.length) := Nat.mul_le_mul k1 k2
    omega
end
end
/-- words are counted just if they are made -/
theorem trees_der {g : Gram} {w : List Int} (hck : checkC g w = 0) : 0 < treesN g w ↔ Der g.prods (2, 0) w := by
  obtain ⟨hg, _, _⟩ := checkC_ok hck
  obtain ⟨_, _, a3, _⟩ := checkG_ok hg
  have hs := symsOk_of (n := g.nons.toNat) hg (by omega)
  have hc := chartOf_lfp (w := w) hs.nons
  unfold treesN
  rw [if_pos hck]
  constructor
  · intro h
    have := der_of_chart hc hs (k := 0) (a := 0) (b := w.length) (by omega) (Nat.zero_le _) (Nat.le_refl _) h
    rw [cut_end rfl] at this
    exact this
  · intro h
    have := one_of_der hc hs h (.inr rfl) (a := 0) (Nat.zero_le _) ⟨[], by simp⟩
    unfold oneF at this
    rw [if_pos rfl, Nat.zero_add] at this
    exact this
/-! ### facts -/
mutual
theorem der_in {g : Gram} (h : checkG g = 0) : ∀ {x : Sym} {ws : List Int}, Der g.prods x ws → right g.terms g.nons x = true → ∀ y ∈ ws, 0 ≤ y ∧ y < g.terms
  | x, _, .term h1, hx, y, hy => by
    simp only [List.mem_cons, List.not_mem_nil, or_false] at hy
    subst hy
    unfold right at hx
    rw [if_pos h1] at hx
    simp at hx; omega
  | x, ws, .non h1 hp _ hd, _, y, hy => ders_in h hd ((checkG_ok h).2.2.2.2.2 _ hp).2.2.2 y hy
theorem ders_in {g : Gram} (h : checkG g = 0) : ∀ {b : List Sym} {ws : List Int}, Ders g.prods b ws → (∀ x ∈ b, right g.terms g.nons x = true) → ∀ y ∈ ws, 0 ≤ y ∧ y < g.terms
  | [], _, .nil, _, y, hy => by cases hy
  | x :: b, _, .cons h1 h2, hb, y, hy => by
    rcases List.mem_append.1 hy with hy | hy
    · exact der_in h h1 (hb x (by simp)) y hy
    · exact ders_in h h2 (fun z hz => hb z (by simp [hz])) y hy
end
section
variable {l : List gramL.Prod} {E R M : List Bool} {F W : List Nat}
mutual
theorem empty_der (hC : ClosedF l E F W R M) : ∀ {x : Sym} {ws : List Int}, Der l x ws → ws = [] → x.1 ≠ 1 ∧ E.getD x.2.toNat false = true
  | _, _, .term _, h0 => by cases h0
  | x, ws, .non (p := p) h1 hp hx hd, h0 => ⟨h1, by rw [← hx]; exact hC.empty _ hp (empty_ders hC hd h0)⟩
theorem empty_ders (hC : ClosedF l E F W R M) : ∀ {b : List Sym} {ws : List Int}, Ders l b ws → ws = [] → allF E b false = true
  | [], _, .nil, _ => rfl
  | y :: r, _, .cons h1 h2, h0 => by
    obtain ⟨e1, e2⟩ := List.append_eq_nil_iff.1 h0
    obtain ⟨k1, k2⟩ := empty_der hC h1 e1
    have ih := empty_ders hC h2 e2
    unfold allF at ih ⊢
    rw [List.all_cons, ih, Bool.and_true, if_neg k1, k2, ite_self]
end
mutual
theorem makes_der (hC : ClosedF l E F W R M) : ∀ {x : Sym} {ws : List Int}, Der l x ws → x.1 ≠ 1 → M.getD x.2.toNat false = true
  | _, _, .term h, h0 => absurd h h0
  | x, ws, .non h1 hp hx hd, _ => by rw [← hx]; exact hC.makes _ hp (makes_ders hC hd)
theorem makes_ders (hC : ClosedF l E F W R M) : ∀ {b : List Sym} {ws : List Int}, Ders l b ws → allF M b true = true
  | [], _, .nil => rfl
  | y :: r, _, .cons h1 h2 => by
    have ih := makes_ders hC h2
    unfold allF at ih ⊢
    rw [List.all_cons, ih, Bool.and_true]
    by_cases c : y.1 = 1
    · rw [if_pos c]
    · rw [if_neg c, makes_der hC h1 c, ite_self]
end
mutual
theorem first_der (hC : ClosedF l E F W R M) : ∀ {x : Sym} {ws : List Int}, Der l x ws → x.1 ≠ 1 → ∀ {v : Int} {r : List Int}, ws = v :: r → (F.getD x.2.toNat 0).testBit v.toNat = true
  | _, _, .term h, h0, _, _, _ => absurd h h0
  | x, ws, .non (p := p) h1 hp hx hd, _, v, r, hr => by
    rw [← hx]
    exact or_bit (hC.first _ hp (makes_ders hC hd)) (begin_ders hC hd hr 0 0)
theorem begin_ders (hC : ClosedF l E F W R M) : ∀ {b : List Sym} {ws : List Int}, Ders l b ws → ∀ {v : Int} {r : List Int}, ws = v :: r → ∀ (behind out : Nat), (beginGo E F behind b out).testBit v.toNat = true
  | [], _, .nil, _, _, hr, _, _ => by cases hr
  | y :: b, _, .cons (a := u) (b := s) h1 h2, v, r, hr, behind, out => by
    unfold beginGo
    by_cases c : y.1 = 1
    · rw [if_pos c]
      have hu := der_term h1 c
      rw [hu] at hr
      simp only [List.cons_append, List.nil_append, List.cons.injEq] at hr
      rw [← hr.1, Nat.testBit_or, Nat.testBit_two_pow_self, Bool.or_true]
    · rw [if_neg c]
      by_cases e : u = []
      · rw [if_pos (empty_der hC h1 e).2]
        exact begin_ders hC h2 (by rw [e] at hr; exact hr) behind _
      · obtain ⟨v', u', hu⟩ := List.exists_cons_of_ne_nil e
        have hv : v' = v := by rw [hu] at hr; simp only [List.cons_append, List.cons.injEq] at hr; exact hr.1
        have hf := first_der hC h1 c (v := v) (r := u') (by rw [hu, hv])
        split
        · exact beginGo_out b _ (by rw [Nat.testBit_or, hf, Bool.or_true])
        · rw [Nat.testBit_or, hf, Bool.or_true]
end
end
/-- what is told to be empty, to make something, is so -/
def SoundS (l : List gramL.Prod) (s : FS) : Prop := (∀ i : Nat, s.E.getD i false = true → Der l (2, (i : Int)) []) ∧ ∀ i : Nat, s.M.getD i false = true → ∃ ws, Der l (2, (i : Int)) ws
theorem allE_sound {l : List gramL.Prod} {E : List Bool} (h : ∀ i : Nat, E.getD i false = true → Der l (2, (i : Int)) []) : ∀ (b : List Sym), (∀ x ∈ b, x.1 = 1 ∨ (x.1 = 2 ∧ 0 ≤ x.2)) → allF E b false = true → Ders l b []
  | [], _, _ => .nil
  | y :: r, hx, ha => by
    unfold allF at ha
    rw [List.all_cons, Bool.and_eq_true] at ha
    have ih := allE_sound h r (fun z hz => hx z (by simp [hz])) ha.2
    rcases hx y (by simp) with c | ⟨c1, c2⟩
    · rw [if_pos c] at ha; simp at ha
    · rw [if_neg (by omega), if_pos c1] at ha
      have hd := h _ ha.1
      obtain ⟨y1, y2⟩ := y
      dsimp only at *
      subst c1
      rw [Int.toNat_of_nonneg c2] at hd
      exact .cons hd ih
theorem allM_sound {l : List gramL.Prod} {M : List Bool} (h : ∀ i : Nat, M.getD i false = true → ∃ ws, Der l (2, (i : Int)) ws) : ∀ (b : List Sym), (∀ x ∈ b, x.1 = 1 ∨ (x.1 = 2 ∧ 0 ≤ x.2)) → allF M b true = true → ∃ ws, Ders l b ws
  | [], _, _ => ⟨[], .nil⟩
  | y :: r, hx, ha => by
    unfold allF at ha
    rw [List.all_cons, Bool.and_eq_true] at ha
    obtain ⟨ws, ih⟩ := allM_sound h r (fun z hz => hx z (by simp [hz])) ha.2
    rcases hx y (by simp) with c | ⟨c1, c2⟩
    · exact ⟨_, .cons (.term c) ih⟩
    · rw [if_neg (by omega), if_pos c1] at ha
      obtain ⟨us, hd⟩ := h _ ha.1
      obtain ⟨y1, y2⟩ := y
      dsimp only at *
      subst c1
      rw [Int.toNat_of_nonneg c2] at hd
      exact ⟨_, .cons hd ih⟩
theorem markF_in {l : List Bool} {i k : Nat} {b : Bool} (h : (markF l i b).1.getD k false = true) : l.getD k false = true ∨ (k = i ∧ b = true) := by
  unfold markF at h
  split at h
  · rename_i c
    dsimp only at h
    rw [List.getD_eq_getElem?_getD, List.getElem?_set] at h
    by_cases e : i = k
    · exact .inr ⟨e.symm, c.1⟩
    · rw [if_neg e, ← List.getD_eq_getElem?_getD] at h
      exact .inl h
  · exact .inl h
theorem roundP_sound {n : Nat} {l : List gramL.Prod} (hs : SymsOk n l) {p : gramL.Prod} (hp : p ∈ l) {s : FS} (h : SoundS l s) : SoundS l (roundP p s) := by
  obtain ⟨s1, s2, s3⟩ := hs p hp
  have hx : ∀ x ∈ p.2, x.1 = 1 ∨ (x.1 = 2 ∧ 0 ≤ x.2) := fun x hx => (s3 x hx).imp id fun h => ⟨h.1, h.2.1⟩
  unfold roundP
  refine ⟨fun i hi => ?_, fun i hi => ?_⟩
  · rcases markF_in hi with h1 | ⟨h1, h2⟩
    · exact h.1 i h1
    · subst h1
      exact .non (by show (2 : Int) ≠ 1; decide) hp (by omega) (allE_sound h.1 _ hx h2)
  · rcases markF_in hi with h1 | ⟨h1, h2⟩
    · exact h.2 i h1
    · subst h1
      obtain ⟨ws, hw⟩ := allM_sound h.2 _ hx h2
      exact ⟨ws, .non (by show (2 : Int) ≠ 1; decide) hp (by omega) hw⟩
theorem roundL_sound {n : Nat} {l : List gramL.Prod} (hs : SymsOk n l) : ∀ (r : List gramL.Prod), (∀ p ∈ r, p ∈ l) → ∀ (s : FS), SoundS l s → SoundS l (roundL r s)
  | [], _, s, h => h
  | p :: r, hr, s, h => by
    rw [roundL]
    exact roundL_sound hs r (fun q hq => hr q (by simp [hq])) _ (roundP_sound hs (hr p (by simp)) h)
end Go.Proofs.Ytnicebdkejkieaa.derL

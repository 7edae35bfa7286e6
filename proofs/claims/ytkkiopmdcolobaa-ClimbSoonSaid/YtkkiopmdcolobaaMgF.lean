/- Part 6 of what ClimbSoon needs: ClimbM, ClimbE, EvT, CountE, CountP, CountQ, BoolC, ClimbF, ClimbSoonW. -/
import Derived.Test.YtkkiopmdcolobaaMgE
import Derived.WalkKit
import Derived.WalkSpells
import Derived.WalkLawsBesides
import Derived.Deep.RegionLaw
import Derived.Deep.AppendLies
import Derived.Deep.QuietTactic
import Derived.BigQuiet
import Derived.Deep.DeepCutAuto
import Derived.Lib.Hide
import Derived.Test.YtkkiopmdcolobaaRows
import Derived.ProofKit
import Derived.OpenShut
import Derived.ShutString
import Derived.SizedLaws
import Derived.JoinedCond
import Derived.Deep.CondSized
import Derived.Deep.Quiet
import Derived.StillTail
import Derived.Deep.LoopGhost
import Derived.Laws.BitsLemmas
import Derived.Laws.BytesString
import Derived.Test.YtkkiopmdcolobaaProg
import Derived.Laws.StructEq
import Derived.Laws.MakeOwn
import Derived.Laws.AppendOwn
import Derived.Laws.Entries
import Derived.Maps.OwnSet
import Derived.DeepKeys4
import Derived.WideKeyEntry
/- ClimbM -/
namespace Go.Proofs.Ytkkiopmdcolobaa.climbL
open gramL treeL countL factsL derL llL
section
variable {l : List gramL.Prod} {C : Int → Nat → Int → Prop}
mutual
theorem tree_rem {nx : Int → Nat → Int} (hd : (∀ n u p, C n u p) ∨ ∀ n u p, nx n u = p → C n u p) : ∀ {t : Tree} {x : Sym} {u : Nat} {st : List TD} {E : List Sym} {w : List Int}, Right l t x u → (∀ n u p, C n u p) ∨ (0 ≤ t.prod → DetT l nx t u) → Rem l C st (u + leaves t) E w → Rem l C (.sym x :: st) u (downX l t ++ E) (yieldX l t x ++ w)
  | .mk p k kids, x, u, st, E, w, h, hT, hr => by
    rw [Right] at h
    rcases h with ⟨h1, rfl, rfl, rfl⟩ | ⟨h1, h2, h3, h4, rfl, h5⟩
    · have e1 : downX l (.mk (-1) (u : Int) []) = [(2, (u : Int))] := by unfold downX; rw [if_pos (by show (-1 : Int) < 0; omega)]; rfl
      have e2 : yieldX l (.mk (-1) (u : Int) []) x = [x.2] := by unfold yieldX; rw [if_pos (by show (-1 : Int) < 0; omega)]
      have e3 : leaves (.mk (-1) (u : Int) []) = 1 := by rw [leaves, if_pos (by omega)]
      rw [e1, e2]; rw [e3] at hr
      exact .term h1 hr
    · have hp : ¬ p < 0 := by omega
      have e1 : downX l (.mk p 0 kids) = (1, p) :: ((actss l kids (prodAt l p).2).map evD ++ [(3, p)]) := by
        unfold downX; rw [if_neg (by show ¬ p < 0; exact hp)]; unfold downE; rw [acts]; simp [evD]
      have e2 : yieldX l (.mk p 0 kids) x = yields l kids (prodAt l p).2 := by unfold yieldX; rw [if_neg (by show ¬ p < 0; exact hp), yieldT_eq]
      have e3 : leaves (.mk p 0 kids) = leavess kids := by rw [leaves, if_neg hp]
      rw [e1, e2]; rw [e3] at hr
      have hk := trees_rem (nx := nx) hd h5 (hT.imp id fun h => by
        have := h h2
        rw [DetT] at this
        exact this.2) (.close (p := p) hr)
      have hc : C x.2 u p := by
        rcases hd with hd | hd
        · exact hd _ _ _
        · rcases hT with hT | hT
          · exact hT _ _ _
          · have := hT h2
            rw [DetT] at this
            rw [← h4]; exact hd _ _ _ this.1
      have := Rem.opn (E := (actss l kids (prodAt l p).2).map evD ++ (3, p) :: E) (w := yields l kids (prodAt l p).2 ++ w) h1 h2 h3 h4 hc hk
      simpa using this
theorem trees_rem {nx : Int → Nat → Int} (hd : (∀ n u p, C n u p) ∨ ∀ n u p, nx n u = p → C n u p) : ∀ {ks : List Tree} {b : List Sym} {u : Nat} {st : List TD} {E : List Sym} {w : List Int}, Rights l ks b u → (∀ n u p, C n u p) ∨ DetK l nx ks u → Rem l C st (u + leavess ks) E w → Rem l C (b.map .sym ++ st) u ((actss l ks b).map evD ++ E) (yields l ks b ++ w)
  | [], [], u, st, E, w, _, _, hr => hr
  | [], _ :: _, _, _, _, _, h, _, _ => by rw [Rights] at h; exact h.elim
  | _ :: _, [], _, _, _, _, h, _, _ => by rw [Rights] at h; exact h.elim
  | .mk p k kk :: r, y :: b, u, st, E, w, h, hT, hr => by
    rw [Rights] at h
    rw [leavess, ← Nat.add_assoc] at hr
    have hk := trees_rem (nx := nx) hd h.2 (hT.imp id fun h => by rw [DetK] at h; exact h.2) hr
    have ht := tree_rem (nx := nx) hd h.1 (hT.imp id fun h => by
      rw [DetK] at h
      intro h0
      rcases h.1 with h1 | h1
      · exact absurd h0 (by show ¬ 0 ≤ p; omega)
      · exact h1) hk
    rw [actss_cons, yields_X, List.append_assoc, List.append_assoc]
    exact ht
end
theorem rem_kids (N : Nat) (ih : ∀ {x : Sym} {st : List TD} {u : Nat} {E : List Sym} {w : List Int}, E.length < N → Rem l C (.sym x :: st) u E w → ∃ t E2 w2, Right l t x u ∧ E = downX l t ++ E2 ∧ w = yieldX l t x ++ w2 ∧ Rem l C st (u + leaves t) E2 w2) : ∀ {b : List Sym} {st : List TD} {u : Nat} {E : List Sym} {w : List Int}, E.length < N → Rem l C (b.map .sym ++ st) u E w → ∃ ts E2 w2, Rights l ts b u ∧ E = (actss l ts b).map evD ++ E2 ∧ w = yields l ts b ++ w2 ∧ Rem l C st (u + leavess ts) E2 w2
  | [], st, u, E, w, _, h => ⟨[], E, w, by rw [Rights]; trivial, by rw [actss]; rfl, rfl, by rw [leavess]; exact h⟩
  | y :: b, st, u, E, w, hN, h => by
    obtain ⟨t, E2, w2, h1, rfl, rfl, h4⟩ := ih hN h
    rw [List.length_append] at hN
    obtain ⟨ts, E3, w3, k1, rfl, rfl, k4⟩ := rem_kids N ih (b := b) (by omega) h4
    refine ⟨t :: ts, E3, w3, by rw [Rights]; exact ⟨h1, k1⟩, by rw [actss_cons, List.append_assoc], by rw [yields_X, List.append_assoc], by rw [leavess, ← Nat.add_assoc]; exact k4⟩
/-- what is to come of a symbol is a tree's -/
theorem rem_tree : ∀ (N : Nat) {x : Sym} {st : List TD} {u : Nat} {E : List Sym} {w : List Int}, E.length < N → Rem l C (.sym x :: st) u E w → ∃ t E2 w2, Right l t x u ∧ E = downX l t ++ E2 ∧ w = yieldX l t x ++ w2 ∧ Rem l C st (u + leaves t) E2 w2
  | 0, _, _, _, _, _, h, _ => absurd h (by omega)
  | N + 1, x, st, u, E, w, hN, h => by
    cases h with
    | @term _ _ _ E2 w2 hx h =>
      refine ⟨.mk (-1) (u : Int) [], E2, w2, by rw [Right]; exact .inl ⟨hx, rfl, rfl, rfl⟩, ?_, ?_, ?_⟩
      · unfold downX; rw [if_pos (by show (-1 : Int) < 0; omega)]; rfl
      · unfold yieldX; rw [if_pos (by show (-1 : Int) < 0; omega)]; rfl
      · rw [leaves, if_pos (by omega)]; exact h
    | @opn _ p _ _ E2 w2 hx h0 h1 h2 hc h =>
      unfold opened at h
      have hE : E2.length < N := by simp at hN; omega
      obtain ⟨ts, E3, w3, k1, rfl, rfl, k4⟩ := rem_kids N (fun hN h => rem_tree N hN h) hE h
      cases k4 with
      | @close _ _ _ E4 _ k4 =>
        have hp : ¬ p < 0 := by omega
        refine ⟨.mk p 0 ts, E4, w3, by rw [Right]; exact .inr ⟨hx, h0, h1, h2, rfl, k1⟩, ?_, ?_, ?_⟩
        · unfold downX; rw [if_neg (by show ¬ p < 0; exact hp)]; unfold downE; rw [acts]; simp [evD]
        · unfold yieldX; rw [if_neg (by show ¬ p < 0; exact hp), yieldT_eq]
        · rw [leaves, if_neg hp]; exact k4
mutual
theorem right_der : ∀ {t : Tree} {x : Sym} {u : Nat}, Right l t x u → Der l x (yieldX l t x)
  | .mk p k kids, x, u, h => by
    rw [Right] at h
    rcases h with ⟨h1, rfl, rfl, rfl⟩ | ⟨h1, h2, h3, h4, rfl, h5⟩
    · unfold yieldX; rw [if_pos (by show (-1 : Int) < 0; omega)]; exact .term h1
    · unfold yieldX; rw [if_neg (by show ¬ p < 0; omega), yieldT_eq]
      exact .non h1 (prodAt_mem h2 h3) h4 (rights_der h5)
theorem rights_der : ∀ {ks : List Tree} {b : List Sym} {u : Nat}, Rights l ks b u → Ders l b (yields l ks b)
  | [], [], _, _ => .nil
  | [], _ :: _, _, h => by rw [Rights] at h; exact h.elim
  | _ :: _, [], _, h => by rw [Rights] at h; exact h.elim
  | t :: r, y :: b, u, h => by
    rw [Rights] at h
    rw [yields_X]
    exact .cons (right_der h.1) (rights_der h.2)
end
mutual
theorem der_right : ∀ {x : Sym} {ws : List Int}, Der l x ws → ∀ (u : Nat), ∃ t, Right l t x u ∧ yieldX l t x = ws
  | x, _, .term h, u => ⟨.mk (-1) (u : Int) [], by rw [Right]; exact .inl ⟨h, rfl, rfl, rfl⟩, by unfold yieldX; rw [if_pos (by show (-1 : Int) < 0; omega)]⟩
  | x, _, .non (p := p) h hp hx hd, u => by
    obtain ⟨i, hi, e⟩ := List.getElem_of_mem hp
    have he : prodAt l (i : Int) = p := by unfold prodAt; rw [Int.toNat_natCast, List.getD_eq_getElem?_getD, List.getElem?_eq_getElem hi, e]; rfl
    obtain ⟨ts, h1, h2⟩ := ders_right hd u
    refine ⟨.mk (i : Int) 0 ts, by rw [Right, he]; exact .inr ⟨h, by omega, by omega, hx, rfl, h1⟩, ?_⟩
    unfold yieldX; rw [if_neg (by show ¬ (i : Int) < 0; omega), yieldT_eq, he]; exact h2
theorem ders_right : ∀ {b : List Sym} {ws : List Int}, Ders l b ws → ∀ (u : Nat), ∃ ts, Rights l ts b u ∧ yields l ts b = ws
  | _, _, .nil, u => ⟨[], by rw [Rights]; trivial, rfl⟩
  | _, _, .cons h1 h2, u => by
    obtain ⟨t, k1, k2⟩ := der_right h1 u
    obtain ⟨ts, k3, k4⟩ := ders_right h2 (u + leaves t)
    exact ⟨t :: ts, by rw [Rights]; exact ⟨k1, k3⟩, by rw [yields_X, k2, k4]⟩
end
end
theorem start_rem {l : List gramL.Prod} {C : Int → Nat → Int → Prop} {E : List Sym} {w : List Int} (h : Rem l C [.sym (2, 0)] 0 E w) : ∃ t, Right l t (2, 0) 0 ∧ downE l t = E ∧ yieldT l t = w := by
  obtain ⟨t, E2, w2, h1, h2, h3, h4⟩ := rem_tree (E.length + 1) (Nat.lt_succ_self _) h
  cases h4
  have hp : ¬ t.prod < 0 := by
    obtain ⟨p, k, kids⟩ := t
    rw [Right] at h1
    rcases h1 with ⟨h, _⟩ | ⟨_, h, _⟩
    · cases h
    · exact Int.not_lt.2 h
  refine ⟨t, h1, ?_, ?_⟩
  · rw [h2]; unfold downX; rw [if_neg hp, List.append_nil]
  · rw [h3]; unfold yieldX; rw [if_neg hp, List.append_nil]
/-! ### whole words -/
section
variable {g : Gram} {T N : Nat}
def nxC (g : Gram) (T N : Nat) : Int → Nat → Int := fun n col => llL.rowAt g.prods (eng.mayG N g.prods) T n.toNat col
theorem nx_ok (col : Nat) : NxOk g.prods (fun n => nxC g T N n col) := fun n h0 => by
  refine ⟨(first_ge n.toNat col g.prods.length).2, fun hn => ?_⟩
  have := first_head (may := eng.mayG N g.prods) (T := T) n.toNat col g.prods.length (Nat.le_refl _) h0
  show (prodAt g.prods (firstL g.prods (eng.mayG N g.prods) T n.toNat col g.prods.length)).1 = n
  rw [this]
  omega
/-- what the parse of the rest comes to -/
structure RunOk (g : Gram) (T N : Nat) (r : List Int) (st : List TD) (a : Nat) (out : List Sym) (R : List Sym × Nat × Int) : Prop where
  err : R.2.2 = 0 ∨ R.2.2 = 13 ∨ R.2.2 = 14
  ge : a ≤ R.2.1
  le : R.2.1 ≤ a + r.length
  all : R.2.2 = 0 → R.2.1 = a + r.length
  ok : R.2.2 = 0 → ∃ E, R.1 = out ++ E ∧ Rem g.prods (fun _ _ _ => True) st a E r
  far : ∃ st', (∀ d ∈ st', okTD g d) ∧ ∀ E w, Rem g.prods (fun _ _ _ => True) st' R.2.1 E w → ∃ E', Rem g.prods (fun _ _ _ => True) st a E' (r.take (R.2.1 - a) ++ w)
theorem run_ok (hg : checkG g = 0) : ∀ (r : List Int) (st : List TD) (a : Nat) (out : List Sym), (∀ d ∈ st, okTD g d) → st.length ≤ 60 → RunOk g T N r st a out (runF g.prods (nxC g T N) T r st a out)
  | [], st, a, out, hs, hl => by
    rw [runF]
    have he := end_cases (R := endF g.prods (fun n => nxC g T N n T) st) rfl
    refine ⟨?_, Nat.le_refl _, Nat.le_refl _, fun _ => rfl, fun h0 => ⟨_, rfl, end_rem hg (nx_ok T) (fun _ _ _ => trivial) rfl h0 hs⟩, st, hs, fun E w h => ⟨E, by simpa using h⟩⟩
    rcases he with ⟨h, _⟩ | ⟨_, _, h⟩
    · exact .inr h
    · exact .inl h
  | t :: r, st, a, out, hs, hl => by
    rw [runF]
    have hp := push_cases (R := pushF g.prods (fun n => nxC g T N n t.toNat) st a t) rfl
    split
    · rename_i c
      refine ⟨?_, Nat.le_refl _, Nat.le_add_right _ _, fun h => absurd h c, fun h => absurd h c, st, hs, fun E w h => ⟨E, by simpa using h⟩⟩
      rcases hp with ⟨h, _⟩ | ⟨_, _, _, _, _, _, _, _, _, h⟩
      · exact .inr h
      · rw [h]; exact .inl rfl
    · rename_i c
      have c : (pushF g.prods (fun n => nxC g T N n t.toNat) st a t).1 = 0 := by simpa using c
      obtain ⟨k1, k2, k3⟩ := push_ok hg (nx_ok t.toNat) rfl c hs hl
      have hR := run_ok hg r _ (a + 1) (out ++ (pushF g.prods (fun n => nxC g T N n t.toNat) st a t).2.2) k1 k2
      generalize runF g.prods (nxC g T N) T r (pushF g.prods (fun n => nxC g T N n t.toNat) st a t).2.1 (a + 1) (out ++ (pushF g.prods (fun n => nxC g T N n t.toNat) st a t).2.2) = R at *
      obtain ⟨z1, z2, z3, z4, z5, st', z6, z7⟩ := hR
      refine ⟨z1, by omega, by simp; omega, fun h => by rw [z4 h]; simp; omega, fun h => ?_, st', z6, fun E w h => ?_⟩
      · obtain ⟨E, y1, y2⟩ := z5 h
        exact ⟨_, by rw [y1, List.append_assoc], push_rem hg (nx_ok t.toNat) (fun _ _ _ => trivial) rfl c hs y2⟩
      · obtain ⟨E', y⟩ := z7 E w h
        refine ⟨(pushF g.prods (fun n => nxC g T N n t.toNat) st a t).2.2 ++ E', ?_⟩
        rw [show R.2.1 - a = (R.2.1 - (a + 1)) + 1 by omega, List.take_succ_cons]
        exact push_rem hg (nx_ok t.toNat) (fun _ _ _ => trivial) rfl c hs y
theorem drop_cons {W : List Int} {a : Nat} {t : Int} {r : List Int} (h : W.drop a = t :: r) : a < W.length ∧ W.getD a 0 = t ∧ W.drop (a + 1) = r := by
  have h1 : a < W.length := by
    rcases Nat.lt_or_ge a W.length with h1 | h1
    · exact h1
    · rw [List.drop_of_length_le h1] at h; cases h
  rw [List.drop_eq_getElem_cons h1] at h
  obtain ⟨e1, e2⟩ := List.cons.inj h
  exact ⟨h1, by rw [List.getD_eq_getElem?_getD, List.getElem?_eq_getElem h1, e1]; rfl, e2⟩
theorem run_far {W : List Int} : ∀ (m : Nat) (r : List Int) (st : List TD) (a : Nat) (out : List Sym) {E : List Sym}, m ≤ r.length → m ≤ (W.drop a).length → r.take m = (W.drop a).take m → Rem g.prods (fun n u p => nxC g T N n (colAt T W u) = p) st a E (W.drop a) →
    (∀ R, R = runF g.prods (nxC g T N) T r st a out → a ≤ R.2.1) → (runF g.prods (nxC g T N) T r st a out).2.2 = 14 ∨ a + m ≤ (runF g.prods (nxC g T N) T r st a out).2.1
  | 0, r, st, a, out, E, _, _, _, _, hge => .inr (hge _ rfl)
  | m + 1, [], st, a, out, E, h, _, _, _, _ => by simp at h
  | m + 1, t :: r, st, a, out, E, h, hm, he, hr, _ => by
    cases hW : W.drop a with
    | nil => rw [hW] at hm; simp at hm
    | cons t' r' =>
      rw [hW] at he hr hm
      simp only [List.take_succ_cons, List.cons.injEq] at he
      obtain ⟨rfl, he⟩ := he
      obtain ⟨h1, h2, h3⟩ := drop_cons hW
      have hc : colAt T W a = t.toNat := by unfold colAt; rw [if_pos h1, h2]
      rw [runF]
      rcases push_det (nx := fun n => nxC g T N n t.toNat) (t := t) (fun n p h => by rw [hc] at h; exact h) rfl hr with e | ⟨e1, E2, e2, e3⟩
      · rw [if_pos (by rw [e]; decide)]; exact .inl e
      · rw [if_neg (by rw [e1]; simp)]
        rcases run_far m r _ (a + 1) (out ++ (pushF g.prods (fun n => nxC g T N n t.toNat) st a t).2.2) (by simp at h; omega) (by rw [h3]; simp at hm; omega) (by rw [h3]; exact he) (by rw [h3]; exact e3) (fun R hR => by
          subst hR; exact run_ge _ _ _ _) with y | y
        · exact .inl y
        · exact .inr (by omega)
where
  run_ge : ∀ (r : List Int) (st : List TD) (a : Nat) (out : List Sym), a ≤ (runF g.prods (nxC g T N) T r st a out).2.1
  | [], st, a, out => by rw [runF]; exact Nat.le_refl _
  | t :: r, st, a, out => by
    rw [runF]
    split
    · exact Nat.le_refl _
    · exact Nat.le_trans (Nat.le_succ a) (run_ge r _ (a + 1) _)
theorem start_ok (hg : checkG g = 0) : ∀ d ∈ [TD.sym (2, 0)], okTD g d := by
  intro d hd
  rw [List.mem_singleton] at hd
  subst hd
  have := (checkG_ok hg).2.2.1
  show right g.terms g.nons (2, 0) = true
  unfold right
  rw [if_neg (by decide), if_pos rfl]
  simp only [Int.le_refl, decide_true, Bool.true_and, decide_eq_true_eq]
  omega
/-- a tree's word is parsed as the tree -/
theorem tree_start (hg : checkG g = 0) (hT : g.terms = T) (hN : g.nons = N) (hf : eng.freeL g.prods (eng.mayG N g.prods) T N = true) {t : Tree} {W : List Int} (h : Right g.prods t (2, 0) 0) (hy : yieldT g.prods t = W) : Rem g.prods (fun n u p => nxC g T N n (colAt T W u) = p) [.sym (2, 0)] 0 (downE g.prods t) W := by
  have hp : ¬ t.prod < 0 := by
    obtain ⟨p, k, kids⟩ := t
    rw [Right] at h
    rcases h with ⟨h, _⟩ | ⟨_, h, _⟩
    · cases h
    · exact Int.not_lt.2 h
  have hw : ∀ x ∈ W, 0 ≤ x ∧ x < (T : Int) := by rw [← hy, ← hT]; exact yield_in hg h (by omega)
  have hd := eng.det_tree hg hT hN hf h hy hw
  have := tree_rem (C := fun n u p => nxC g T N n (colAt T W u) = p) (nx := eng.nxG g T N W) (.inr fun n u p h => h) (st := []) (E := []) (w := []) h (.inr fun _ => hd) .nil
  unfold downX yieldX at this
  rw [if_neg hp, if_neg hp, List.append_nil, List.append_nil, hy] at this
  exact this
theorem valid_rem (hM : ∀ i : Nat, i < N → ∃ ws, Der g.prods (2, (i : Int)) ws) (hN : g.nons = N) : ∀ (st : List TD) (u : Nat), (∀ d ∈ st, okTD g d) → ∃ E w, Rem g.prods (fun _ _ _ => True) st u E w
  | [], u, _ => ⟨[], [], .nil⟩
  | .close p :: st, u, h => by
    obtain ⟨E, w, k⟩ := valid_rem hM hN st u fun d hd => h d (List.mem_cons_of_mem _ hd)
    exact ⟨_, _, .close k⟩
  | .sym x :: st, u, h => by
    have hx : right g.terms g.nons x = true := h _ (List.mem_cons_self ..)
    have hd : ∃ ws, Der g.prods x ws := by
      obtain ⟨q, m⟩ := x
      unfold right at hx
      dsimp only at hx
      split at hx
      · rename_i c; subst c; exact ⟨[m], .term rfl⟩
      · split at hx
        · rename_i c; subst c
          simp at hx
          obtain ⟨ws, hw⟩ := hM m.toNat (by omega)
          exact ⟨ws, by rw [show m = (m.toNat : Int) by omega]; exact hw⟩
        · cases hx
    obtain ⟨ws, hd⟩ := hd
    obtain ⟨t, h1, h2⟩ := der_right hd u
    obtain ⟨E, w, k⟩ := valid_rem hM hN st (u + leaves t) fun d hd => h d (List.mem_cons_of_mem _ hd)
    exact ⟨_, _, tree_rem (nx := fun _ _ => 0) (.inl fun _ _ _ => trivial) h1 (.inl fun _ _ _ => trivial) k⟩
theorem top_prod {l : List gramL.Prod} {t : Tree} (h : Right l t (2, 0) 0) : 0 ≤ t.prod := by
  obtain ⟨p, k, kids⟩ := t
  rw [Right] at h
  rcases h with ⟨h, _⟩ | ⟨_, h, _⟩
  · cases h
  · exact h
theorem yieldX_top {l : List gramL.Prod} {t : Tree} (h : Right l t (2, 0) 0) : yieldX l t (2, 0) = yieldT l t := by
  unfold yieldX; rw [if_neg (by have := top_prod h; omega)]
/-- what was had is the beginning of a word -/
theorem soon_begins (hg : checkG g = 0) (hN : g.nons = N) (hM : ∀ i : Nat, i < N → ∃ ws, Der g.prods (2, (i : Int)) ws) {W : List Int} (hc : checkC g W = 0) : beginsB g (W.take (runF g.prods (nxC g T N) T W [.sym (2, 0)] 0 []).2.1) = true := by
  obtain ⟨st', h1, h2⟩ := (run_ok (T := T) (N := N) hg W [.sym (2, 0)] 0 [] (start_ok hg) (by decide)).far
  obtain ⟨E, w, k⟩ := valid_rem hM hN st' _ h1
  obtain ⟨E', k'⟩ := h2 E w k
  obtain ⟨t, y1, y2, y3⟩ := start_rem k'
  rw [Nat.sub_zero] at y3
  refine begins_iff.2 ⟨?_, w, ?_⟩
  · have := (checkC_W hc)
    have h3 : W.length ≤ 20 := by
      unfold checkC at hc
      split at hc
      · exact absurd hc (by assumption)
      · split at hc
        · cases hc
        · omega
    exact checkC_mk hg (by rw [List.length_take]; omega) (checkW_take _ this)
  · rw [← y3, ← yieldX_top y1]
    exact right_der y1
/-- what was refused is the beginning of none -/
theorem soon_not (hg : checkG g = 0) (hT : g.terms = T) (hN : g.nons = N) (hf : eng.freeL g.prods (eng.mayG N g.prods) T N = true) {W : List Int} (h14 : (runF g.prods (nxC g T N) T W [.sym (2, 0)] 0 []).2.2 ≠ 14) (hl : (runF g.prods (nxC g T N) T W [.sym (2, 0)] 0 []).2.1 < W.length) : beginsB g (W.take ((runF g.prods (nxC g T N) T W [.sym (2, 0)] 0 []).2.1 + 1)) = false := by
  generalize hR : runF g.prods (nxC g T N) T W [.sym (2, 0)] 0 [] = R at *
  cases hb : beginsB g (W.take (R.2.1 + 1)) with
  | false => rfl
  | true =>
    obtain ⟨_, v, hd⟩ := begins_iff.1 hb
    obtain ⟨t, h1, h2⟩ := der_right hd 0
    rw [yieldX_top h1] at h2
    have hlen : (W.take (R.2.1 + 1)).length = R.2.1 + 1 := by rw [List.length_take]; omega
    have := run_far (g := g) (T := T) (N := N) (W := W.take (R.2.1 + 1) ++ v) (R.2.1 + 1) W [.sym (2, 0)] 0 [] (by omega) (by rw [List.drop_zero, List.length_append]; omega)
      (by rw [List.drop_zero, List.take_append_of_le_length (by omega), List.take_take, Nat.min_self]) (tree_start hg hT hN hf h1 h2) (fun R' _ => Nat.zero_le _)
    rw [hR] at this
    rcases this with h | h
    · exact absurd h h14
    · omega
end
end Go.Proofs.Ytkkiopmdcolobaa.climbL

/- ClimbE -/
namespace Go.Proofs.Ytkkiopmdcolobaa.eng
open Go.RowKit kit mix gramL treeL climbL llL countL factsL derL
/-! ### the table that is made can be asked -/
abbrev rowsL (g : Gram) (T N : Nat) : List (List Int) := tabA N fun n => tabA (T + 1) (llL.rowAt g.prods (mayG N g.prods) T n)
theorem getD_tab {α : Type} {len : Nat} {f : Nat → α} {d : α} (k : Nat) : (tabA len f).getD k d = if k < len then f k else d := by
  rw [List.getD_eq_getElem?_getD]
  by_cases h : k < len
  · rw [tabA_get _ h, if_pos h]; rfl
  · rw [List.getElem?_eq_none (by rw [tabA_len]; omega), if_neg h]; rfl
theorem nxL_eq {g : Gram} {T N : Nat} (hg : checkG g = 0) (hN : g.nons = N) {col : Nat} (hc : col ≤ T) (n : Int) : nxL (rowsL g T N) col n = nxC g T N n col := by
  unfold nxL nxC
  rw [getD_tab]
  by_cases h : n.toNat < N
  · rw [if_pos h, getD_tab, if_pos (by omega)]
  · rw [if_neg h]
    show (-1 : Int) = _
    have h1 := first_ge (l := g.prods) (may := mayG N g.prods) (T := T) n.toNat col g.prods.length
    have h2 := first_head (l := g.prods) (may := mayG N g.prods) (T := T) n.toNat col g.prods.length (Nat.le_refl _)
    unfold llL.rowAt
    by_cases h3 : firstL g.prods (mayG N g.prods) T n.toNat col g.prods.length < 0
    · omega
    · have h3 : 0 ≤ firstL g.prods (mayG N g.prods) T n.toNat col g.prods.length := by omega
      have h4 := h2 h3
      have := ((checkG_ok hg).2.2.2.2.2 _ (prodAt_mem h3 h1.2)).2.2.1
      omega
theorem tab_ok {g : Gram} {T N : Nat} (hT : g.terms = T) (hN : g.nons = N) : TabOk g (rowsL g T N) T N where
  terms := hT
  nons := hN
  len := tabA_len _ _
  row r hr := by
    obtain ⟨n, _, rfl⟩ := List.mem_map.1 hr
    exact tabA_len _ _
  nx col n h0 := by
    unfold nxL at h0 ⊢
    rw [getD_tab] at h0 ⊢
    by_cases h : n.toNat < N
    · rw [if_pos h] at h0 ⊢
      rw [getD_tab] at h0 ⊢
      by_cases h2 : col < T + 1
      · rw [if_pos h2] at h0 ⊢
        refine ⟨(first_ge n.toNat col g.prods.length).2, fun hn => ?_⟩
        have := first_head (may := mayG N g.prods) (T := T) n.toNat col g.prods.length (Nat.le_refl _) h0
        unfold llL.rowAt
        rw [this]; omega
      · rw [if_neg h2] at h0; omega
    · rw [if_neg h] at h0
      have : ([] : List Int).getD col (-1) = -1 := rfl
      omega
theorem chkRow_ok {l : List gramL.Prod} {n : Nat} : ∀ r : List Int, (∀ p ∈ r, -1 ≤ p ∧ p < (l.length : Int) ∧ (0 ≤ p → (prodAt l p).1 = (n : Int))) → chkRow l n r = 0
  | [], _ => rfl
  | p :: r, h => by
    have hp := h p (List.mem_cons_self ..)
    rw [chkRow, if_neg (by omega), if_neg (by omega), if_neg (by rintro ⟨h1, h2⟩; exact h2 (hp.2.2 h1))]
    exact chkRow_ok r fun p hp => h p (List.mem_cons_of_mem _ hp)
theorem chkRows_ok {l : List gramL.Prod} {t : Int} : ∀ (rows : List (List Int)) (n : Nat), (∀ i (h : i < rows.length), (rows[i].length : Int) = t + 1 ∧ chkRow l (n + i) rows[i] = 0) → chkRows l t n rows = 0
  | [], _, _ => rfl
  | r :: rs, n, h => by
    have h0 := h 0 (by simp)
    simp only [List.getElem_cons_zero, Nat.add_zero] at h0
    rw [chkRows, if_neg (by simp [h0.1]), if_neg (by simp [h0.2])]
    exact chkRows_ok rs (n + 1) fun i hi => by
      have := h (i + 1) (by simp; omega)
      simp only [List.getElem_cons_succ] at this
      rw [show n + 1 + i = n + (i + 1) by omega]; exact this
theorem chk_rows {g : Gram} {T N : Nat} (hg : checkG g = 0) (hT : g.terms = T) (hN : g.nons = N) : chkL g (rowsL g T N) = 0 := by
  unfold chkL
  rw [if_neg (by simp [hg]), tabA_len, if_neg (by simp [hN])]
  refine chkRows_ok _ 0 fun i hi => ?_
  rw [tabA_len] at hi
  have hget : (rowsL g T N)[i]'(by rw [tabA_len]; exact hi) = tabA (T + 1) (llL.rowAt g.prods (mayG N g.prods) T i) := by simp [tabA]
  rw [hget]
  refine ⟨by rw [tabA_len, hT]; rfl, chkRow_ok _ fun p hp => ?_⟩
  obtain ⟨c, _, rfl⟩ := List.mem_map.1 hp
  have h1 := first_ge (l := g.prods) (may := mayG N g.prods) (T := T) i c g.prods.length
  refine ⟨h1.1, h1.2, fun h0 => ?_⟩
  rw [Nat.zero_add]
  exact first_head (l := g.prods) (may := mayG N g.prods) (T := T) i c g.prods.length (Nat.le_refl _) h0
theorem runF_congr {l : List gramL.Prod} {nx nx' : Int → Nat → Int} {T : Nat} (h : ∀ col, col ≤ T → (fun n => nx n col) = fun n => nx' n col) : ∀ (word : List Int) (st : List TD) (a : Nat) (out : List Sym), (∀ x ∈ word, 0 ≤ x ∧ x < (T : Int)) → runF l nx T word st a out = runF l nx' T word st a out
  | [], st, a, out, _ => by rw [runF, runF, h T (Nat.le_refl _)]
  | t :: r, st, a, out, hw => by
    have ht := hw t (List.mem_cons_self ..)
    rw [runF, runF, h t.toNat (by omega)]
    split
    · rfl
    · exact runF_congr h r _ _ _ fun x hx => hw x (List.mem_cons_of_mem _ hx)
theorem run_eq {g : Gram} {T N : Nat} (hg : checkG g = 0) (hN : g.nons = N) {word : List Int} (hw : ∀ x ∈ word, 0 ≤ x ∧ x < (T : Int)) : runF g.prods (fun n col => nxL (rowsL g T N) col n) T word [.sym (2, 0)] 0 [] = runF g.prods (nxC g T N) T word [.sym (2, 0)] 0 [] :=
  runF_congr (fun col hc => funext fun n => nxL_eq hg hN hc n) word _ _ _ hw
/-! ### climbed -/
theorem cl_one {v : Value} {a b : Int} {c : Bool} (h : v.oneCell' = true) : (#[v, .int .i64 a, .int .i64 b, .bool c] : Array Value).toList.all Value.oneCell' = true := by
  simp only [List.all_cons, List.all_nil, h]; rfl
theorem pushS_ok (seen : Int) (st : List TD) (l : List Sym) : pushS seen (0, st, l) = ⟨fun _ => True, fun x => .tuple #[clV x.1 (seen + 1) 0 false, x.2, .int .i64 0], fun x => [tdO x.1 st, evO x.2 l]⟩ := by unfold pushS; simp
theorem pushS_bad (seen : Int) {e : Int} (he : e ≠ 0) (st : List TD) (l : List Sym) : pushS seen (e, st, l) = ⟨fun _ => True, fun x => .tuple #[clV (.slice none 0 0) seen e false, .slice none 0 0, .int .i64 e], fun x => []⟩ := by unfold pushS; simp [he]
theorem endS_ok (seen : Int) (l : List Sym) : endS seen (0, l) = ⟨fun _ => True, fun x => .tuple #[clV (.slice none 0 0) seen 0 true, x, .int .i64 0], fun x => [evO x l]⟩ := by unfold endS; simp
theorem endS_bad (seen : Int) {e : Int} (he : e ≠ 0) (l : List Sym) : endS seen (e, l) = ⟨fun _ => True, fun x => .tuple #[clV (.slice none 0 0) seen e false, .slice none 0 0, .int .i64 e], fun x => []⟩ := by unfold endS; simp [he]
def climbedS (R : List Sym × Nat × Int) : Spec Value := ⟨fun _ => True, fun vo => .tuple #[vo, .int .i64 (R.2.1 : Int), .int .i64 R.2.2], fun vo => [evO vo R.1]⟩
theorem evO_app {v : Value} {a b : List Sym} : rowO 39 2 v (a.length + b.length) (a.flatMap symC ++ b.flatMap symC) = evO v (a ++ b) := by unfold evO; rw [List.length_append, List.flatMap_append]
theorem ev_len (l : List Sym) : (l.flatMap symC).length = l.length * 2 := len_el (f := symC) (c := 2) (fun _ => rfl) l
set_option maxHeartbeats 4000000 in
theorem climbed_calls (v vr vw : Value) (g : Gram) (ll : List (List Int)) (T N : Nat) (word : List Int) (w : World) (h : GraR (fun k => k < w.heap.size) w v g) (hr : RowsR w vr ll) (hs : Sl w vw word.length (word.map (.int .i64))) (h0 : chkL g ll = 0) (hg : checkG g = 0) (hT : TabOk g ll T N) (hw : ∀ x ∈ word, 0 ≤ x ∧ x < (T : Int)) (hl : word.length ≤ 1000) :
    Calls Try.prog 7 #[v, vr, vw] w (Meets (climbedS (runF g.prods (fun n col => nxL ll col n) T word [.sym (2, 0)] 0 [])) w) := by
  have hp := fun vt st (seen t : Nat) w' (hg' : Gr w w') ht hs hl h1 h2 => climbPush_calls v vr vt g ll T N st seen t w' (h.gr hg') (hr.gr hg') ht h0 hg hT hs hl h1 h2
  have he := fun vt st (seen : Nat) w' (hg' : Gr w w') ht hs hl h1 => climbEnd_calls v vr vt g ll T N st seen w' (h.gr hg') (hr.gr hg') ht h0 hg hT hs hl h1
  obtain ⟨vp, rfl, _⟩ := h
  obtain ⟨bw, cw, rfl, hw1, hw2, hw3⟩ := hs
  unfold maxLen at hw2
  refine enter (args := [graV g.terms g.nons vp, vr, .slice bw word.length cw]) (n := 55) Try.func7 rfl rfl rfl ?_
  refine T_seq (T_region (TL_box rfl rfl rfl fun g3 => ?_))
  conv => arg 8; simp only [zA, zB, zC, zD, zE, zF, zG, zH, zI, rowS, ret, id_eq]
  repeat (first
    | refine qv rfl (qp rfl) rfl rfl ?_ | refine TL_nil ?_ | refine T_seq ?_ | refine T_region ?_ | refine qcT rfl ?_ | refine qcF rfl ?_ | refine T_skip ?_
    | refine T_exit ?_ | refine T_ret ?_ | refine T_block ?_ | refine E_then ?_ | refine E_thenX ?_ | refine E_thenR ?_ | refine E_blockN ?_
    | refine E_blockR ?_ | refine E_blockX ?_ | refine E_blockO rfl ?_ | refine qv rfl (qlen Und.eq rfl) rfl rfl ?_
    | refine qv rfl (rr_lss rfl rfl (qT (by omega))) rfl rfl ?_ | refine qv rfl (rr_lss rfl rfl (qF (by omega))) rfl rfl ?_
    | refine qv rfl (rr_neq rfl rfl (qT (by omega))) rfl rfl ?_ | refine qv rfl (rr_neq rfl rfl (qF (by omega))) rfl rfl ?_
    | refine qv rfl (rr_add64 rfl rfl (by omega) (by omega) rfl) rfl rfl ?_)
  refine TL_call (he0 EntersC.en rfl) (fun w hm => climbBegin_calls w) rfl rfl rfl ?_
  intro vt0 _
  conv => arg 8; simp only [zA, zB, zC, zD, zE, zF, zG, zH, zI, rowS, ret, id_eq, beginCS]
  conv => arg 7; simp only [beginCS]
  refine TL_slv (i := 1) rfl fun hv1 hv2 => ?_
  refine TL_new rfl fun g9 => ?_
  refine TL_storeB (i := 2) (cs' := #[vt0, .int .i64 0, .int .i64 0, .bool false]) rfl rfl rfl rfl (cl_one hv2) rfl ?_
  conv => arg 8; simp only [zA, zB, zC, zD, zE, zF, zG, zH, zI, rowS, ret, id_eq]
  repeat (first
    | refine qv rfl (qp rfl) rfl rfl ?_ | refine TL_nil ?_ | refine T_seq ?_ | refine T_region ?_ | refine qcT rfl ?_ | refine qcF rfl ?_ | refine T_skip ?_
    | refine T_exit ?_ | refine T_ret ?_ | refine T_block ?_ | refine E_then ?_ | refine E_thenX ?_ | refine E_thenR ?_ | refine E_blockN ?_
    | refine E_blockR ?_ | refine E_blockX ?_ | refine E_blockO rfl ?_ | refine qv rfl (qlen Und.eq rfl) rfl rfl ?_
    | refine qv rfl (rr_lss rfl rfl (qT (by omega))) rfl rfl ?_ | refine qv rfl (rr_lss rfl rfl (qF (by omega))) rfl rfl ?_
    | refine qv rfl (rr_neq rfl rfl (qT (by omega))) rfl rfl ?_ | refine qv rfl (rr_neq rfl rfl (qF (by omega))) rfl rfl ?_
    | refine qv rfl (rr_add64 rfl rfl (by omega) (by omega) rfl) rfl rfl ?_)
  refine T_nil 39 2 ?_
  generalize hR : runF g.prods (fun n col => nxL ll col n) T word [.sym (2, 0)] 0 [] = R
  refine T_pick [0, 2, 1, 3] (by decide) rfl ?_
  refine T_loop (ι := Nat × List TD × List Sym × Value × Value) (fun (k, st, out, _, _) => k ≤ word.length ∧ runF g.prods (fun n col => nxL ll col n) T (word.drop k) st k out = R ∧ (∀ d ∈ st, okTD g d) ∧ st.length ≤ 60 ∧ out.length ≤ k * 2000)
    (fun (k, _, _, _, vo) => [(1, vr), (3, .pointer (some ⟨g3, 0, none⟩)), (6, vo), (7, .int .i64 (k : Int)), (9, .pointer (some ⟨g9, 0, none⟩)), (16, .slice bw word.length cw), (17, .int .i64 word.length), (18, .int .i64 (k : Int))])
    (fun (k, st, out, vt, vo) => [blkO g3 (graV g.terms g.nons vp).cells 24, blkO g9 #[vt, .int .i64 (k : Int), .int .i64 0, .bool false] 51, tdO vt st, evO vo out]) (fun (k, _, _, _, _) => word.length - k) (0, [.sym (2, 0)], [], vt0, .slice none 0 0)
    ⟨Nat.zero_le _, hR, start_ok hg, by decide, by simp⟩ (by repeat' (first | exact True.intro | refine And.intro rfl ?_)) rfl ?_
  clear hR hv1 hv2
  rintro ⟨k, st, out, vt, vo⟩ ⟨i1, i2, i3, i4, i5⟩
  dsimp only at i1 i2 i3 i4 i5 ⊢
  by_cases c : k < word.length
  · obtain ⟨b, off, rfl, hrd⟩ := hw3 (by omega)
    have hat := fun L => at_rdm (L := L) hrd c
    rw [List.drop_eq_getElem_cons c, runF] at i2
    have hwk := hw _ (List.getElem_mem c)
    clear hrd hw3
    generalize word[k] = t at *
    obtain ⟨tn, rfl⟩ : ∃ tn : Nat, t = tn := ⟨t.toNat, by omega⟩
    rw [Int.toNat_natCast] at i2
    have hpk := fun w' hg' ht => hp vt st k tn w' hg' ht i3 i4 (by omega) (by omega)
    have hok := fun h0 => push_ok (R := pushF g.prods (nxL ll tn) st k (tn : Int)) hg (hT.nx tn) rfl h0 i3 i4
    rw [show (fun n => nxL ll tn n) = nxL ll tn from rfl] at i2
    generalize pushF g.prods (nxL ll tn) st k (tn : Int) = P at *
    obtain ⟨e, st', l⟩ := P
    dsimp only at i2 hok
    by_cases c1 : e = 0
    · subst c1
      obtain ⟨o1, o2, o3⟩ := hok rfl
      rw [if_neg (by simp)] at i2
      rw [pushS_ok] at hpk
      clear hok
      repeat (first
        | refine qv rfl (qp rfl) rfl rfl ?_ | refine TL_nil ?_ | refine T_seq ?_ | refine T_region ?_ | refine qcT rfl ?_ | refine qcF rfl ?_ | refine T_skip ?_
        | refine T_exit ?_ | refine T_ret ?_ | refine T_block ?_ | refine E_then ?_ | refine E_thenX ?_ | refine E_thenR ?_ | refine E_blockN ?_
        | refine E_blockR ?_ | refine E_blockX ?_ | refine E_blockO rfl ?_ | refine qv rfl (rr_idx1 Und.eq TyC.ty rfl rfl c) rfl rfl ?_
        | refine qv rfl (rr_load1 TyC.ty rfl (hat _)) rfl rfl ?_ | refine qv rfl (rr_loadB (i := 0) TyC.ty rfl rfl rfl) rfl rfl ?_
        | refine qv rfl (rr_loadB (i := 1) TyC.ty rfl rfl rfl) rfl rfl ?_ | refine qv rfl (qlen Und.eq rfl) rfl rfl ?_
        | refine qv rfl (rr_lss rfl rfl (qT (by omega))) rfl rfl ?_ | refine qv rfl (rr_lss rfl rfl (qF (by omega))) rfl rfl ?_
        | refine qv rfl (rr_neq rfl rfl (qT (by omega))) rfl rfl ?_ | refine qv rfl (rr_neq rfl rfl (qF (by omega))) rfl rfl ?_
        | refine qv rfl (rr_add64 rfl rfl (by omega) (by omega) rfl) rfl rfl ?_)
      refine TL_call (he4 EntersC.en rfl rfl rfl rfl rfl) (fun w' hm => hpk w' hm.below (by have := Sl.of_own (hm.get (i := 2) rfl); exact this)) rfl rfl rfl ?_
      rintro ⟨vt', vl⟩ _
      conv => arg 8; simp only [zA, zB, zC, zD, zE, zF, zG, zH, zI, rowS, ret, id_eq]
      repeat (first
        | refine qv rfl (qp rfl) rfl rfl ?_ | refine TL_nil ?_ | refine T_seq ?_ | refine T_region ?_ | refine qcT rfl ?_ | refine qcF rfl ?_ | refine T_skip ?_
        | refine T_exit ?_ | refine T_ret ?_ | refine T_block ?_ | refine E_then ?_ | refine E_thenX ?_ | refine E_thenR ?_ | refine E_blockN ?_
        | refine E_blockR ?_ | refine E_blockX ?_ | refine E_blockO rfl ?_ | refine qv rfl (qlen Und.eq rfl) rfl rfl ?_
        | refine qv rfl (rr_lss rfl rfl (qT (by omega))) rfl rfl ?_ | refine qv rfl (rr_lss rfl rfl (qF (by omega))) rfl rfl ?_
        | refine qv rfl (rr_neq rfl rfl (qT (by omega))) rfl rfl ?_ | refine qv rfl (rr_neq rfl rfl (qF (by omega))) rfl rfl ?_
        | refine qv rfl (rr_add64 rfl rfl (by omega) (by omega) rfl) rfl rfl ?_)
      refine TL_slv (i := 4) rfl fun hv1 hv2 => ?_
      refine TL_storeB (i := 1) (cs' := #[vt', .int .i64 ((k : Int) + 1), .int .i64 0, .bool false]) rfl rfl rfl rfl (cl_one hv2) rfl ?_
      conv => arg 8; simp only [zA, zB, zC, zD, zE, zF, zG, zH, zI, rowS, ret, id_eq]
      repeat (first
        | refine qv rfl (qp rfl) rfl rfl ?_ | refine TL_nil ?_ | refine T_seq ?_ | refine T_region ?_ | refine qcT rfl ?_ | refine qcF rfl ?_ | refine T_skip ?_
        | refine T_exit ?_ | refine T_ret ?_ | refine T_block ?_ | refine E_then ?_ | refine E_thenX ?_ | refine E_thenR ?_ | refine E_blockN ?_
        | refine E_blockR ?_ | refine E_blockX ?_ | refine E_blockO rfl ?_ | refine qv rfl (qlen Und.eq rfl) rfl rfl ?_
        | refine qv rfl (rr_lss rfl rfl (qT (by omega))) rfl rfl ?_ | refine qv rfl (rr_lss rfl rfl (qF (by omega))) rfl rfl ?_
        | refine qv rfl (rr_neq rfl rfl (qT (by omega))) rfl rfl ?_ | refine qv rfl (rr_neq rfl rfl (qF (by omega))) rfl rfl ?_
        | refine qv rfl (rr_add64 rfl rfl (by omega) (by omega) rfl) rfl rfl ?_)
      refine TL_appSl (i := 3) (k := l.length) (ys := l.flatMap symC) rfl (sl_row (i := 5) rfl) rfl rfl (ev_len l) (one_sym l) (by omega) (by omega) rfl fun vo' => ?_
      conv => arg 8; simp only [zA, zB, zC, zD, zE, zF, zG, zH, zI, rowS, ret, id_eq]
      repeat (first
        | refine qv rfl (qp rfl) rfl rfl ?_ | refine TL_nil ?_ | refine T_seq ?_ | refine T_region ?_ | refine qcT rfl ?_ | refine qcF rfl ?_ | refine T_skip ?_
        | refine T_exit ?_ | refine T_ret ?_ | refine T_block ?_ | refine E_then ?_ | refine E_thenX ?_ | refine E_thenR ?_ | refine E_blockN ?_
        | refine E_blockR ?_ | refine E_blockX ?_ | refine E_blockO rfl ?_ | refine qv rfl (qlen Und.eq rfl) rfl rfl ?_
        | refine qv rfl (rr_lss rfl rfl (qT (by omega))) rfl rfl ?_ | refine qv rfl (rr_lss rfl rfl (qF (by omega))) rfl rfl ?_
        | refine qv rfl (rr_neq rfl rfl (qT (by omega))) rfl rfl ?_ | refine qv rfl (rr_neq rfl rfl (qF (by omega))) rfl rfl ?_
        | refine qv rfl (rr_add64 rfl rfl (by omega) (by omega) rfl) rfl rfl ?_)
      refine E_pick [0, 1, 4, 3] (by decide) rfl ?_
      exact E_round (k + 1, st', out ++ l, vt', vo') ⟨by omega, i2, o1, o2, (by show (out ++ l).length ≤ (k + 1) * 2000; rw [List.length_append]; omega)⟩ (by show word.length - (k + 1) < word.length - k; omega) (by repeat' (first | exact True.intro | refine And.intro rfl ?_)) (by rw [evO_app]; push_cast; rfl)
    · rw [if_pos c1] at i2
      subst i2
      rw [pushS_bad _ c1] at hpk
      clear hok
      repeat (first
        | refine qv rfl (qp rfl) rfl rfl ?_ | refine TL_nil ?_ | refine T_seq ?_ | refine T_region ?_ | refine qcT rfl ?_ | refine qcF rfl ?_ | refine T_skip ?_
        | refine T_exit ?_ | refine T_ret ?_ | refine T_block ?_ | refine E_then ?_ | refine E_thenX ?_ | refine E_thenR ?_ | refine E_blockN ?_
        | refine E_blockR ?_ | refine E_blockX ?_ | refine E_blockO rfl ?_ | refine qv rfl (rr_idx1 Und.eq TyC.ty rfl rfl c) rfl rfl ?_
        | refine qv rfl (rr_load1 TyC.ty rfl (hat _)) rfl rfl ?_ | refine qv rfl (rr_loadB (i := 0) TyC.ty rfl rfl rfl) rfl rfl ?_
        | refine qv rfl (rr_loadB (i := 1) TyC.ty rfl rfl rfl) rfl rfl ?_ | refine qv rfl (qlen Und.eq rfl) rfl rfl ?_
        | refine qv rfl (rr_lss rfl rfl (qT (by omega))) rfl rfl ?_ | refine qv rfl (rr_lss rfl rfl (qF (by omega))) rfl rfl ?_
        | refine qv rfl (rr_neq rfl rfl (qT (by omega))) rfl rfl ?_ | refine qv rfl (rr_neq rfl rfl (qF (by omega))) rfl rfl ?_
        | refine qv rfl (rr_add64 rfl rfl (by omega) (by omega) rfl) rfl rfl ?_)
      refine TL_call (he4 EntersC.en rfl rfl rfl rfl rfl) (fun w' hm => hpk w' hm.below (by have := Sl.of_own (hm.get (i := 2) rfl); exact this)) rfl rfl rfl ?_
      intro _ _
      conv => arg 8; simp only [zA, zB, zC, zD, zE, zF, zG, zH, zI, rowS, ret, id_eq]
      repeat (first
        | refine qv rfl (qp rfl) rfl rfl ?_ | refine TL_nil ?_ | refine T_seq ?_ | refine T_region ?_ | refine qcT rfl ?_ | refine qcF rfl ?_ | refine T_skip ?_
        | refine T_exit ?_ | refine T_ret ?_ | refine T_block ?_ | refine E_then ?_ | refine E_thenX ?_ | refine E_thenR ?_ | refine E_blockN ?_
        | refine E_blockR ?_ | refine E_blockX ?_ | refine E_blockO rfl ?_ | refine qv rfl (qlen Und.eq rfl) rfl rfl ?_
        | refine qv rfl (rr_lss rfl rfl (qT (by omega))) rfl rfl ?_ | refine qv rfl (rr_lss rfl rfl (qF (by omega))) rfl rfl ?_
        | refine qv rfl (rr_neq rfl rfl (qT (by omega))) rfl rfl ?_ | refine qv rfl (rr_neq rfl rfl (qF (by omega))) rfl rfl ?_
        | refine qv rfl (rr_add64 rfl rfl (by omega) (by omega) rfl) rfl rfl ?_)
      refine TL_storeB (i := 1) (cs' := #[.slice none 0 0, .int .i64 (k : Int), .int .i64 e, .bool false]) rfl rfl rfl rfl rfl rfl ?_
      conv => arg 8; simp only [zA, zB, zC, zD, zE, zF, zG, zH, zI, rowS, ret, id_eq]
      repeat (first
        | refine qv rfl (qp rfl) rfl rfl ?_ | refine TL_nil ?_ | refine T_seq ?_ | refine T_region ?_ | refine qcT rfl ?_ | refine qcF rfl ?_ | refine T_skip ?_
        | refine T_exit ?_ | refine T_ret ?_ | refine T_block ?_ | refine E_then ?_ | refine E_thenX ?_ | refine E_thenR ?_ | refine E_blockN ?_
        | refine E_blockR ?_ | refine E_blockX ?_ | refine E_blockO rfl ?_ | refine qv rfl (rr_neq (b := true) rfl rfl (decide_eq_true c1)) rfl rfl ?_
        | refine qv rfl (qlen Und.eq rfl) rfl rfl ?_ | refine qv rfl (rr_lss rfl rfl (qT (by omega))) rfl rfl ?_
        | refine qv rfl (rr_lss rfl rfl (qF (by omega))) rfl rfl ?_ | refine qv rfl (rr_neq rfl rfl (qT (by omega))) rfl rfl ?_
        | refine qv rfl (rr_neq rfl rfl (qF (by omega))) rfl rfl ?_ | refine qv rfl (rr_add64 rfl rfl (by omega) (by omega) rfl) rfl rfl ?_)
      exact E_ret3 rfl rfl rfl rfl fun w hm => hm.meets (S := climbedS (out, k, e)) vo trivial [3] (by decide) rfl
  · rw [List.drop_of_length_le (by omega), runF] at i2
    obtain rfl : k = word.length := by omega
    have hek := fun w' hg' ht => he vt st word.length w' hg' ht i3 i4 (by omega)
    rw [show (fun n => nxL ll T n) = nxL ll T from rfl] at i2
    have hel := end_cases (l := g.prods) (nx := nxL ll T) (st := st) rfl
    generalize endF g.prods (nxL ll T) st = P at *
    obtain ⟨e, l⟩ := P
    dsimp only at i2 hel
    by_cases c1 : e = 0
    · subst c1
      have hll : l.length ≤ 2000 := by
        rcases hel with ⟨h | h, _⟩ | ⟨a1, hd, _⟩
        · omega
        · omega
        · have := (down_len hd rfl i4 (by omega)).2.2
          simp at this
          have h2 := (down_len hd rfl i4 (by omega)).2.1
          simp at h2
          omega
      subst i2
      rw [endS_ok] at hek
      clear hel
      repeat (first
        | refine qv rfl (qp rfl) rfl rfl ?_ | refine TL_nil ?_ | refine T_seq ?_ | refine T_region ?_ | refine qcT rfl ?_ | refine qcF rfl ?_ | refine T_skip ?_
        | refine T_exit ?_ | refine T_ret ?_ | refine T_block ?_ | refine E_then ?_ | refine E_thenX ?_ | refine E_thenR ?_ | refine E_blockN ?_
        | refine E_blockR ?_ | refine E_blockX ?_ | refine E_blockO rfl ?_ | refine qv rfl (rr_loadB (i := 0) TyC.ty rfl rfl rfl) rfl rfl ?_
        | refine qv rfl (rr_loadB (i := 1) TyC.ty rfl rfl rfl) rfl rfl ?_ | refine qv rfl (qlen Und.eq rfl) rfl rfl ?_
        | refine qv rfl (rr_lss rfl rfl (qT (by omega))) rfl rfl ?_ | refine qv rfl (rr_lss rfl rfl (qF (by omega))) rfl rfl ?_
        | refine qv rfl (rr_neq rfl rfl (qT (by omega))) rfl rfl ?_ | refine qv rfl (rr_neq rfl rfl (qF (by omega))) rfl rfl ?_
        | refine qv rfl (rr_add64 rfl rfl (by omega) (by omega) rfl) rfl rfl ?_)
      refine TL_call (he3 EntersC.en rfl rfl rfl rfl) (fun w' hm => hek w' hm.below (by have := Sl.of_own (hm.get (i := 2) rfl); exact this)) rfl rfl rfl ?_
      intro vl _
      conv => arg 8; simp only [zA, zB, zC, zD, zE, zF, zG, zH, zI, rowS, ret, id_eq]
      repeat (first
        | refine qv rfl (qp rfl) rfl rfl ?_ | refine TL_nil ?_ | refine T_seq ?_ | refine T_region ?_ | refine qcT rfl ?_ | refine qcF rfl ?_ | refine T_skip ?_
        | refine T_exit ?_ | refine T_ret ?_ | refine T_block ?_ | refine E_then ?_ | refine E_thenX ?_ | refine E_thenR ?_ | refine E_blockN ?_
        | refine E_blockR ?_ | refine E_blockX ?_ | refine E_blockO rfl ?_ | refine qv rfl (qlen Und.eq rfl) rfl rfl ?_
        | refine qv rfl (rr_lss rfl rfl (qT (by omega))) rfl rfl ?_ | refine qv rfl (rr_lss rfl rfl (qF (by omega))) rfl rfl ?_
        | refine qv rfl (rr_neq rfl rfl (qT (by omega))) rfl rfl ?_ | refine qv rfl (rr_neq rfl rfl (qF (by omega))) rfl rfl ?_
        | refine qv rfl (rr_add64 rfl rfl (by omega) (by omega) rfl) rfl rfl ?_)
      refine TL_new rfl fun g13 => ?_
      refine TL_storeB (i := 5) (cs' := #[.slice none 0 0, .int .i64 (word.length : Int), .int .i64 0, .bool true]) rfl rfl rfl rfl rfl rfl ?_
      conv => arg 8; simp only [zA, zB, zC, zD, zE, zF, zG, zH, zI, rowS, ret, id_eq]
      repeat (first
        | refine qv rfl (qp rfl) rfl rfl ?_ | refine TL_nil ?_ | refine T_seq ?_ | refine T_region ?_ | refine qcT rfl ?_ | refine qcF rfl ?_ | refine T_skip ?_
        | refine T_exit ?_ | refine T_ret ?_ | refine T_block ?_ | refine E_then ?_ | refine E_thenX ?_ | refine E_thenR ?_ | refine E_blockN ?_
        | refine E_blockR ?_ | refine E_blockX ?_ | refine E_blockO rfl ?_ | refine qv rfl (qlen Und.eq rfl) rfl rfl ?_
        | refine qv rfl (rr_lss rfl rfl (qT (by omega))) rfl rfl ?_ | refine qv rfl (rr_lss rfl rfl (qF (by omega))) rfl rfl ?_
        | refine qv rfl (rr_neq rfl rfl (qT (by omega))) rfl rfl ?_ | refine qv rfl (rr_neq rfl rfl (qF (by omega))) rfl rfl ?_
        | refine qv rfl (rr_add64 rfl rfl (by omega) (by omega) rfl) rfl rfl ?_)
      refine TL_appSl (i := 3) (k := l.length) (ys := l.flatMap symC) rfl (sl_row (i := 4) rfl) rfl rfl (ev_len l) (one_sym l) (by omega) (by omega) rfl fun vo' => ?_
      conv => arg 8; simp only [zA, zB, zC, zD, zE, zF, zG, zH, zI, rowS, ret, id_eq]
      repeat (first
        | refine qv rfl (qp rfl) rfl rfl ?_ | refine TL_nil ?_ | refine T_seq ?_ | refine T_region ?_ | refine qcT rfl ?_ | refine qcF rfl ?_ | refine T_skip ?_
        | refine T_exit ?_ | refine T_ret ?_ | refine T_block ?_ | refine E_then ?_ | refine E_thenX ?_ | refine E_thenR ?_ | refine E_blockN ?_
        | refine E_blockR ?_ | refine E_blockX ?_ | refine E_blockO rfl ?_ | refine qv rfl (qlen Und.eq rfl) rfl rfl ?_
        | refine qv rfl (rr_lss rfl rfl (qT (by omega))) rfl rfl ?_ | refine qv rfl (rr_lss rfl rfl (qF (by omega))) rfl rfl ?_
        | refine qv rfl (rr_neq rfl rfl (qT (by omega))) rfl rfl ?_ | refine qv rfl (rr_neq rfl rfl (qF (by omega))) rfl rfl ?_
        | refine qv rfl (rr_add64 rfl rfl (by omega) (by omega) rfl) rfl rfl ?_)
      exact E_ret3 rfl rfl rfl rfl fun w hm => hm.meets (S := climbedS (out ++ l, word.length, 0)) vo' trivial [3] (by decide) (by show [evO vo' (out ++ l)] = _; rw [← evO_app]; rfl)
    · have hl0 : l = [] := by
        rcases hel with ⟨_, h⟩ | ⟨_, _, h⟩
        · exact h
        · exact absurd h c1
      subst hl0
      rw [List.append_nil] at i2
      subst i2
      rw [endS_bad _ c1] at hek
      clear hel
      repeat (first
        | refine qv rfl (qp rfl) rfl rfl ?_ | refine TL_nil ?_ | refine T_seq ?_ | refine T_region ?_ | refine qcT rfl ?_ | refine qcF rfl ?_ | refine T_skip ?_
        | refine T_exit ?_ | refine T_ret ?_ | refine T_block ?_ | refine E_then ?_ | refine E_thenX ?_ | refine E_thenR ?_ | refine E_blockN ?_
        | refine E_blockR ?_ | refine E_blockX ?_ | refine E_blockO rfl ?_ | refine qv rfl (rr_loadB (i := 0) TyC.ty rfl rfl rfl) rfl rfl ?_
        | refine qv rfl (rr_loadB (i := 1) TyC.ty rfl rfl rfl) rfl rfl ?_ | refine qv rfl (qlen Und.eq rfl) rfl rfl ?_
        | refine qv rfl (rr_lss rfl rfl (qT (by omega))) rfl rfl ?_ | refine qv rfl (rr_lss rfl rfl (qF (by omega))) rfl rfl ?_
        | refine qv rfl (rr_neq rfl rfl (qT (by omega))) rfl rfl ?_ | refine qv rfl (rr_neq rfl rfl (qF (by omega))) rfl rfl ?_
        | refine qv rfl (rr_add64 rfl rfl (by omega) (by omega) rfl) rfl rfl ?_)
      refine TL_call (he3 EntersC.en rfl rfl rfl rfl) (fun w' hm => hek w' hm.below (by have := Sl.of_own (hm.get (i := 2) rfl); exact this)) rfl rfl rfl ?_
      intro _ _
      conv => arg 8; simp only [zA, zB, zC, zD, zE, zF, zG, zH, zI, rowS, ret, id_eq]
      repeat (first
        | refine qv rfl (qp rfl) rfl rfl ?_ | refine TL_nil ?_ | refine T_seq ?_ | refine T_region ?_ | refine qcT rfl ?_ | refine qcF rfl ?_ | refine T_skip ?_
        | refine T_exit ?_ | refine T_ret ?_ | refine T_block ?_ | refine E_then ?_ | refine E_thenX ?_ | refine E_thenR ?_ | refine E_blockN ?_
        | refine E_blockR ?_ | refine E_blockX ?_ | refine E_blockO rfl ?_ | refine qv rfl (qlen Und.eq rfl) rfl rfl ?_
        | refine qv rfl (rr_lss rfl rfl (qT (by omega))) rfl rfl ?_ | refine qv rfl (rr_lss rfl rfl (qF (by omega))) rfl rfl ?_
        | refine qv rfl (rr_neq rfl rfl (qT (by omega))) rfl rfl ?_ | refine qv rfl (rr_neq rfl rfl (qF (by omega))) rfl rfl ?_
        | refine qv rfl (rr_add64 rfl rfl (by omega) (by omega) rfl) rfl rfl ?_)
      refine TL_new rfl fun g13 => ?_
      refine TL_storeB (i := 4) (cs' := #[.slice none 0 0, .int .i64 (word.length : Int), .int .i64 e, .bool false]) rfl rfl rfl rfl rfl rfl ?_
      conv => arg 8; simp only [zA, zB, zC, zD, zE, zF, zG, zH, zI, rowS, ret, id_eq]
      repeat (first
        | refine qv rfl (qp rfl) rfl rfl ?_ | refine TL_nil ?_ | refine T_seq ?_ | refine T_region ?_ | refine qcT rfl ?_ | refine qcF rfl ?_ | refine T_skip ?_
        | refine T_exit ?_ | refine T_ret ?_ | refine T_block ?_ | refine E_then ?_ | refine E_thenX ?_ | refine E_thenR ?_ | refine E_blockN ?_
        | refine E_blockR ?_ | refine E_blockX ?_ | refine E_blockO rfl ?_ | refine qv rfl (qlen Und.eq rfl) rfl rfl ?_
        | refine qv rfl (rr_lss rfl rfl (qT (by omega))) rfl rfl ?_ | refine qv rfl (rr_lss rfl rfl (qF (by omega))) rfl rfl ?_
        | refine qv rfl (rr_neq rfl rfl (qT (by omega))) rfl rfl ?_ | refine qv rfl (rr_neq rfl rfl (qF (by omega))) rfl rfl ?_
        | refine qv rfl (rr_add64 rfl rfl (by omega) (by omega) rfl) rfl rfl ?_)
      refine TL_append0 ElC.el (i := 3) rfl rfl rfl rfl ?_
      conv => arg 8; simp only [zA, zB, zC, zD, zE, zF, zG, zH, zI, rowS, ret, id_eq]
      repeat (first
        | refine qv rfl (qp rfl) rfl rfl ?_ | refine TL_nil ?_ | refine T_seq ?_ | refine T_region ?_ | refine qcT rfl ?_ | refine qcF rfl ?_ | refine T_skip ?_
        | refine T_exit ?_ | refine T_ret ?_ | refine T_block ?_ | refine E_then ?_ | refine E_thenX ?_ | refine E_thenR ?_ | refine E_blockN ?_
        | refine E_blockR ?_ | refine E_blockX ?_ | refine E_blockO rfl ?_ | refine qv rfl (qlen Und.eq rfl) rfl rfl ?_
        | refine qv rfl (rr_lss rfl rfl (qT (by omega))) rfl rfl ?_ | refine qv rfl (rr_lss rfl rfl (qF (by omega))) rfl rfl ?_
        | refine qv rfl (rr_neq rfl rfl (qT (by omega))) rfl rfl ?_ | refine qv rfl (rr_neq rfl rfl (qF (by omega))) rfl rfl ?_
        | refine qv rfl (rr_add64 rfl rfl (by omega) (by omega) rfl) rfl rfl ?_)
      exact E_ret3 rfl rfl rfl rfl fun w hm => hm.meets (S := climbedS (out, word.length, e)) vo trivial [3] (by decide) rfl
end Go.Proofs.Ytkkiopmdcolobaa.eng

/- EvT -/
namespace Go.Proofs.Ytkkiopmdcolobaa.eng
open Go.RowKit kit mix gramL treeL
instance : TyC Try.prog 109 false 1 := ⟨Ty.of (by kernel_rfl)⟩
instance : ZeroC Try.prog 109 #[.nilFunc] := ⟨by kernel_rfl⟩
end Go.Proofs.Ytkkiopmdcolobaa.eng

/- CountE -/
namespace Go.Proofs.Ytkkiopmdcolobaa.eng
open Go.RowKit kit mix gramL countL
attribute [local irreducible] Instr.build in
set_option maxHeartbeats 2000000 in
theorem trees_calls (v vw : Value) (g : Gram) (word : List Int) (w : World) (h : GraR (fun k => k < w.heap.size) w v g) (hs : Sl w vw word.length (word.map (.int .i64))) :
    Calls Try.prog 8 #[v, vw] w (Meets (ret (.tuple #[.int .i64 (treesN g word : Int), .int .i64 (checkC g word)])) w) := by
  have hck := fun w' (hg : Gr w w') => checkC_calls v vw g word w' (h.gr hg) (hs.gr hg)
  by_cases c0 : checkC g word = 0
  · have h0 := h
    obtain ⟨vp, rfl, h1, _⟩ := h
    have hfi := fun w' (hg : Gr w w') => filled_calls vp vw g word w' (h0.gr hg) (hs.gr hg) c0
    have hN := fun (c : Chart) hc => treesN_eq (c := c) c0 hc
    obtain ⟨hg, hl, hw⟩ := checkC_ok c0
    rw [c0] at hck ⊢
    obtain ⟨bw, cw, rfl, _⟩ := hs
    obtain ⟨t, n, prods⟩ := g
    dsimp only at *
    refine enter (args := [graV t n vp, .slice bw word.length cw]) (n := 23) Try.func8 rfl rfl rfl ?_
    refine T_seq (T_region (TL_box rfl rfl rfl fun g2 => ?_))
    repeat (first
      | refine qv rfl (qp rfl) rfl rfl ?_ | refine TL_nil ?_ | refine T_seq ?_ | refine T_region ?_ | refine qcT rfl ?_ | refine qcF rfl ?_ | refine T_skip ?_
      | refine T_ret ?_ | refine E_then ?_ | refine E_thenR ?_ | refine qv rfl (rr_loadB (i := 0) TyC.ty rfl rfl rfl) rfl rfl ?_
      | refine qv rfl (qlen Und.eq rfl) rfl rfl ?_ | refine qv rfl (qfld FldC.fld rfl rfl) rfl rfl ?_ | refine qv rfl (rr_nilc rfl) rfl rfl ?_
      | refine qv rfl (rr_neq rfl rfl (qT (by omega))) rfl rfl ?_ | refine qv rfl (rr_neq rfl rfl (qF (by omega))) rfl rfl ?_)
    refine TL_call (he2 EntersC.en rfl rfl rfl) (fun w hm => hck _ hm.below) rfl rfl rfl ?_
    intro _ _
    conv => arg 8; simp only [zA, zB, zC, zD, zE, zF, zG, zH, zI, rowS, ret, id_eq]
    repeat (first
      | refine qv rfl (qp rfl) rfl rfl ?_ | refine TL_nil ?_ | refine T_seq ?_ | refine T_region ?_ | refine qcT rfl ?_ | refine qcF rfl ?_ | refine T_skip ?_
      | refine T_ret ?_ | refine E_then ?_ | refine E_thenR ?_ | refine qv rfl (rr_loadB (i := 0) TyC.ty rfl rfl rfl) rfl rfl ?_
      | refine qv rfl (qlen Und.eq rfl) rfl rfl ?_ | refine qv rfl (qfld FldC.fld rfl rfl) rfl rfl ?_ | refine qv rfl (rr_nilc rfl) rfl rfl ?_
      | refine qv rfl (rr_neq rfl rfl (qT (by omega))) rfl rfl ?_ | refine qv rfl (rr_neq rfl rfl (qF (by omega))) rfl rfl ?_)
    refine TL_call (he2 EntersC.en rfl rfl rfl) (fun w' hm => hfi w' hm.below) rfl rfl rfl ?_
    rintro ⟨gc, gm, c, Bd⟩ ⟨hx, _⟩
    have hN := hN c hx
    conv => arg 8; simp only [zA, zB, zC, zD, zE, zF, zG, zH, zI, rowS, ret, id_eq, filledS]
    repeat (first
      | refine qv rfl (qp rfl) rfl rfl ?_ | refine TL_nil ?_ | refine T_seq ?_ | refine T_region ?_ | refine qcT rfl ?_ | refine qcF rfl ?_ | refine T_skip ?_
      | refine T_ret ?_ | refine E_then ?_ | refine E_thenR ?_ | refine qv rfl (rr_load1 TyC.ty rfl (at_blk (i := 1) rfl rfl)) rfl rfl ?_
      | refine qv rfl (rr_build rfl (build_span _ _ _)) rfl rfl ?_
      | refine qv rfl (rr_lookT (x := (0, 0, (word.length : Int))) (i := 2) spanK Und.eq zero_int rfl rfl rfl (span_ok (m := 0) (a := 0) ⟨by decide, by decide⟩ (by omega) (by omega)) (by rw [hN])) rfl rfl ?_
      | refine qv rfl (qlen Und.eq rfl) rfl rfl ?_ | refine qv rfl (qfld FldC.fld rfl rfl) rfl rfl ?_ | refine qv rfl (rr_nilc rfl) rfl rfl ?_
      | refine qv rfl (rr_neq rfl rfl (qT (by omega))) rfl rfl ?_ | refine qv rfl (rr_neq rfl rfl (qF (by omega))) rfl rfl ?_)
    exact E_ret2 rfl rfl rfl fun w hm => hm.ret
  · have hN : treesN g word = 0 := by unfold treesN; rw [if_neg c0]
    rw [hN]
    obtain ⟨vp, rfl, h1, _⟩ := h
    obtain ⟨bw, cw, rfl, _⟩ := hs
    generalize checkC g word = e at *
    obtain ⟨t, n, prods⟩ := g
    dsimp only at *
    refine enter (args := [graV t n vp, .slice bw word.length cw]) (n := 23) Try.func8 rfl rfl rfl ?_
    refine T_seq (T_region (TL_box rfl rfl rfl fun g2 => ?_))
    repeat (first
      | refine qv rfl (qp rfl) rfl rfl ?_ | refine TL_nil ?_ | refine T_seq ?_ | refine T_region ?_ | refine qcT rfl ?_ | refine qcF rfl ?_ | refine T_skip ?_
      | refine T_ret ?_ | refine E_then ?_ | refine E_thenR ?_ | refine qv rfl (rr_loadB (i := 0) TyC.ty rfl rfl rfl) rfl rfl ?_
      | refine qv rfl (qlen Und.eq rfl) rfl rfl ?_ | refine qv rfl (qfld FldC.fld rfl rfl) rfl rfl ?_ | refine qv rfl (rr_nilc rfl) rfl rfl ?_
      | refine qv rfl (rr_neq rfl rfl (qT (by omega))) rfl rfl ?_ | refine qv rfl (rr_neq rfl rfl (qF (by omega))) rfl rfl ?_)
    refine TL_call (he2 EntersC.en rfl rfl rfl) (fun w hm => hck _ hm.below) rfl rfl rfl ?_
    intro _ _
    repeat (first
      | refine qv rfl (qp rfl) rfl rfl ?_ | refine TL_nil ?_ | refine T_seq ?_ | refine T_region ?_ | refine qcT rfl ?_ | refine qcF rfl ?_ | refine T_skip ?_
      | refine T_ret ?_ | refine E_then ?_ | refine E_thenR ?_ | refine qv rfl (qlen Und.eq rfl) rfl rfl ?_ | refine qv rfl (qfld FldC.fld rfl rfl) rfl rfl ?_
      | refine qv rfl (rr_nilc rfl) rfl rfl ?_ | refine qv rfl (rr_neq rfl rfl (qT (by omega))) rfl rfl ?_
      | refine qv rfl (rr_neq rfl rfl (qF (by omega))) rfl rfl ?_)
    exact E_ret2 rfl rfl rfl fun w hm => hm.ret
end Go.Proofs.Ytkkiopmdcolobaa.eng

/- CountP -/
namespace Go.Proofs.Ytkkiopmdcolobaa.eng
open Go.RowKit kit mix gramL treeL countL factsL derL
theorem allF_step {M : List Bool} {b : List Sym} {t : Bool} {k : Nat} (h : k < b.length) : allF M (b.drop k) t = ((if b[k].1 = 1 then t else if b[k].1 = 2 then M.getD b[k].2.toNat false else true) && allF M (b.drop (k + 1)) t) := by
  rw [List.drop_eq_getElem_cons h]; unfold allF; rw [List.all_cons]
set_option maxHeartbeats 2000000 in
theorem made_calls (g6 n gM cM : Nat) (vE vF vW vR vb : Value) (M : List Bool) (body : List Sym) (w : World) (hg : w.heap[g6]? = some (.cells (facV vE vF vW vR (vRow n gM cM)).cells 67 (0, 0))) (hM : Sl w (vRow n gM cM) M.length (M.map .bool)) (hn : n = M.length) (hs : Sl w vb body.length (body.flatMap symC)) (hx : ∀ x ∈ body, x.1 = 1 ∨ (x.1 = 2 ∧ 0 ≤ x.2 ∧ x.2 < (n : Int)))
    (h5 : ∃ b1 n1 c1 b2 n2 c2 b3 n3 c3 b4 n4 c4, vE = .slice b1 n1 c1 ∧ vF = .slice b2 n2 c2 ∧ vW = .slice b3 n3 c3 ∧ vR = .slice b4 n4 c4) :
    Calls Try.prog 65 #[vb, .pointer (some ⟨g6, 0, none⟩)] w (Meets (ret (.bool (allF M body true))) w) := by
  subst hn
  obtain ⟨b1, n1, c1, b2, n2, c2, b3, n3, c3, b4, n4, c4, rfl, rfl, rfl, rfl⟩ := h5
  have h4 : ∀ (L : List Own), At w L ⟨g6, 4, none⟩ (vRow M.length gM cM) := fun L => at_old (by rw [cell_of_row w g6 4 _ _ _ hg]; rfl)
  obtain ⟨bb, cb, rfl, hb1, hb2, hb3⟩ := hs
  obtain ⟨bM, cM', he, hM1, hM2, hM3⟩ := hM
  unfold vRow at he
  simp only [Value.slice.injEq, true_and] at he
  obtain ⟨rfl, rfl⟩ := he
  unfold maxLen at hb2 hM2
  refine enter (args := [.slice bb body.length cb, .pointer (some ⟨g6, 0, none⟩)]) (n := 25) Try.func65 rfl rfl rfl ?_
  repeat (first
    | refine qv rfl (qp rfl) rfl rfl ?_ | refine TL_nil ?_ | refine T_seq ?_ | refine T_region ?_ | refine qcT rfl ?_ | refine qcF rfl ?_ | refine T_skip ?_
    | refine T_exit ?_ | refine T_ret ?_ | refine T_block ?_ | refine E_then ?_ | refine E_thenX ?_ | refine E_thenR ?_ | refine E_blockN ?_
    | refine E_blockR ?_ | refine E_blockX ?_ | refine E_blockO rfl ?_ | refine qs rfl rfl rfl rfl rfl rfl ?_
    | ((try refine qg rfl rfl rfl ?_); first | refine qv rfl (qp rfl) rfl rfl ?_ | refine qv rfl (qlen Und.eq rfl) rfl rfl ?_ | refine qv rfl (qfld FldC.fld rfl rfl) rfl rfl ?_ | refine qv rfl (rr_lss rfl rfl (qT (by omega))) rfl rfl ?_ | refine qv rfl (rr_lss rfl rfl (qF (by omega))) rfl rfl ?_ | refine qv rfl (rr_eql rfl rfl (qT (by omega))) rfl rfl ?_ | refine qv rfl (rr_eql rfl rfl (qF (by omega))) rfl rfl ?_ | refine qv rfl (rr_add64 rfl rfl (by omega) (by omega) rfl) rfl rfl ?_ | refine qv rfl (rr_not rfl rfl) rfl rfl ?_))
  refine T_loop (ι := Nat) (fun j => j ≤ body.length ∧ allF M body true = allF M (body.drop j) true) (fun j => [(1, .pointer (some ⟨g6, 0, none⟩)), (6, .slice bb body.length cb), (7, .int .i64 body.length), (8, .int .i64 (j : Int))]) (fun _ => []) (fun j => body.length - j) 0 ⟨Nat.zero_le _, rfl⟩ (by repeat' (first | exact True.intro | refine And.intro rfl ?_)) rfl ?_
  rintro j ⟨j1, j2⟩
  by_cases c7 : j < body.length
  · obtain ⟨b, off, rfl, hr⟩ := hb3 (by omega)
    have hat := fun L => at_elL (W := w) (L := L) SymS_len (fun q x hq => at_old (hr q x hq)) c7
    rw [allF_step c7] at j2
    have hxj := hx body[j] (List.getElem_mem c7)
    clear hr hx
    generalize body[j] = x at *
    obtain ⟨xq, xm⟩ := x
    dsimp only at hxj j2
    by_cases c1 : xq = 2
    · obtain ⟨c2, c3⟩ := (hxj.resolve_left (by omega)).2
      obtain ⟨m, rfl⟩ : ∃ m : Nat, xm = m := ⟨xm.toNat, by omega⟩
      have hm : m < M.length := by omega
      obtain ⟨b', off', he2, hr2⟩ := hM3 (by omega)
      simp only [Option.some.injEq, Addr.mk.injEq, and_true] at he2
      obtain ⟨rfl, rfl⟩ := he2
      have hbit : At w [] ⟨gM, 0 + m, none⟩ (.bool M[m]) := at_rd hr2 (by simp [hm])
      rw [if_neg (by omega), if_pos c1, Int.toNat_natCast, List.getD_eq_getElem?_getD, List.getElem?_eq_getElem hm] at j2
      dsimp only [Option.getD] at j2
      have hbit2 : ∀ L, At w L ⟨gM, 0 + m, none⟩ (.bool M[m]) := fun L => at_rd hr2 (by simp [hm])
      generalize M[m] = bit at *
      clear hr2 hM3
      cases bit
      · rw [Bool.false_and] at j2
        rw [j2]
        repeat (first
          | refine qv rfl (qp rfl) rfl rfl ?_ | refine TL_nil ?_ | refine T_seq ?_ | refine T_region ?_ | refine qcT rfl ?_ | refine qcF rfl ?_ | refine T_skip ?_
          | refine T_exit ?_ | refine T_ret ?_ | refine T_block ?_ | refine E_then ?_ | refine E_thenX ?_ | refine E_thenR ?_ | refine E_blockN ?_
          | refine E_blockR ?_ | refine E_blockX ?_ | refine E_blockO rfl ?_ | refine qs rfl rfl rfl rfl rfl rfl ?_
          | ((try refine qg rfl rfl rfl ?_); first | refine qv rfl (qp rfl) rfl rfl ?_ | refine qv rfl (rr_idxc Und.eq TyC.ty rfl rfl c7) rfl rfl ?_ | refine qv rfl (rr_loadN TyC.ty rfl rfl (hat _)) rfl rfl ?_ | refine qv rfl (qlen Und.eq rfl) rfl rfl ?_ | refine qv rfl (qfld FldC.fld rfl rfl) rfl rfl ?_ | refine qv rfl (rr_lss rfl rfl (qT (by omega))) rfl rfl ?_ | refine qv rfl (rr_lss rfl rfl (qF (by omega))) rfl rfl ?_ | refine qv rfl (rr_eql rfl rfl (qT (by omega))) rfl rfl ?_ | refine qv rfl (rr_eql rfl rfl (qF (by omega))) rfl rfl ?_ | refine qv rfl (rr_add64 rfl rfl (by omega) (by omega) rfl) rfl rfl ?_ | refine qv rfl (rr_not rfl rfl) rfl rfl ?_))
        refine TL_new rfl fun g5 => ?_
        refine TL_storeB (i := 0) rfl rfl rfl rfl rfl rfl ?_
        conv => arg 8; simp only [zA, zB, zC, zD, zE, zF, zG, zH, zI, rowS, ret, id_eq]
        repeat (first
          | refine qv rfl (qp rfl) rfl rfl ?_ | refine TL_nil ?_ | refine T_seq ?_ | refine T_region ?_ | refine qcT rfl ?_ | refine qcF rfl ?_ | refine T_skip ?_
          | refine T_exit ?_ | refine T_ret ?_ | refine T_block ?_ | refine E_then ?_ | refine E_thenX ?_ | refine E_thenR ?_ | refine E_blockN ?_
          | refine E_blockR ?_ | refine E_blockX ?_ | refine E_blockO rfl ?_ | refine qs rfl rfl rfl rfl rfl rfl ?_
          | ((try refine qg rfl rfl rfl ?_); first | refine qv rfl (qp rfl) rfl rfl ?_ | refine qv rfl (rr_load1 TyC.ty rfl (at_blk (i := 0) rfl rfl)) rfl rfl ?_ | refine qv rfl (rr_load1 TyC.ty rfl (h4 _)) rfl rfl ?_ | refine qv rfl (rr_idx1 Und.eq TyC.ty rfl rfl hm) rfl rfl ?_ | refine qv rfl (rr_load1 TyC.ty rfl (hbit2 _)) rfl rfl ?_ | refine qv rfl (qlen Und.eq rfl) rfl rfl ?_ | refine qv rfl (qfld FldC.fld rfl rfl) rfl rfl ?_ | refine qv rfl (rr_lss rfl rfl (qT (by omega))) rfl rfl ?_ | refine qv rfl (rr_lss rfl rfl (qF (by omega))) rfl rfl ?_ | refine qv rfl (rr_eql rfl rfl (qT (by omega))) rfl rfl ?_ | refine qv rfl (rr_eql rfl rfl (qF (by omega))) rfl rfl ?_ | refine qv rfl (rr_add64 rfl rfl (by omega) (by omega) rfl) rfl rfl ?_ | refine qv rfl (rr_not rfl rfl) rfl rfl ?_))
        exact E_ret1 rfl rfl fun w hm => hm.ret
      · rw [Bool.true_and] at j2
        repeat (first
          | refine qv rfl (qp rfl) rfl rfl ?_ | refine TL_nil ?_ | refine T_seq ?_ | refine T_region ?_ | refine qcT rfl ?_ | refine qcF rfl ?_ | refine T_skip ?_
          | refine T_exit ?_ | refine T_ret ?_ | refine T_block ?_ | refine E_then ?_ | refine E_thenX ?_ | refine E_thenR ?_ | refine E_blockN ?_
          | refine E_blockR ?_ | refine E_blockX ?_ | refine E_blockO rfl ?_ | refine qs rfl rfl rfl rfl rfl rfl ?_
          | ((try refine qg rfl rfl rfl ?_); first | refine qv rfl (qp rfl) rfl rfl ?_ | refine qv rfl (rr_idxc Und.eq TyC.ty rfl rfl c7) rfl rfl ?_ | refine qv rfl (rr_loadN TyC.ty rfl rfl (hat _)) rfl rfl ?_ | refine qv rfl (qlen Und.eq rfl) rfl rfl ?_ | refine qv rfl (qfld FldC.fld rfl rfl) rfl rfl ?_ | refine qv rfl (rr_lss rfl rfl (qT (by omega))) rfl rfl ?_ | refine qv rfl (rr_lss rfl rfl (qF (by omega))) rfl rfl ?_ | refine qv rfl (rr_eql rfl rfl (qT (by omega))) rfl rfl ?_ | refine qv rfl (rr_eql rfl rfl (qF (by omega))) rfl rfl ?_ | refine qv rfl (rr_add64 rfl rfl (by omega) (by omega) rfl) rfl rfl ?_ | refine qv rfl (rr_not rfl rfl) rfl rfl ?_))
        refine TL_new rfl fun g5 => ?_
        refine TL_storeB (i := 0) rfl rfl rfl rfl rfl rfl ?_
        conv => arg 8; simp only [zA, zB, zC, zD, zE, zF, zG, zH, zI, rowS, ret, id_eq]
        repeat (first
          | refine qv rfl (qp rfl) rfl rfl ?_ | refine TL_nil ?_ | refine T_seq ?_ | refine T_region ?_ | refine qcT rfl ?_ | refine qcF rfl ?_ | refine T_skip ?_
          | refine T_exit ?_ | refine T_ret ?_ | refine T_block ?_ | refine E_then ?_ | refine E_thenX ?_ | refine E_thenR ?_ | refine E_blockN ?_
          | refine E_blockR ?_ | refine E_blockX ?_ | refine E_blockO rfl ?_ | refine qs rfl rfl rfl rfl rfl rfl ?_
          | ((try refine qg rfl rfl rfl ?_); first | refine qv rfl (qp rfl) rfl rfl ?_ | refine qv rfl (rr_load1 TyC.ty rfl (at_blk (i := 0) rfl rfl)) rfl rfl ?_ | refine qv rfl (rr_load1 TyC.ty rfl (h4 _)) rfl rfl ?_ | refine qv rfl (rr_idx1 Und.eq TyC.ty rfl rfl hm) rfl rfl ?_ | refine qv rfl (rr_load1 TyC.ty rfl (hbit2 _)) rfl rfl ?_ | refine qv rfl (qlen Und.eq rfl) rfl rfl ?_ | refine qv rfl (qfld FldC.fld rfl rfl) rfl rfl ?_ | refine qv rfl (rr_lss rfl rfl (qT (by omega))) rfl rfl ?_ | refine qv rfl (rr_lss rfl rfl (qF (by omega))) rfl rfl ?_ | refine qv rfl (rr_eql rfl rfl (qT (by omega))) rfl rfl ?_ | refine qv rfl (rr_eql rfl rfl (qF (by omega))) rfl rfl ?_ | refine qv rfl (rr_add64 rfl rfl (by omega) (by omega) rfl) rfl rfl ?_ | refine qv rfl (rr_not rfl rfl) rfl rfl ?_))
        refine E_pick [] (by decide) rfl ?_
        exact E_round (j + 1) ⟨by omega, j2⟩ (by omega) (by repeat' (first | exact True.intro | refine And.intro rfl ?_)) rfl
    · have c2 : xq = 1 := by omega
      rw [if_pos c2, Bool.true_and] at j2
      repeat (first
        | refine qv rfl (qp rfl) rfl rfl ?_ | refine TL_nil ?_ | refine T_seq ?_ | refine T_region ?_ | refine qcT rfl ?_ | refine qcF rfl ?_ | refine T_skip ?_
        | refine T_exit ?_ | refine T_ret ?_ | refine T_block ?_ | refine E_then ?_ | refine E_thenX ?_ | refine E_thenR ?_ | refine E_blockN ?_
        | refine E_blockR ?_ | refine E_blockX ?_ | refine E_blockO rfl ?_ | refine qs rfl rfl rfl rfl rfl rfl ?_
        | ((try refine qg rfl rfl rfl ?_); first | refine qv rfl (qp rfl) rfl rfl ?_ | refine qv rfl (rr_idxc Und.eq TyC.ty rfl rfl c7) rfl rfl ?_ | refine qv rfl (rr_loadN TyC.ty rfl rfl (hat _)) rfl rfl ?_ | refine qv rfl (qlen Und.eq rfl) rfl rfl ?_ | refine qv rfl (qfld FldC.fld rfl rfl) rfl rfl ?_ | refine qv rfl (rr_lss rfl rfl (qT (by omega))) rfl rfl ?_ | refine qv rfl (rr_lss rfl rfl (qF (by omega))) rfl rfl ?_ | refine qv rfl (rr_eql rfl rfl (qT (by omega))) rfl rfl ?_ | refine qv rfl (rr_eql rfl rfl (qF (by omega))) rfl rfl ?_ | refine qv rfl (rr_add64 rfl rfl (by omega) (by omega) rfl) rfl rfl ?_ | refine qv rfl (rr_not rfl rfl) rfl rfl ?_))
      refine TL_new rfl fun g5 => ?_
      refine TL_storeB (i := 0) rfl rfl rfl rfl rfl rfl ?_
      conv => arg 8; simp only [zA, zB, zC, zD, zE, zF, zG, zH, zI, rowS, ret, id_eq]
      repeat (first
        | refine qv rfl (qp rfl) rfl rfl ?_ | refine TL_nil ?_ | refine T_seq ?_ | refine T_region ?_ | refine qcT rfl ?_ | refine qcF rfl ?_ | refine T_skip ?_
        | refine T_exit ?_ | refine T_ret ?_ | refine T_block ?_ | refine E_then ?_ | refine E_thenX ?_ | refine E_thenR ?_ | refine E_blockN ?_
        | refine E_blockR ?_ | refine E_blockX ?_ | refine E_blockO rfl ?_ | refine qs rfl rfl rfl rfl rfl rfl ?_
        | ((try refine qg rfl rfl rfl ?_); first | refine qv rfl (qp rfl) rfl rfl ?_ | refine qv rfl (rr_load1 TyC.ty rfl (at_blk (i := 0) rfl rfl)) rfl rfl ?_ | refine qv rfl (qlen Und.eq rfl) rfl rfl ?_ | refine qv rfl (qfld FldC.fld rfl rfl) rfl rfl ?_ | refine qv rfl (rr_lss rfl rfl (qT (by omega))) rfl rfl ?_ | refine qv rfl (rr_lss rfl rfl (qF (by omega))) rfl rfl ?_ | refine qv rfl (rr_eql rfl rfl (qT (by omega))) rfl rfl ?_ | refine qv rfl (rr_eql rfl rfl (qF (by omega))) rfl rfl ?_ | refine qv rfl (rr_add64 rfl rfl (by omega) (by omega) rfl) rfl rfl ?_ | refine qv rfl (rr_not rfl rfl) rfl rfl ?_))
      refine E_pick [] (by decide) rfl ?_
      exact E_round (j + 1) ⟨by omega, j2⟩ (by omega) (by repeat' (first | exact True.intro | refine And.intro rfl ?_)) rfl
  · rw [List.drop_of_length_le (by omega)] at j2
    rw [j2]
    repeat (first
      | refine qv rfl (qp rfl) rfl rfl ?_ | refine TL_nil ?_ | refine T_seq ?_ | refine T_region ?_ | refine qcT rfl ?_ | refine qcF rfl ?_ | refine T_skip ?_
      | refine T_exit ?_ | refine T_ret ?_ | refine T_block ?_ | refine E_then ?_ | refine E_thenX ?_ | refine E_thenR ?_ | refine E_blockN ?_
      | refine E_blockR ?_ | refine E_blockX ?_ | refine E_blockO rfl ?_ | refine qs rfl rfl rfl rfl rfl rfl ?_
      | ((try refine qg rfl rfl rfl ?_); first | refine qv rfl (qp rfl) rfl rfl ?_ | refine qv rfl (qlen Und.eq rfl) rfl rfl ?_ | refine qv rfl (qfld FldC.fld rfl rfl) rfl rfl ?_ | refine qv rfl (rr_lss rfl rfl (qT (by omega))) rfl rfl ?_ | refine qv rfl (rr_lss rfl rfl (qF (by omega))) rfl rfl ?_ | refine qv rfl (rr_eql rfl rfl (qT (by omega))) rfl rfl ?_ | refine qv rfl (rr_eql rfl rfl (qF (by omega))) rfl rfl ?_ | refine qv rfl (rr_add64 rfl rfl (by omega) (by omega) rfl) rfl rfl ?_ | refine qv rfl (rr_not rfl rfl) rfl rfl ?_))
    exact E_ret1 rfl rfl fun w hm => hm.ret
set_option maxHeartbeats 8000000 in
theorem opens_calls (gc gm gO n gM cM : Nat) (t : Int) (vp vw vE vF vW vR vb : Value) (word : List Int) (c : Chart) (Bd : Nat) (O : Nat → Nat → Bool) (M : List Bool) (body : List Sym) (frm : Nat) (w : World) (h : ChR w gc gm t (n : Int) vp vw word c Bd) (hO : BitsR w gO n (word.length + 1) O) (hM : Sl w (vRow n gM cM) M.length (M.map .bool)) (hn : n = M.length) (hs : Sl w vb body.length (body.flatMap symC)) (hx : ∀ x ∈ body, x.1 = 1 ∨ (x.1 = 2 ∧ 0 ≤ x.2 ∧ x.2 < (n : Int))) (hok : ∀ x ∈ body, kit.okI64 x.2) (hf : frm ≤ word.length) (hw : word.length ≤ 20)
    (h5 : ∃ b1 n1 c1 b2 n2 c2 b3 n3 c3 b4 n4 c4, vE = .slice b1 n1 c1 ∧ vF = .slice b2 n2 c2 ∧ vW = .slice b3 n3 c3 ∧ vR = .slice b4 n4 c4) :
    Calls Try.prog 40 #[.pointer (some ⟨gc, 0, none⟩), facV vE vF vW vR (vRow n gM cM), rowsV n gO, vb, .int .i64 (frm : Int)] w (Meets (ret (.bool (opensF (oneF c word) O M word.length frm body))) w) := by
  have hmd := fun g6 w' (hg : Gr w w') hh => made_calls g6 n gM cM vE vF vW vR vb M body w' hh (hM.gr hg) hn (hs.gr hg) hx h5
  have hone := fun x a' b' w' (hg : Gr w w') => one_calls gc gm t (n : Int) vp vw word c Bd x a' b' w' (h.gr hg)
  obtain ⟨b1, n1, c1, b2, n2, c2, b3, n3, c3, b4, n4, c4, rfl, rfl, rfl, rfl⟩ := h5
  have h3 : ∀ (L : List Own), At w L ⟨gc, 3, none⟩ vw := fun L => at_old (by rw [cell_of_row w gc 3 _ _ _ h.cell]; rfl)
  obtain ⟨gs, hgs⟩ := hO.ex
  obtain ⟨bw, cw, rfl, _, _, _⟩ := h.word
  obtain ⟨bb, cb, rfl, hb1, hb2, hb3⟩ := hs
  unfold maxLen at hb2
  clear h hO
  unfold opensF
  generalize oneF c word = o at *
  refine enter (args := [.pointer (some ⟨gc, 0, none⟩), facV (.slice b1 n1 c1) (.slice b2 n2 c2) (.slice b3 n3 c3) (.slice b4 n4 c4) (vRow n gM cM), rowsV n gO, .slice bb body.length cb, .int .i64 (frm : Int)]) (n := 106) Try.func40 rfl rfl rfl ?_
  refine T_seq (T_region (TL_box rfl rfl rfl fun g6 => ?_))
  repeat (first
    | refine qv rfl (qp rfl) rfl rfl ?_ | refine TL_nil ?_ | refine T_seq ?_ | refine T_region ?_ | refine qcT rfl ?_ | refine qcF rfl ?_ | refine T_skip ?_
    | refine T_exit ?_ | refine T_ret ?_ | refine T_block ?_ | refine E_then ?_ | refine E_thenX ?_ | refine E_thenR ?_ | refine E_blockN ?_
    | refine E_blockR ?_ | refine E_blockX ?_ | refine E_blockO rfl ?_ | refine qs rfl rfl rfl rfl rfl rfl ?_
    | ((try refine qg rfl rfl rfl ?_); first | refine qv rfl (qp rfl) rfl rfl ?_ | refine qv rfl (rr_load1 TyC.ty rfl (h3 _)) rfl rfl ?_ | refine qv rfl (rr_func rfl rfl) rfl rfl ?_ | refine qv rfl (qlen Und.eq rfl) rfl rfl ?_ | refine qv rfl (qfld FldC.fld rfl rfl) rfl rfl ?_ | refine qv rfl (rr_not rfl rfl) rfl rfl ?_ | refine qv rfl (rr_nilc rfl) rfl rfl ?_ | refine qv rfl (rr_lss rfl rfl (qT (by omega))) rfl rfl ?_ | refine qv rfl (rr_lss rfl rfl (qF (by omega))) rfl rfl ?_ | refine qv rfl (rr_leq rfl rfl (qT (by omega))) rfl rfl ?_ | refine qv rfl (rr_leq rfl rfl (qF (by omega))) rfl rfl ?_ | refine qv rfl (rr_add64 rfl rfl (by omega) (by omega) rfl) rfl rfl ?_ | refine qv rfl (rr_gtr rfl rfl (qT (by omega))) rfl rfl ?_ | refine qv rfl (rr_gtr rfl rfl (qF (by omega))) rfl rfl ?_ | refine qv rfl (rr_eql rfl rfl (qT (by omega))) rfl rfl ?_ | refine qv rfl (rr_eql rfl rfl (qF (by omega))) rfl rfl ?_))
  refine TL_call (he1c EntersC.en rfl rfl) (fun w hm => hmd g6 w hm.below (hm.get (i := 0) rfl)) rfl rfl rfl ?_
  intro _ _
  clear hmd
  conv => arg 8; simp only [zA, zB, zC, zD, zE, zF, zG, zH, zI, rowS, ret, id_eq]
  cases hall : allF M body true
  · rw [if_neg (by decide)]
    repeat (first
      | refine qv rfl (qp rfl) rfl rfl ?_ | refine TL_nil ?_ | refine T_seq ?_ | refine T_region ?_ | refine qcT rfl ?_ | refine qcF rfl ?_ | refine T_skip ?_
      | refine T_exit ?_ | refine T_ret ?_ | refine T_block ?_ | refine E_then ?_ | refine E_thenX ?_ | refine E_thenR ?_ | refine E_blockN ?_
      | refine E_blockR ?_ | refine E_blockX ?_ | refine E_blockO rfl ?_ | refine qs rfl rfl rfl rfl rfl rfl ?_
      | ((try refine qg rfl rfl rfl ?_); first | refine qv rfl (qp rfl) rfl rfl ?_ | refine qv rfl (qlen Und.eq rfl) rfl rfl ?_ | refine qv rfl (qfld FldC.fld rfl rfl) rfl rfl ?_ | refine qv rfl (rr_not rfl rfl) rfl rfl ?_ | refine qv rfl (rr_nilc rfl) rfl rfl ?_ | refine qv rfl (rr_lss rfl rfl (qT (by omega))) rfl rfl ?_ | refine qv rfl (rr_lss rfl rfl (qF (by omega))) rfl rfl ?_ | refine qv rfl (rr_leq rfl rfl (qT (by omega))) rfl rfl ?_ | refine qv rfl (rr_leq rfl rfl (qF (by omega))) rfl rfl ?_ | refine qv rfl (rr_add64 rfl rfl (by omega) (by omega) rfl) rfl rfl ?_ | refine qv rfl (rr_gtr rfl rfl (qT (by omega))) rfl rfl ?_ | refine qv rfl (rr_gtr rfl rfl (qF (by omega))) rfl rfl ?_ | refine qv rfl (rr_eql rfl rfl (qT (by omega))) rfl rfl ?_ | refine qv rfl (rr_eql rfl rfl (qF (by omega))) rfl rfl ?_))
    exact E_ret1 rfl rfl fun w hm => hm.ret
  rw [if_pos rfl]
  repeat (first
    | refine qv rfl (qp rfl) rfl rfl ?_ | refine TL_nil ?_ | refine T_seq ?_ | refine T_region ?_ | refine qcT rfl ?_ | refine qcF rfl ?_ | refine T_skip ?_
    | refine T_exit ?_ | refine T_ret ?_ | refine T_block ?_ | refine E_then ?_ | refine E_thenX ?_ | refine E_thenR ?_ | refine E_blockN ?_
    | refine E_blockR ?_ | refine E_blockX ?_ | refine E_blockO rfl ?_ | refine qs rfl rfl rfl rfl rfl rfl ?_
    | ((try refine qg rfl rfl rfl ?_); first | refine qv rfl (qp rfl) rfl rfl ?_ | refine qv rfl (rr_add64 (r := ((word.length + 1 : Nat) : Int)) rfl rfl (by omega) (by omega) (by omega)) rfl rfl ?_ | refine qv rfl (qlen Und.eq rfl) rfl rfl ?_ | refine qv rfl (qfld FldC.fld rfl rfl) rfl rfl ?_ | refine qv rfl (rr_not rfl rfl) rfl rfl ?_ | refine qv rfl (rr_nilc rfl) rfl rfl ?_ | refine qv rfl (rr_lss rfl rfl (qT (by omega))) rfl rfl ?_ | refine qv rfl (rr_lss rfl rfl (qF (by omega))) rfl rfl ?_ | refine qv rfl (rr_leq rfl rfl (qT (by omega))) rfl rfl ?_ | refine qv rfl (rr_leq rfl rfl (qF (by omega))) rfl rfl ?_ | refine qv rfl (rr_add64 rfl rfl (by omega) (by omega) rfl) rfl rfl ?_ | refine qv rfl (rr_gtr rfl rfl (qT (by omega))) rfl rfl ?_ | refine qv rfl (rr_gtr rfl rfl (qF (by omega))) rfl rfl ?_ | refine qv rfl (rr_eql rfl rfl (qT (by omega))) rfl rfl ?_ | refine qv rfl (rr_eql rfl rfl (qF (by omega))) rfl rfl ?_))
  refine TL_makeA boolV false rfl rfl (by omega) (by omega) rfl fun g13 => ?_
  conv => arg 8; simp only [zA, zB, zC, zD, zE, zF, zG, zH, zI, rowS, ret, id_eq]
  repeat (first
    | refine qv rfl (qp rfl) rfl rfl ?_ | refine TL_nil ?_ | refine T_seq ?_ | refine T_region ?_ | refine qcT rfl ?_ | refine qcF rfl ?_ | refine T_skip ?_
    | refine T_exit ?_ | refine T_ret ?_ | refine T_block ?_ | refine E_then ?_ | refine E_thenX ?_ | refine E_thenR ?_ | refine E_blockN ?_
    | refine E_blockR ?_ | refine E_blockX ?_ | refine E_blockO rfl ?_ | refine qs rfl rfl rfl rfl rfl rfl ?_
    | ((try refine qg rfl rfl rfl ?_); first | refine qv rfl (qp rfl) rfl rfl ?_ | refine qv rfl (rr_idx1 Und.eq TyC.ty rfl rfl (show frm < word.length + 1 by omega)) rfl rfl ?_ | refine qv rfl (qlen Und.eq rfl) rfl rfl ?_ | refine qv rfl (qfld FldC.fld rfl rfl) rfl rfl ?_ | refine qv rfl (rr_not rfl rfl) rfl rfl ?_ | refine qv rfl (rr_nilc rfl) rfl rfl ?_ | refine qv rfl (rr_lss rfl rfl (qT (by omega))) rfl rfl ?_ | refine qv rfl (rr_lss rfl rfl (qF (by omega))) rfl rfl ?_ | refine qv rfl (rr_leq rfl rfl (qT (by omega))) rfl rfl ?_ | refine qv rfl (rr_leq rfl rfl (qF (by omega))) rfl rfl ?_ | refine qv rfl (rr_add64 rfl rfl (by omega) (by omega) rfl) rfl rfl ?_ | refine qv rfl (rr_gtr rfl rfl (qT (by omega))) rfl rfl ?_ | refine qv rfl (rr_gtr rfl rfl (qF (by omega))) rfl rfl ?_ | refine qv rfl (rr_eql rfl rfl (qT (by omega))) rfl rfl ?_ | refine qv rfl (rr_eql rfl rfl (qF (by omega))) rfl rfl ?_))
  refine TL_storeA (i := 1) (v := true) (fun b => decide (b = frm)) TyC.ty rfl rfl rfl rfl rfl (by omega) (fun i _ => by by_cases e : i = frm <;> simp [e]) ?_
  conv => arg 8; simp only [zA, zB, zC, zD, zE, zF, zG, zH, zI, rowS, ret, id_eq]
  repeat (first
    | refine qv rfl (qp rfl) rfl rfl ?_ | refine TL_nil ?_ | refine T_seq ?_ | refine T_region ?_ | refine qcT rfl ?_ | refine qcF rfl ?_ | refine T_skip ?_
    | refine T_exit ?_ | refine T_ret ?_ | refine T_block ?_ | refine E_then ?_ | refine E_thenX ?_ | refine E_thenR ?_ | refine E_blockN ?_
    | refine E_blockR ?_ | refine E_blockX ?_ | refine E_blockO rfl ?_ | refine qs rfl rfl rfl rfl rfl rfl ?_
    | ((try refine qg rfl rfl rfl ?_); first | refine qv rfl (qp rfl) rfl rfl ?_ | refine qv rfl (qlen Und.eq rfl) rfl rfl ?_ | refine qv rfl (qfld FldC.fld rfl rfl) rfl rfl ?_ | refine qv rfl (rr_not rfl rfl) rfl rfl ?_ | refine qv rfl (rr_nilc rfl) rfl rfl ?_ | refine qv rfl (rr_lss rfl rfl (qT (by omega))) rfl rfl ?_ | refine qv rfl (rr_lss rfl rfl (qF (by omega))) rfl rfl ?_ | refine qv rfl (rr_leq rfl rfl (qT (by omega))) rfl rfl ?_ | refine qv rfl (rr_leq rfl rfl (qF (by omega))) rfl rfl ?_ | refine qv rfl (rr_add64 rfl rfl (by omega) (by omega) rfl) rfl rfl ?_ | refine qv rfl (rr_gtr rfl rfl (qT (by omega))) rfl rfl ?_ | refine qv rfl (rr_gtr rfl rfl (qF (by omega))) rfl rfl ?_ | refine qv rfl (rr_eql rfl rfl (qT (by omega))) rfl rfl ?_ | refine qv rfl (rr_eql rfl rfl (qF (by omega))) rfl rfl ?_))
  generalize hres : opGo o O word.length frm body (fun b => decide (b = frm)) = res
  refine T_pick [1] (by decide) rfl ?_
  refine T_loop (ι := Nat × Nat × (Nat → Bool)) (fun (j, _, A) => j ≤ body.length ∧ res = opGo o O word.length frm (body.drop j) A) (fun (j, g, _) => [(0, .pointer (some ⟨gc, 0, none⟩)), (2, rowsV n gO), (4, .int .i64 (frm : Int)), (11, .int .i64 word.length), (13, .slice (some ⟨g, 0, none⟩) (word.length + 1) (word.length + 1)), (35, .slice bb body.length cb), (36, .int .i64 body.length), (37, .int .i64 (j : Int))])
    (fun (_, g, A) => [rowA 4 boolV g (word.length + 1) A]) (fun (j, _, _) => body.length - j) (0, g13, fun b => decide (b = frm)) ⟨Nat.zero_le _, by rw [List.drop_zero]; exact hres.symm⟩ (by repeat' (first | exact True.intro | refine And.intro rfl ?_)) rfl ?_
  clear hres
  rintro ⟨j, g, A⟩ ⟨i1, i2⟩
  dsimp only at i1 i2 ⊢
  by_cases c7 : j < body.length
  · obtain ⟨b, off, rfl, hr⟩ := hb3 (by omega)
    have hat := fun L => at_elL (W := w) (L := L) SymS_len (fun q x hq => at_old (hr q x hq)) c7
    have hxj := hx body[j] (List.getElem_mem c7)
    have hokj := hok body[j] (List.getElem_mem c7)
    rw [List.drop_eq_getElem_cons c7, opGo] at i2
    clear hr hx hok hb3
    generalize body[j] = x at *
    obtain ⟨xq, xm⟩ := x
    dsimp only at hxj hokj i2
    have hone := fun a b w' hg => hone (xq, xm) a b w' hg hokj
    cases hAn : A word.length
    · rw [hAn, if_neg (by decide)] at i2
      repeat (first
        | refine qv rfl (qp rfl) rfl rfl ?_ | refine TL_nil ?_ | refine T_seq ?_ | refine T_region ?_ | refine qcT rfl ?_ | refine qcF rfl ?_ | refine T_skip ?_
        | refine T_exit ?_ | refine T_ret ?_ | refine T_block ?_ | refine E_then ?_ | refine E_thenX ?_ | refine E_thenR ?_ | refine E_blockN ?_
        | refine E_blockR ?_ | refine E_blockX ?_ | refine E_blockO rfl ?_ | refine qs rfl rfl rfl rfl rfl rfl ?_
        | ((try refine qg rfl rfl rfl ?_); first | refine qv rfl (qp rfl) rfl rfl ?_ | refine qv rfl (rr_idxc Und.eq TyC.ty rfl rfl c7) rfl rfl ?_ | refine qv rfl (rr_loadN TyC.ty rfl rfl (hat _)) rfl rfl ?_ | refine qv rfl (qlen Und.eq rfl) rfl rfl ?_ | refine qv rfl (qfld FldC.fld rfl rfl) rfl rfl ?_ | refine qv rfl (rr_not rfl rfl) rfl rfl ?_ | refine qv rfl (rr_nilc rfl) rfl rfl ?_ | refine qv rfl (rr_lss rfl rfl (qT (by omega))) rfl rfl ?_ | refine qv rfl (rr_lss rfl rfl (qF (by omega))) rfl rfl ?_ | refine qv rfl (rr_leq rfl rfl (qT (by omega))) rfl rfl ?_ | refine qv rfl (rr_leq rfl rfl (qF (by omega))) rfl rfl ?_ | refine qv rfl (rr_add64 rfl rfl (by omega) (by omega) rfl) rfl rfl ?_ | refine qv rfl (rr_gtr rfl rfl (qT (by omega))) rfl rfl ?_ | refine qv rfl (rr_gtr rfl rfl (qF (by omega))) rfl rfl ?_ | refine qv rfl (rr_eql rfl rfl (qT (by omega))) rfl rfl ?_ | refine qv rfl (rr_eql rfl rfl (qF (by omega))) rfl rfl ?_))
      refine TL_new rfl fun g15 => ?_
      refine TL_storeB (i := 1) rfl rfl rfl rfl rfl rfl ?_
      conv => arg 8; simp only [zA, zB, zC, zD, zE, zF, zG, zH, zI, rowS, ret, id_eq]
      have hAt : ∀ L : List Own, L[0]? = some (rowA 4 boolV g (word.length + 1) A) → At w L ⟨g, 0 + word.length, none⟩ (.bool false) := fun L hL => by rw [← hAn]; exact at_rowA hL (by omega)
      repeat (first
        | refine qv rfl (qp rfl) rfl rfl ?_ | refine TL_nil ?_ | refine T_seq ?_ | refine T_region ?_ | refine qcT rfl ?_ | refine qcF rfl ?_ | refine T_skip ?_
        | refine T_exit ?_ | refine T_ret ?_ | refine T_block ?_ | refine E_then ?_ | refine E_thenX ?_ | refine E_thenR ?_ | refine E_blockN ?_
        | refine E_blockR ?_ | refine E_blockX ?_ | refine E_blockO rfl ?_ | refine qs rfl rfl rfl rfl rfl rfl ?_
        | ((try refine qg rfl rfl rfl ?_); first | refine qv rfl (qp rfl) rfl rfl ?_ | refine qv rfl (rr_idx1 Und.eq TyC.ty rfl rfl (show word.length < word.length + 1 by omega)) rfl rfl ?_ | refine qv rfl (rr_load1 TyC.ty rfl (hAt _ rfl)) rfl rfl ?_ | refine qv rfl (rr_add64 (r := ((word.length + 1 : Nat) : Int)) rfl rfl (by omega) (by omega) (by omega)) rfl rfl ?_ | refine qv rfl (qlen Und.eq rfl) rfl rfl ?_ | refine qv rfl (qfld FldC.fld rfl rfl) rfl rfl ?_ | refine qv rfl (rr_not rfl rfl) rfl rfl ?_ | refine qv rfl (rr_nilc rfl) rfl rfl ?_ | refine qv rfl (rr_lss rfl rfl (qT (by omega))) rfl rfl ?_ | refine qv rfl (rr_lss rfl rfl (qF (by omega))) rfl rfl ?_ | refine qv rfl (rr_leq rfl rfl (qT (by omega))) rfl rfl ?_ | refine qv rfl (rr_leq rfl rfl (qF (by omega))) rfl rfl ?_ | refine qv rfl (rr_add64 rfl rfl (by omega) (by omega) rfl) rfl rfl ?_ | refine qv rfl (rr_gtr rfl rfl (qT (by omega))) rfl rfl ?_ | refine qv rfl (rr_gtr rfl rfl (qF (by omega))) rfl rfl ?_ | refine qv rfl (rr_eql rfl rfl (qT (by omega))) rfl rfl ?_ | refine qv rfl (rr_eql rfl rfl (qF (by omega))) rfl rfl ?_))
      refine TL_makeA boolV false rfl rfl (by omega) (by omega) rfl fun g16 => ?_
      conv => arg 8; simp only [zA, zB, zC, zD, zE, zF, zG, zH, zI, rowS, ret, id_eq]
      repeat (first
        | refine qv rfl (qp rfl) rfl rfl ?_ | refine TL_nil ?_ | refine T_seq ?_ | refine T_region ?_ | refine qcT rfl ?_ | refine qcF rfl ?_ | refine T_skip ?_
        | refine T_exit ?_ | refine T_ret ?_ | refine T_block ?_ | refine E_then ?_ | refine E_thenX ?_ | refine E_thenR ?_ | refine E_blockN ?_
        | refine E_blockR ?_ | refine E_blockX ?_ | refine E_blockO rfl ?_ | refine qs rfl rfl rfl rfl rfl rfl ?_
        | ((try refine qg rfl rfl rfl ?_); first | refine qv rfl (qp rfl) rfl rfl ?_ | refine qv rfl (qlen Und.eq rfl) rfl rfl ?_ | refine qv rfl (qfld FldC.fld rfl rfl) rfl rfl ?_ | refine qv rfl (rr_not rfl rfl) rfl rfl ?_ | refine qv rfl (rr_nilc rfl) rfl rfl ?_ | refine qv rfl (rr_lss rfl rfl (qT (by omega))) rfl rfl ?_ | refine qv rfl (rr_lss rfl rfl (qF (by omega))) rfl rfl ?_ | refine qv rfl (rr_leq rfl rfl (qT (by omega))) rfl rfl ?_ | refine qv rfl (rr_leq rfl rfl (qF (by omega))) rfl rfl ?_ | refine qv rfl (rr_add64 rfl rfl (by omega) (by omega) rfl) rfl rfl ?_ | refine qv rfl (rr_gtr rfl rfl (qT (by omega))) rfl rfl ?_ | refine qv rfl (rr_gtr rfl rfl (qF (by omega))) rfl rfl ?_ | refine qv rfl (rr_eql rfl rfl (qT (by omega))) rfl rfl ?_ | refine qv rfl (rr_eql rfl rfl (qF (by omega))) rfl rfl ?_))
      refine T_loop (ι := Nat) (fun k => frm + k ≤ word.length + 1 ∧ (xq = 2 → anyO (fun a => A a && O xm.toNat a) frm k = false)) (fun k => [(0, .pointer (some ⟨gc, 0, none⟩)), (2, rowsV n gO), (4, .int .i64 (frm : Int)), (11, .int .i64 word.length), (13, .slice (some ⟨g, 0, none⟩) (word.length + 1) (word.length + 1)), (15, .pointer (some ⟨g15, 0, none⟩)), (16, .slice (some ⟨g16, 0, none⟩) (word.length + 1) (word.length + 1)), (17, .int .i64 ((frm + k : Nat) : Int)), (35, .slice (some ⟨b, off, none⟩) body.length cb), (36, .int .i64 body.length), (37, .int .i64 (j : Int))])
        (fun k => [rowA 4 boolV g (word.length + 1) A, blkO g15 (symC (xq, xm)).toArray 47, rowA 4 boolV g16 (word.length + 1) (partO o (xq, xm) frm A k)]) (fun k => word.length + 1 - (frm + k)) 0 ⟨by omega, fun _ => rfl⟩ (by repeat' (first | exact True.intro | refine And.intro rfl ?_)) rfl ?_
      rintro k ⟨k1, k2⟩
      by_cases c8 : frm + k ≤ word.length
      · have hAk0 : ∀ L : List Own, L[0]? = some (rowA 4 boolV g (word.length + 1) A) → At w L ⟨g, 0 + (frm + k), none⟩ (.bool (A (frm + k))) := fun L hL => at_rowA hL (by omega)
        cases hA : A (frm + k)
        · have hAk : ∀ L : List Own, L[0]? = some (rowA 4 boolV g (word.length + 1) A) → At w L ⟨g, 0 + (frm + k), none⟩ (.bool false) := by rw [← hA]; exact hAk0
          have hany : xq = 2 → anyO (fun a => A a && O xm.toNat a) frm (k + 1) = false := fun e => by rw [anyO, k2 e, hA]; rfl
          repeat (first
            | refine qv rfl (qp rfl) rfl rfl ?_ | refine TL_nil ?_ | refine T_seq ?_ | refine T_region ?_ | refine qcT rfl ?_ | refine qcF rfl ?_ | refine T_skip ?_
            | refine T_exit ?_ | refine T_ret ?_ | refine T_block ?_ | refine E_then ?_ | refine E_thenX ?_ | refine E_thenR ?_ | refine E_blockN ?_
            | refine E_blockR ?_ | refine E_blockX ?_ | refine E_blockO rfl ?_ | refine qs rfl rfl rfl rfl rfl rfl ?_
            | ((try refine qg rfl rfl rfl ?_); first | refine qv rfl (qp rfl) rfl rfl ?_ | refine qv rfl (rr_idx1 Und.eq TyC.ty rfl rfl (show frm + k < word.length + 1 by omega)) rfl rfl ?_ | refine qv rfl (rr_load1 TyC.ty rfl (hAk _ rfl)) rfl rfl ?_ | refine qv rfl (rr_load1 TyC.ty rfl (at_blk (i := 1) rfl rfl)) rfl rfl ?_ | refine qv rfl (qlen Und.eq rfl) rfl rfl ?_ | refine qv rfl (qfld FldC.fld rfl rfl) rfl rfl ?_ | refine qv rfl (rr_not rfl rfl) rfl rfl ?_ | refine qv rfl (rr_nilc rfl) rfl rfl ?_ | refine qv rfl (rr_lss rfl rfl (qT (by omega))) rfl rfl ?_ | refine qv rfl (rr_lss rfl rfl (qF (by omega))) rfl rfl ?_ | refine qv rfl (rr_leq rfl rfl (qT (by omega))) rfl rfl ?_ | refine qv rfl (rr_leq rfl rfl (qF (by omega))) rfl rfl ?_ | refine qv rfl (rr_add64 rfl rfl (by omega) (by omega) rfl) rfl rfl ?_ | refine qv rfl (rr_gtr rfl rfl (qT (by omega))) rfl rfl ?_ | refine qv rfl (rr_gtr rfl rfl (qF (by omega))) rfl rfl ?_ | refine qv rfl (rr_eql rfl rfl (qT (by omega))) rfl rfl ?_ | refine qv rfl (rr_eql rfl rfl (qF (by omega))) rfl rfl ?_))
          refine T_loop (ι := Unit) (fun _ => True) (fun _ => [(0, .pointer (some ⟨gc, 0, none⟩)), (2, rowsV n gO), (4, .int .i64 (frm : Int)), (11, .int .i64 word.length), (13, .slice (some ⟨g, 0, none⟩) (word.length + 1) (word.length + 1)), (15, .pointer (some ⟨g15, 0, none⟩)), (16, .slice (some ⟨g16, 0, none⟩) (word.length + 1) (word.length + 1)), (17, .int .i64 ((frm + k : Nat) : Int)), (18, .int .i64 (((frm + k : Nat) : Int) : Int)), (35, .slice (some ⟨b, off, none⟩) body.length cb), (36, .int .i64 body.length), (37, .int .i64 (j : Int))]) (fun _ => [rowA 4 boolV g (word.length + 1) A, blkO g15 (symC (xq, xm)).toArray 47, rowA 4 boolV g16 (word.length + 1) (partO o (xq, xm) frm A k)]) (fun _ => 0) () trivial (by repeat' (first | exact True.intro | refine And.intro rfl ?_)) rfl ?_
          intro _ _
          repeat (first
            | refine qv rfl (qp rfl) rfl rfl ?_ | refine TL_nil ?_ | refine T_seq ?_ | refine T_region ?_ | refine qcT rfl ?_ | refine qcF rfl ?_ | refine T_skip ?_
            | refine T_exit ?_ | refine T_ret ?_ | refine T_block ?_ | refine E_then ?_ | refine E_thenX ?_ | refine E_thenR ?_ | refine E_blockN ?_
            | refine E_blockR ?_ | refine E_blockX ?_ | refine E_blockO rfl ?_ | refine qs rfl rfl rfl rfl rfl rfl ?_
            | ((try refine qg rfl rfl rfl ?_); first | refine qv rfl (qp rfl) rfl rfl ?_ | refine qv rfl (rr_idx1 Und.eq TyC.ty rfl rfl (show frm + k < word.length + 1 by omega)) rfl rfl ?_ | refine qv rfl (rr_load1 TyC.ty rfl (hAk _ rfl)) rfl rfl ?_ | refine qv rfl (rr_load1 TyC.ty rfl (at_blk (i := 1) rfl rfl)) rfl rfl ?_ | refine qv rfl (rr_add64 (r := ((frm + (k + 1) : Nat) : Int)) rfl rfl (by omega) (by omega) (by omega)) rfl rfl ?_ | refine qv rfl (qlen Und.eq rfl) rfl rfl ?_ | refine qv rfl (qfld FldC.fld rfl rfl) rfl rfl ?_ | refine qv rfl (rr_not rfl rfl) rfl rfl ?_ | refine qv rfl (rr_nilc rfl) rfl rfl ?_ | refine qv rfl (rr_lss rfl rfl (qT (by omega))) rfl rfl ?_ | refine qv rfl (rr_lss rfl rfl (qF (by omega))) rfl rfl ?_ | refine qv rfl (rr_leq rfl rfl (qT (by omega))) rfl rfl ?_ | refine qv rfl (rr_leq rfl rfl (qF (by omega))) rfl rfl ?_ | refine qv rfl (rr_add64 rfl rfl (by omega) (by omega) rfl) rfl rfl ?_ | refine qv rfl (rr_gtr rfl rfl (qT (by omega))) rfl rfl ?_ | refine qv rfl (rr_gtr rfl rfl (qF (by omega))) rfl rfl ?_ | refine qv rfl (rr_eql rfl rfl (qT (by omega))) rfl rfl ?_ | refine qv rfl (rr_eql rfl rfl (qF (by omega))) rfl rfl ?_))
          exact E_round (k + 1) ⟨by omega, hany⟩ (by omega) (by repeat' (first | exact True.intro | refine And.intro rfl ?_)) (by rw [partO_none hA])
        · have hAk : ∀ L : List Own, L[0]? = some (rowA 4 boolV g (word.length + 1) A) → At w L ⟨g, 0 + (frm + k), none⟩ (.bool true) := by rw [← hA]; exact hAk0
          have hcase : (xq = 2 ∧ ∃ m : Nat, xm = m ∧ m < n) ∨ (xq = 1) := by
            rcases hxj with e | ⟨e1, e2, e3⟩
            · exact .inr e
            · exact .inl ⟨e1, xm.toNat, by omega, by omega⟩
          have hret : xq = 2 → O xm.toNat (frm + k) = true → res = true := fun e1 e2 => by
            rw [i2, if_pos ⟨e1, anyO_iff.2 ⟨k, by omega, by rw [hA, e2]; rfl⟩⟩]
          have hgo : (xq = 2 → O xm.toNat (frm + k) = false) → xq = 2 → anyO (fun a => A a && O xm.toNat a) frm (k + 1) = false := fun h e => by rw [anyO, k2 e, hA, h e]; rfl
          rcases hcase with ⟨rfl, m, rfl, hm⟩ | rfl
          · rw [Int.toNat_natCast] at hret hgo
            have hg1 : ∀ L, At w L ⟨gO, 0 + m, none⟩ (rowsV (word.length + 1) (gs m)) := fun L => at_old (hgs m hm).1
            have hg20 : ∀ L, At w L ⟨gs m, 0 + (frm + k), none⟩ (.bool (O m (frm + k))) := fun L => at_old ((hgs m hm).2 (frm + k) (by omega))
            cases hOm : O m (frm + k)
            · have hg2 : ∀ L, At w L ⟨gs m, 0 + (frm + k), none⟩ (.bool false) := by rw [← hOm]; exact hg20
              have hany := hgo fun _ => hOm
              repeat (first
                | refine qv rfl (qp rfl) rfl rfl ?_ | refine TL_nil ?_ | refine T_seq ?_ | refine T_region ?_ | refine qcT rfl ?_ | refine qcF rfl ?_ | refine T_skip ?_
                | refine T_exit ?_ | refine T_ret ?_ | refine T_block ?_ | refine E_then ?_ | refine E_thenX ?_ | refine E_thenR ?_ | refine E_blockN ?_
                | refine E_blockR ?_ | refine E_blockX ?_ | refine E_blockO rfl ?_ | refine qs rfl rfl rfl rfl rfl rfl ?_
                | ((try refine qg rfl rfl rfl ?_); first | refine qv rfl (qp rfl) rfl rfl ?_ | refine qv rfl (rr_idx1 Und.eq TyC.ty rfl rfl (show frm + k < word.length + 1 by omega)) rfl rfl ?_ | refine qv rfl (rr_load1 TyC.ty rfl (hAk _ rfl)) rfl rfl ?_ | refine qv rfl (rr_load1 TyC.ty rfl (at_blk (i := 1) rfl rfl)) rfl rfl ?_ | refine qv rfl (rr_idx1 Und.eq TyC.ty rfl rfl hm) rfl rfl ?_ | refine qv rfl (rr_load1 TyC.ty rfl (hg1 _)) rfl rfl ?_ | refine qv rfl (rr_load1 TyC.ty rfl (hg2 _)) rfl rfl ?_ | refine qv rfl (qlen Und.eq rfl) rfl rfl ?_ | refine qv rfl (qfld FldC.fld rfl rfl) rfl rfl ?_ | refine qv rfl (rr_not rfl rfl) rfl rfl ?_ | refine qv rfl (rr_nilc rfl) rfl rfl ?_ | refine qv rfl (rr_lss rfl rfl (qT (by omega))) rfl rfl ?_ | refine qv rfl (rr_lss rfl rfl (qF (by omega))) rfl rfl ?_ | refine qv rfl (rr_leq rfl rfl (qT (by omega))) rfl rfl ?_ | refine qv rfl (rr_leq rfl rfl (qF (by omega))) rfl rfl ?_ | refine qv rfl (rr_add64 rfl rfl (by omega) (by omega) rfl) rfl rfl ?_ | refine qv rfl (rr_gtr rfl rfl (qT (by omega))) rfl rfl ?_ | refine qv rfl (rr_gtr rfl rfl (qF (by omega))) rfl rfl ?_ | refine qv rfl (rr_eql rfl rfl (qT (by omega))) rfl rfl ?_ | refine qv rfl (rr_eql rfl rfl (qF (by omega))) rfl rfl ?_))
              rw [← mixO_0 k]
              refine T_loop (ι := Nat) (fun b' => frm + k ≤ b' ∧ b' ≤ word.length + 1) (fun b' => [(0, .pointer (some ⟨gc, 0, none⟩)), (2, rowsV n gO), (4, .int .i64 (frm : Int)), (11, .int .i64 word.length), (13, .slice (some ⟨g, 0, none⟩) (word.length + 1) (word.length + 1)), (15, .pointer (some ⟨g15, 0, none⟩)), (16, .slice (some ⟨g16, 0, none⟩) (word.length + 1) (word.length + 1)), (17, .int .i64 ((frm + k : Nat) : Int)), (18, .int .i64 (b' : Int)), (35, .slice (some ⟨b, off, none⟩) body.length cb), (36, .int .i64 body.length), (37, .int .i64 (j : Int))]) (fun b' => [rowA 4 boolV g (word.length + 1) A, blkO g15 (symC (2, ((m : Nat) : Int))).toArray 47, rowA 4 boolV g16 (word.length + 1) (mixO o (2, ((m : Nat) : Int)) frm A k b')]) (fun b' => word.length + 1 - b') (frm + k) ⟨Nat.le_refl _, by omega⟩ (by repeat' (first | exact True.intro | refine And.intro rfl ?_)) rfl ?_
              rintro b' ⟨b1', b2'⟩
              by_cases c9 : b' ≤ word.length
              · have hone := fun w' hg => hone (frm + k) b' w' hg b1' c9 hw
                have hnx0 : ∀ L : List Own, L[2]? = some (rowA 4 boolV g16 (word.length + 1) (mixO o (2, ((m : Nat) : Int)) frm A k b')) → At w L ⟨g16, 0 + b', none⟩ (.bool (partO o (2, ((m : Nat) : Int)) frm A k b')) := fun L hL => by rw [← mixO_at]; exact at_rowA hL (by omega)
                cases hp : partO o (2, ((m : Nat) : Int)) frm A k b'
                · have hnx : ∀ L : List Own, L[2]? = some (rowA 4 boolV g16 (word.length + 1) (mixO o (2, ((m : Nat) : Int)) frm A k b')) → At w L ⟨g16, 0 + b', none⟩ (.bool false) := by rw [← hp]; exact hnx0
                  by_cases hps : 0 < o (2, ((m : Nat) : Int)) (frm + k) b'
                  · repeat (first
                      | refine qv rfl (qp rfl) rfl rfl ?_ | refine TL_nil ?_ | refine T_seq ?_ | refine T_region ?_ | refine qcT rfl ?_ | refine qcF rfl ?_ | refine T_skip ?_
                      | refine T_exit ?_ | refine T_ret ?_ | refine T_block ?_ | refine E_then ?_ | refine E_thenX ?_ | refine E_thenR ?_ | refine E_blockN ?_
                      | refine E_blockR ?_ | refine E_blockX ?_ | refine E_blockO rfl ?_ | refine qs rfl rfl rfl rfl rfl rfl ?_
                      | ((try refine qg rfl rfl rfl ?_); first | refine qv rfl (qp rfl) rfl rfl ?_ | refine qv rfl (rr_idx1 Und.eq TyC.ty rfl rfl (show b' < word.length + 1 by omega)) rfl rfl ?_ | refine qv rfl (rr_load1 TyC.ty rfl (hnx _ rfl)) rfl rfl ?_ | refine qv rfl (rr_idx1 Und.eq TyC.ty rfl rfl (show frm + k < word.length + 1 by omega)) rfl rfl ?_ | refine qv rfl (rr_load1 TyC.ty rfl (hAk _ rfl)) rfl rfl ?_ | refine qv rfl (rr_loadB (i := 1) TyC.ty rfl rfl rfl) rfl rfl ?_ | refine qv rfl (qlen Und.eq rfl) rfl rfl ?_ | refine qv rfl (qfld FldC.fld rfl rfl) rfl rfl ?_ | refine qv rfl (rr_not rfl rfl) rfl rfl ?_ | refine qv rfl (rr_nilc rfl) rfl rfl ?_ | refine qv rfl (rr_lss rfl rfl (qT (by omega))) rfl rfl ?_ | refine qv rfl (rr_lss rfl rfl (qF (by omega))) rfl rfl ?_ | refine qv rfl (rr_leq rfl rfl (qT (by omega))) rfl rfl ?_ | refine qv rfl (rr_leq rfl rfl (qF (by omega))) rfl rfl ?_ | refine qv rfl (rr_add64 rfl rfl (by omega) (by omega) rfl) rfl rfl ?_ | refine qv rfl (rr_gtr rfl rfl (qT (by omega))) rfl rfl ?_ | refine qv rfl (rr_gtr rfl rfl (qF (by omega))) rfl rfl ?_ | refine qv rfl (rr_eql rfl rfl (qT (by omega))) rfl rfl ?_ | refine qv rfl (rr_eql rfl rfl (qF (by omega))) rfl rfl ?_))
                    refine TL_gcall (he4 EntersC.en rfl rfl rfl rfl rfl) (fun w hm => hone _ hm.below) rfl rfl rfl rfl rfl ?_
                    intro _ _
                    conv => arg 8; simp only [zA, zB, zC, zD, zE, zF, zG, zH, zI, rowS, ret, id_eq]
                    repeat (first
                      | refine qv rfl (qp rfl) rfl rfl ?_ | refine TL_nil ?_ | refine T_seq ?_ | refine T_region ?_ | refine qcT rfl ?_ | refine qcF rfl ?_ | refine T_skip ?_
                      | refine T_exit ?_ | refine T_ret ?_ | refine T_block ?_ | refine E_then ?_ | refine E_thenX ?_ | refine E_thenR ?_ | refine E_blockN ?_
                      | refine E_blockR ?_ | refine E_blockX ?_ | refine E_blockO rfl ?_ | refine qs rfl rfl rfl rfl rfl rfl ?_
                      | ((try refine qg rfl rfl rfl ?_); first | refine qv rfl (qp rfl) rfl rfl ?_ | refine qv rfl (rr_idx1 Und.eq TyC.ty rfl rfl (show b' < word.length + 1 by omega)) rfl rfl ?_ | refine qv rfl (rr_load1 TyC.ty rfl (hnx _ rfl)) rfl rfl ?_ | refine qv rfl (rr_idx1 Und.eq TyC.ty rfl rfl (show frm + k < word.length + 1 by omega)) rfl rfl ?_ | refine qv rfl (rr_load1 TyC.ty rfl (hAk _ rfl)) rfl rfl ?_ | refine qv rfl (rr_loadB (i := 1) TyC.ty rfl rfl rfl) rfl rfl ?_ | refine qv rfl (qlen Und.eq rfl) rfl rfl ?_ | refine qv rfl (qfld FldC.fld rfl rfl) rfl rfl ?_ | refine qv rfl (rr_not rfl rfl) rfl rfl ?_ | refine qv rfl (rr_nilc rfl) rfl rfl ?_ | refine qv rfl (rr_lss rfl rfl (qT (by omega))) rfl rfl ?_ | refine qv rfl (rr_lss rfl rfl (qF (by omega))) rfl rfl ?_ | refine qv rfl (rr_leq rfl rfl (qT (by omega))) rfl rfl ?_ | refine qv rfl (rr_leq rfl rfl (qF (by omega))) rfl rfl ?_ | refine qv rfl (rr_add64 rfl rfl (by omega) (by omega) rfl) rfl rfl ?_ | refine qv rfl (rr_gtr rfl rfl (qT (by omega))) rfl rfl ?_ | refine qv rfl (rr_gtr rfl rfl (qF (by omega))) rfl rfl ?_ | refine qv rfl (rr_eql rfl rfl (qT (by omega))) rfl rfl ?_ | refine qv rfl (rr_eql rfl rfl (qF (by omega))) rfl rfl ?_))
                    refine TL_storeA (i := 2) (v := true) (mixO o (2, ((m : Nat) : Int)) frm A k (b' + 1)) TyC.ty rfl rfl rfl rfl rfl (by omega) (fun i _ => by rw [mixO_step hA b1', hp, decide_eq_true hps, Bool.false_or]) ?_
                    conv => arg 8; simp only [zA, zB, zC, zD, zE, zF, zG, zH, zI, rowS, ret, id_eq]
                    repeat (first
                      | refine qv rfl (qp rfl) rfl rfl ?_ | refine TL_nil ?_ | refine T_seq ?_ | refine T_region ?_ | refine qcT rfl ?_ | refine qcF rfl ?_ | refine T_skip ?_
                      | refine T_exit ?_ | refine T_ret ?_ | refine T_block ?_ | refine E_then ?_ | refine E_thenX ?_ | refine E_thenR ?_ | refine E_blockN ?_
                      | refine E_blockR ?_ | refine E_blockX ?_ | refine E_blockO rfl ?_ | refine qs rfl rfl rfl rfl rfl rfl ?_
                      | ((try refine qg rfl rfl rfl ?_); first | refine qv rfl (qp rfl) rfl rfl ?_ | refine qv rfl (rr_add64 (r := ((b' + 1 : Nat) : Int)) rfl rfl (by omega) (by omega) (by omega)) rfl rfl ?_ | refine qv rfl (qlen Und.eq rfl) rfl rfl ?_ | refine qv rfl (qfld FldC.fld rfl rfl) rfl rfl ?_ | refine qv rfl (rr_not rfl rfl) rfl rfl ?_ | refine qv rfl (rr_nilc rfl) rfl rfl ?_ | refine qv rfl (rr_lss rfl rfl (qT (by omega))) rfl rfl ?_ | refine qv rfl (rr_lss rfl rfl (qF (by omega))) rfl rfl ?_ | refine qv rfl (rr_leq rfl rfl (qT (by omega))) rfl rfl ?_ | refine qv rfl (rr_leq rfl rfl (qF (by omega))) rfl rfl ?_ | refine qv rfl (rr_add64 rfl rfl (by omega) (by omega) rfl) rfl rfl ?_ | refine qv rfl (rr_gtr rfl rfl (qT (by omega))) rfl rfl ?_ | refine qv rfl (rr_gtr rfl rfl (qF (by omega))) rfl rfl ?_ | refine qv rfl (rr_eql rfl rfl (qT (by omega))) rfl rfl ?_ | refine qv rfl (rr_eql rfl rfl (qF (by omega))) rfl rfl ?_))
                    exact E_round (b' + 1) ⟨by omega, by omega⟩ (by omega) (by repeat' (first | exact True.intro | refine And.intro rfl ?_)) rfl
                  · repeat (first
                      | refine qv rfl (qp rfl) rfl rfl ?_ | refine TL_nil ?_ | refine T_seq ?_ | refine T_region ?_ | refine qcT rfl ?_ | refine qcF rfl ?_ | refine T_skip ?_
                      | refine T_exit ?_ | refine T_ret ?_ | refine T_block ?_ | refine E_then ?_ | refine E_thenX ?_ | refine E_thenR ?_ | refine E_blockN ?_
                      | refine E_blockR ?_ | refine E_blockX ?_ | refine E_blockO rfl ?_ | refine qs rfl rfl rfl rfl rfl rfl ?_
                      | ((try refine qg rfl rfl rfl ?_); first | refine qv rfl (qp rfl) rfl rfl ?_ | refine qv rfl (rr_idx1 Und.eq TyC.ty rfl rfl (show b' < word.length + 1 by omega)) rfl rfl ?_ | refine qv rfl (rr_load1 TyC.ty rfl (hnx _ rfl)) rfl rfl ?_ | refine qv rfl (rr_idx1 Und.eq TyC.ty rfl rfl (show frm + k < word.length + 1 by omega)) rfl rfl ?_ | refine qv rfl (rr_load1 TyC.ty rfl (hAk _ rfl)) rfl rfl ?_ | refine qv rfl (rr_loadB (i := 1) TyC.ty rfl rfl rfl) rfl rfl ?_ | refine qv rfl (qlen Und.eq rfl) rfl rfl ?_ | refine qv rfl (qfld FldC.fld rfl rfl) rfl rfl ?_ | refine qv rfl (rr_not rfl rfl) rfl rfl ?_ | refine qv rfl (rr_nilc rfl) rfl rfl ?_ | refine qv rfl (rr_lss rfl rfl (qT (by omega))) rfl rfl ?_ | refine qv rfl (rr_lss rfl rfl (qF (by omega))) rfl rfl ?_ | refine qv rfl (rr_leq rfl rfl (qT (by omega))) rfl rfl ?_ | refine qv rfl (rr_leq rfl rfl (qF (by omega))) rfl rfl ?_ | refine qv rfl (rr_add64 rfl rfl (by omega) (by omega) rfl) rfl rfl ?_ | refine qv rfl (rr_gtr rfl rfl (qT (by omega))) rfl rfl ?_ | refine qv rfl (rr_gtr rfl rfl (qF (by omega))) rfl rfl ?_ | refine qv rfl (rr_eql rfl rfl (qT (by omega))) rfl rfl ?_ | refine qv rfl (rr_eql rfl rfl (qF (by omega))) rfl rfl ?_))
                    refine TL_gcall (he4 EntersC.en rfl rfl rfl rfl rfl) (fun w hm => hone _ hm.below) rfl rfl rfl rfl rfl ?_
                    intro _ _
                    conv => arg 8; simp only [zA, zB, zC, zD, zE, zF, zG, zH, zI, rowS, ret, id_eq]
                    repeat (first
                      | refine qv rfl (qp rfl) rfl rfl ?_ | refine TL_nil ?_ | refine T_seq ?_ | refine T_region ?_ | refine qcT rfl ?_ | refine qcF rfl ?_ | refine T_skip ?_
                      | refine T_exit ?_ | refine T_ret ?_ | refine T_block ?_ | refine E_then ?_ | refine E_thenX ?_ | refine E_thenR ?_ | refine E_blockN ?_
                      | refine E_blockR ?_ | refine E_blockX ?_ | refine E_blockO rfl ?_ | refine qs rfl rfl rfl rfl rfl rfl ?_
                      | ((try refine qg rfl rfl rfl ?_); first | refine qv rfl (qp rfl) rfl rfl ?_ | refine qv rfl (rr_idx1 Und.eq TyC.ty rfl rfl (show b' < word.length + 1 by omega)) rfl rfl ?_ | refine qv rfl (rr_load1 TyC.ty rfl (hnx _ rfl)) rfl rfl ?_ | refine qv rfl (rr_idx1 Und.eq TyC.ty rfl rfl (show frm + k < word.length + 1 by omega)) rfl rfl ?_ | refine qv rfl (rr_load1 TyC.ty rfl (hAk _ rfl)) rfl rfl ?_ | refine qv rfl (rr_loadB (i := 1) TyC.ty rfl rfl rfl) rfl rfl ?_ | refine qv rfl (qlen Und.eq rfl) rfl rfl ?_ | refine qv rfl (qfld FldC.fld rfl rfl) rfl rfl ?_ | refine qv rfl (rr_not rfl rfl) rfl rfl ?_ | refine qv rfl (rr_nilc rfl) rfl rfl ?_ | refine qv rfl (rr_lss rfl rfl (qT (by omega))) rfl rfl ?_ | refine qv rfl (rr_lss rfl rfl (qF (by omega))) rfl rfl ?_ | refine qv rfl (rr_leq rfl rfl (qT (by omega))) rfl rfl ?_ | refine qv rfl (rr_leq rfl rfl (qF (by omega))) rfl rfl ?_ | refine qv rfl (rr_add64 rfl rfl (by omega) (by omega) rfl) rfl rfl ?_ | refine qv rfl (rr_gtr rfl rfl (qT (by omega))) rfl rfl ?_ | refine qv rfl (rr_gtr rfl rfl (qF (by omega))) rfl rfl ?_ | refine qv rfl (rr_eql rfl rfl (qT (by omega))) rfl rfl ?_ | refine qv rfl (rr_eql rfl rfl (qF (by omega))) rfl rfl ?_))
                    refine TL_storeA (i := 2) (v := false) (mixO o (2, ((m : Nat) : Int)) frm A k (b' + 1)) TyC.ty rfl rfl rfl rfl rfl (by omega) (fun i _ => by rw [mixO_step hA b1', hp, decide_eq_false hps, Bool.false_or]) ?_
                    conv => arg 8; simp only [zA, zB, zC, zD, zE, zF, zG, zH, zI, rowS, ret, id_eq]
                    repeat (first
                      | refine qv rfl (qp rfl) rfl rfl ?_ | refine TL_nil ?_ | refine T_seq ?_ | refine T_region ?_ | refine qcT rfl ?_ | refine qcF rfl ?_ | refine T_skip ?_
                      | refine T_exit ?_ | refine T_ret ?_ | refine T_block ?_ | refine E_then ?_ | refine E_thenX ?_ | refine E_thenR ?_ | refine E_blockN ?_
                      | refine E_blockR ?_ | refine E_blockX ?_ | refine E_blockO rfl ?_ | refine qs rfl rfl rfl rfl rfl rfl ?_
                      | ((try refine qg rfl rfl rfl ?_); first | refine qv rfl (qp rfl) rfl rfl ?_ | refine qv rfl (rr_add64 (r := ((b' + 1 : Nat) : Int)) rfl rfl (by omega) (by omega) (by omega)) rfl rfl ?_ | refine qv rfl (qlen Und.eq rfl) rfl rfl ?_ | refine qv rfl (qfld FldC.fld rfl rfl) rfl rfl ?_ | refine qv rfl (rr_not rfl rfl) rfl rfl ?_ | refine qv rfl (rr_nilc rfl) rfl rfl ?_ | refine qv rfl (rr_lss rfl rfl (qT (by omega))) rfl rfl ?_ | refine qv rfl (rr_lss rfl rfl (qF (by omega))) rfl rfl ?_ | refine qv rfl (rr_leq rfl rfl (qT (by omega))) rfl rfl ?_ | refine qv rfl (rr_leq rfl rfl (qF (by omega))) rfl rfl ?_ | refine qv rfl (rr_add64 rfl rfl (by omega) (by omega) rfl) rfl rfl ?_ | refine qv rfl (rr_gtr rfl rfl (qT (by omega))) rfl rfl ?_ | refine qv rfl (rr_gtr rfl rfl (qF (by omega))) rfl rfl ?_ | refine qv rfl (rr_eql rfl rfl (qT (by omega))) rfl rfl ?_ | refine qv rfl (rr_eql rfl rfl (qF (by omega))) rfl rfl ?_))
                    exact E_round (b' + 1) ⟨by omega, by omega⟩ (by omega) (by repeat' (first | exact True.intro | refine And.intro rfl ?_)) rfl
                · have hnx : ∀ L : List Own, L[2]? = some (rowA 4 boolV g16 (word.length + 1) (mixO o (2, ((m : Nat) : Int)) frm A k b')) → At w L ⟨g16, 0 + b', none⟩ (.bool true) := by rw [← hp]; exact hnx0
                  repeat (first
                    | refine qv rfl (qp rfl) rfl rfl ?_ | refine TL_nil ?_ | refine T_seq ?_ | refine T_region ?_ | refine qcT rfl ?_ | refine qcF rfl ?_ | refine T_skip ?_
                    | refine T_exit ?_ | refine T_ret ?_ | refine T_block ?_ | refine E_then ?_ | refine E_thenX ?_ | refine E_thenR ?_ | refine E_blockN ?_
                    | refine E_blockR ?_ | refine E_blockX ?_ | refine E_blockO rfl ?_ | refine qs rfl rfl rfl rfl rfl rfl ?_
                    | ((try refine qg rfl rfl rfl ?_); first | refine qv rfl (qp rfl) rfl rfl ?_ | refine qv rfl (rr_idx1 Und.eq TyC.ty rfl rfl (show b' < word.length + 1 by omega)) rfl rfl ?_ | refine qv rfl (rr_load1 TyC.ty rfl (hnx _ rfl)) rfl rfl ?_ | refine qv rfl (rr_idx1 Und.eq TyC.ty rfl rfl (show frm + k < word.length + 1 by omega)) rfl rfl ?_ | refine qv rfl (rr_load1 TyC.ty rfl (hAk _ rfl)) rfl rfl ?_ | refine qv rfl (rr_loadB (i := 1) TyC.ty rfl rfl rfl) rfl rfl ?_ | refine qv rfl (qlen Und.eq rfl) rfl rfl ?_ | refine qv rfl (qfld FldC.fld rfl rfl) rfl rfl ?_ | refine qv rfl (rr_not rfl rfl) rfl rfl ?_ | refine qv rfl (rr_nilc rfl) rfl rfl ?_ | refine qv rfl (rr_lss rfl rfl (qT (by omega))) rfl rfl ?_ | refine qv rfl (rr_lss rfl rfl (qF (by omega))) rfl rfl ?_ | refine qv rfl (rr_leq rfl rfl (qT (by omega))) rfl rfl ?_ | refine qv rfl (rr_leq rfl rfl (qF (by omega))) rfl rfl ?_ | refine qv rfl (rr_add64 rfl rfl (by omega) (by omega) rfl) rfl rfl ?_ | refine qv rfl (rr_gtr rfl rfl (qT (by omega))) rfl rfl ?_ | refine qv rfl (rr_gtr rfl rfl (qF (by omega))) rfl rfl ?_ | refine qv rfl (rr_eql rfl rfl (qT (by omega))) rfl rfl ?_ | refine qv rfl (rr_eql rfl rfl (qF (by omega))) rfl rfl ?_))
                  refine TL_storeA (i := 2) (v := true) (mixO o (2, ((m : Nat) : Int)) frm A k (b' + 1)) TyC.ty rfl rfl rfl rfl rfl (by omega) (fun i _ => by rw [mixO_step hA b1', hp, Bool.true_or]) ?_
                  conv => arg 8; simp only [zA, zB, zC, zD, zE, zF, zG, zH, zI, rowS, ret, id_eq]
                  repeat (first
                    | refine qv rfl (qp rfl) rfl rfl ?_ | refine TL_nil ?_ | refine T_seq ?_ | refine T_region ?_ | refine qcT rfl ?_ | refine qcF rfl ?_ | refine T_skip ?_
                    | refine T_exit ?_ | refine T_ret ?_ | refine T_block ?_ | refine E_then ?_ | refine E_thenX ?_ | refine E_thenR ?_ | refine E_blockN ?_
                    | refine E_blockR ?_ | refine E_blockX ?_ | refine E_blockO rfl ?_ | refine qs rfl rfl rfl rfl rfl rfl ?_
                    | ((try refine qg rfl rfl rfl ?_); first | refine qv rfl (qp rfl) rfl rfl ?_ | refine qv rfl (rr_add64 (r := ((b' + 1 : Nat) : Int)) rfl rfl (by omega) (by omega) (by omega)) rfl rfl ?_ | refine qv rfl (qlen Und.eq rfl) rfl rfl ?_ | refine qv rfl (qfld FldC.fld rfl rfl) rfl rfl ?_ | refine qv rfl (rr_not rfl rfl) rfl rfl ?_ | refine qv rfl (rr_nilc rfl) rfl rfl ?_ | refine qv rfl (rr_lss rfl rfl (qT (by omega))) rfl rfl ?_ | refine qv rfl (rr_lss rfl rfl (qF (by omega))) rfl rfl ?_ | refine qv rfl (rr_leq rfl rfl (qT (by omega))) rfl rfl ?_ | refine qv rfl (rr_leq rfl rfl (qF (by omega))) rfl rfl ?_ | refine qv rfl (rr_add64 rfl rfl (by omega) (by omega) rfl) rfl rfl ?_ | refine qv rfl (rr_gtr rfl rfl (qT (by omega))) rfl rfl ?_ | refine qv rfl (rr_gtr rfl rfl (qF (by omega))) rfl rfl ?_ | refine qv rfl (rr_eql rfl rfl (qT (by omega))) rfl rfl ?_ | refine qv rfl (rr_eql rfl rfl (qF (by omega))) rfl rfl ?_))
                  exact E_round (b' + 1) ⟨by omega, by omega⟩ (by omega) (by repeat' (first | exact True.intro | refine And.intro rfl ?_)) rfl
              · repeat (first
                  | refine qv rfl (qp rfl) rfl rfl ?_ | refine TL_nil ?_ | refine T_seq ?_ | refine T_region ?_ | refine qcT rfl ?_ | refine qcF rfl ?_ | refine T_skip ?_
                  | refine T_exit ?_ | refine T_ret ?_ | refine T_block ?_ | refine E_then ?_ | refine E_thenX ?_ | refine E_thenR ?_ | refine E_blockN ?_
                  | refine E_blockR ?_ | refine E_blockX ?_ | refine E_blockO rfl ?_ | refine qs rfl rfl rfl rfl rfl rfl ?_
                  | ((try refine qg rfl rfl rfl ?_); first | refine qv rfl (qp rfl) rfl rfl ?_ | refine qv rfl (rr_add64 (r := ((frm + (k + 1) : Nat) : Int)) rfl rfl (by omega) (by omega) (by omega)) rfl rfl ?_ | refine qv rfl (qlen Und.eq rfl) rfl rfl ?_ | refine qv rfl (qfld FldC.fld rfl rfl) rfl rfl ?_ | refine qv rfl (rr_not rfl rfl) rfl rfl ?_ | refine qv rfl (rr_nilc rfl) rfl rfl ?_ | refine qv rfl (rr_lss rfl rfl (qT (by omega))) rfl rfl ?_ | refine qv rfl (rr_lss rfl rfl (qF (by omega))) rfl rfl ?_ | refine qv rfl (rr_leq rfl rfl (qT (by omega))) rfl rfl ?_ | refine qv rfl (rr_leq rfl rfl (qF (by omega))) rfl rfl ?_ | refine qv rfl (rr_add64 rfl rfl (by omega) (by omega) rfl) rfl rfl ?_ | refine qv rfl (rr_gtr rfl rfl (qT (by omega))) rfl rfl ?_ | refine qv rfl (rr_gtr rfl rfl (qF (by omega))) rfl rfl ?_ | refine qv rfl (rr_eql rfl rfl (qT (by omega))) rfl rfl ?_ | refine qv rfl (rr_eql rfl rfl (qF (by omega))) rfl rfl ?_))
                exact E_round (k + 1) ⟨by omega, hany⟩ (by omega) (by repeat' (first | exact True.intro | refine And.intro rfl ?_)) (by rw [rowA_congr (f' := partO o (2, ((m : Nat) : Int)) frm A (k + 1)) fun i hi => mixO_end (by omega)])
            · have hg2 : ∀ L, At w L ⟨gs m, 0 + (frm + k), none⟩ (.bool true) := by rw [← hOm]; exact hg20
              have := hret rfl hOm
              subst this
              repeat (first
                | refine qv rfl (qp rfl) rfl rfl ?_ | refine TL_nil ?_ | refine T_seq ?_ | refine T_region ?_ | refine qcT rfl ?_ | refine qcF rfl ?_ | refine T_skip ?_
                | refine T_exit ?_ | refine T_ret ?_ | refine T_block ?_ | refine E_then ?_ | refine E_thenX ?_ | refine E_thenR ?_ | refine E_blockN ?_
                | refine E_blockR ?_ | refine E_blockX ?_ | refine E_blockO rfl ?_ | refine qs rfl rfl rfl rfl rfl rfl ?_
                | ((try refine qg rfl rfl rfl ?_); first | refine qv rfl (qp rfl) rfl rfl ?_ | refine qv rfl (rr_idx1 Und.eq TyC.ty rfl rfl (show frm + k < word.length + 1 by omega)) rfl rfl ?_ | refine qv rfl (rr_load1 TyC.ty rfl (hAk _ rfl)) rfl rfl ?_ | refine qv rfl (rr_load1 TyC.ty rfl (at_blk (i := 1) rfl rfl)) rfl rfl ?_ | refine qv rfl (rr_idx1 Und.eq TyC.ty rfl rfl hm) rfl rfl ?_ | refine qv rfl (rr_load1 TyC.ty rfl (hg1 _)) rfl rfl ?_ | refine qv rfl (rr_load1 TyC.ty rfl (hg2 _)) rfl rfl ?_ | refine qv rfl (qlen Und.eq rfl) rfl rfl ?_ | refine qv rfl (qfld FldC.fld rfl rfl) rfl rfl ?_ | refine qv rfl (rr_not rfl rfl) rfl rfl ?_ | refine qv rfl (rr_nilc rfl) rfl rfl ?_ | refine qv rfl (rr_lss rfl rfl (qT (by omega))) rfl rfl ?_ | refine qv rfl (rr_lss rfl rfl (qF (by omega))) rfl rfl ?_ | refine qv rfl (rr_leq rfl rfl (qT (by omega))) rfl rfl ?_ | refine qv rfl (rr_leq rfl rfl (qF (by omega))) rfl rfl ?_ | refine qv rfl (rr_add64 rfl rfl (by omega) (by omega) rfl) rfl rfl ?_ | refine qv rfl (rr_gtr rfl rfl (qT (by omega))) rfl rfl ?_ | refine qv rfl (rr_gtr rfl rfl (qF (by omega))) rfl rfl ?_ | refine qv rfl (rr_eql rfl rfl (qT (by omega))) rfl rfl ?_ | refine qv rfl (rr_eql rfl rfl (qF (by omega))) rfl rfl ?_))
              exact E_ret1 rfl rfl fun w hm => hm.ret
          · have hany := hgo fun e => by cases e
            repeat (first
              | refine qv rfl (qp rfl) rfl rfl ?_ | refine TL_nil ?_ | refine T_seq ?_ | refine T_region ?_ | refine qcT rfl ?_ | refine qcF rfl ?_ | refine T_skip ?_
              | refine T_exit ?_ | refine T_ret ?_ | refine T_block ?_ | refine E_then ?_ | refine E_thenX ?_ | refine E_thenR ?_ | refine E_blockN ?_
              | refine E_blockR ?_ | refine E_blockX ?_ | refine E_blockO rfl ?_ | refine qs rfl rfl rfl rfl rfl rfl ?_
              | ((try refine qg rfl rfl rfl ?_); first | refine qv rfl (qp rfl) rfl rfl ?_ | refine qv rfl (rr_idx1 Und.eq TyC.ty rfl rfl (show frm + k < word.length + 1 by omega)) rfl rfl ?_ | refine qv rfl (rr_load1 TyC.ty rfl (hAk _ rfl)) rfl rfl ?_ | refine qv rfl (rr_load1 TyC.ty rfl (at_blk (i := 1) rfl rfl)) rfl rfl ?_ | refine qv rfl (qlen Und.eq rfl) rfl rfl ?_ | refine qv rfl (qfld FldC.fld rfl rfl) rfl rfl ?_ | refine qv rfl (rr_not rfl rfl) rfl rfl ?_ | refine qv rfl (rr_nilc rfl) rfl rfl ?_ | refine qv rfl (rr_lss rfl rfl (qT (by omega))) rfl rfl ?_ | refine qv rfl (rr_lss rfl rfl (qF (by omega))) rfl rfl ?_ | refine qv rfl (rr_leq rfl rfl (qT (by omega))) rfl rfl ?_ | refine qv rfl (rr_leq rfl rfl (qF (by omega))) rfl rfl ?_ | refine qv rfl (rr_add64 rfl rfl (by omega) (by omega) rfl) rfl rfl ?_ | refine qv rfl (rr_gtr rfl rfl (qT (by omega))) rfl rfl ?_ | refine qv rfl (rr_gtr rfl rfl (qF (by omega))) rfl rfl ?_ | refine qv rfl (rr_eql rfl rfl (qT (by omega))) rfl rfl ?_ | refine qv rfl (rr_eql rfl rfl (qF (by omega))) rfl rfl ?_))
            rw [← mixO_0 k]
            refine T_loop (ι := Nat) (fun b' => frm + k ≤ b' ∧ b' ≤ word.length + 1) (fun b' => [(0, .pointer (some ⟨gc, 0, none⟩)), (2, rowsV n gO), (4, .int .i64 (frm : Int)), (11, .int .i64 word.length), (13, .slice (some ⟨g, 0, none⟩) (word.length + 1) (word.length + 1)), (15, .pointer (some ⟨g15, 0, none⟩)), (16, .slice (some ⟨g16, 0, none⟩) (word.length + 1) (word.length + 1)), (17, .int .i64 ((frm + k : Nat) : Int)), (18, .int .i64 (b' : Int)), (35, .slice (some ⟨b, off, none⟩) body.length cb), (36, .int .i64 body.length), (37, .int .i64 (j : Int))]) (fun b' => [rowA 4 boolV g (word.length + 1) A, blkO g15 (symC (1, xm)).toArray 47, rowA 4 boolV g16 (word.length + 1) (mixO o (1, xm) frm A k b')]) (fun b' => word.length + 1 - b') (frm + k) ⟨Nat.le_refl _, by omega⟩ (by repeat' (first | exact True.intro | refine And.intro rfl ?_)) rfl ?_
            rintro b' ⟨b1', b2'⟩
            by_cases c9 : b' ≤ word.length
            · have hone := fun w' hg => hone (frm + k) b' w' hg b1' c9 hw
              have hnx0 : ∀ L : List Own, L[2]? = some (rowA 4 boolV g16 (word.length + 1) (mixO o (1, xm) frm A k b')) → At w L ⟨g16, 0 + b', none⟩ (.bool (partO o (1, xm) frm A k b')) := fun L hL => by rw [← mixO_at]; exact at_rowA hL (by omega)
              cases hp : partO o (1, xm) frm A k b'
              · have hnx : ∀ L : List Own, L[2]? = some (rowA 4 boolV g16 (word.length + 1) (mixO o (1, xm) frm A k b')) → At w L ⟨g16, 0 + b', none⟩ (.bool false) := by rw [← hp]; exact hnx0
                by_cases hps : 0 < o (1, xm) (frm + k) b'
                · repeat (first
                    | refine qv rfl (qp rfl) rfl rfl ?_ | refine TL_nil ?_ | refine T_seq ?_ | refine T_region ?_ | refine qcT rfl ?_ | refine qcF rfl ?_ | refine T_skip ?_
                    | refine T_exit ?_ | refine T_ret ?_ | refine T_block ?_ | refine E_then ?_ | refine E_thenX ?_ | refine E_thenR ?_ | refine E_blockN ?_
                    | refine E_blockR ?_ | refine E_blockX ?_ | refine E_blockO rfl ?_ | refine qs rfl rfl rfl rfl rfl rfl ?_
                    | ((try refine qg rfl rfl rfl ?_); first | refine qv rfl (qp rfl) rfl rfl ?_ | refine qv rfl (rr_idx1 Und.eq TyC.ty rfl rfl (show b' < word.length + 1 by omega)) rfl rfl ?_ | refine qv rfl (rr_load1 TyC.ty rfl (hnx _ rfl)) rfl rfl ?_ | refine qv rfl (rr_idx1 Und.eq TyC.ty rfl rfl (show frm + k < word.length + 1 by omega)) rfl rfl ?_ | refine qv rfl (rr_load1 TyC.ty rfl (hAk _ rfl)) rfl rfl ?_ | refine qv rfl (rr_loadB (i := 1) TyC.ty rfl rfl rfl) rfl rfl ?_ | refine qv rfl (qlen Und.eq rfl) rfl rfl ?_ | refine qv rfl (qfld FldC.fld rfl rfl) rfl rfl ?_ | refine qv rfl (rr_not rfl rfl) rfl rfl ?_ | refine qv rfl (rr_nilc rfl) rfl rfl ?_ | refine qv rfl (rr_lss rfl rfl (qT (by omega))) rfl rfl ?_ | refine qv rfl (rr_lss rfl rfl (qF (by omega))) rfl rfl ?_ | refine qv rfl (rr_leq rfl rfl (qT (by omega))) rfl rfl ?_ | refine qv rfl (rr_leq rfl rfl (qF (by omega))) rfl rfl ?_ | refine qv rfl (rr_add64 rfl rfl (by omega) (by omega) rfl) rfl rfl ?_ | refine qv rfl (rr_gtr rfl rfl (qT (by omega))) rfl rfl ?_ | refine qv rfl (rr_gtr rfl rfl (qF (by omega))) rfl rfl ?_ | refine qv rfl (rr_eql rfl rfl (qT (by omega))) rfl rfl ?_ | refine qv rfl (rr_eql rfl rfl (qF (by omega))) rfl rfl ?_))
                  refine TL_gcall (he4 EntersC.en rfl rfl rfl rfl rfl) (fun w hm => hone _ hm.below) rfl rfl rfl rfl rfl ?_
                  intro _ _
                  conv => arg 8; simp only [zA, zB, zC, zD, zE, zF, zG, zH, zI, rowS, ret, id_eq]
                  repeat (first
                    | refine qv rfl (qp rfl) rfl rfl ?_ | refine TL_nil ?_ | refine T_seq ?_ | refine T_region ?_ | refine qcT rfl ?_ | refine qcF rfl ?_ | refine T_skip ?_
                    | refine T_exit ?_ | refine T_ret ?_ | refine T_block ?_ | refine E_then ?_ | refine E_thenX ?_ | refine E_thenR ?_ | refine E_blockN ?_
                    | refine E_blockR ?_ | refine E_blockX ?_ | refine E_blockO rfl ?_ | refine qs rfl rfl rfl rfl rfl rfl ?_
                    | ((try refine qg rfl rfl rfl ?_); first | refine qv rfl (qp rfl) rfl rfl ?_ | refine qv rfl (rr_idx1 Und.eq TyC.ty rfl rfl (show b' < word.length + 1 by omega)) rfl rfl ?_ | refine qv rfl (rr_load1 TyC.ty rfl (hnx _ rfl)) rfl rfl ?_ | refine qv rfl (rr_idx1 Und.eq TyC.ty rfl rfl (show frm + k < word.length + 1 by omega)) rfl rfl ?_ | refine qv rfl (rr_load1 TyC.ty rfl (hAk _ rfl)) rfl rfl ?_ | refine qv rfl (rr_loadB (i := 1) TyC.ty rfl rfl rfl) rfl rfl ?_ | refine qv rfl (qlen Und.eq rfl) rfl rfl ?_ | refine qv rfl (qfld FldC.fld rfl rfl) rfl rfl ?_ | refine qv rfl (rr_not rfl rfl) rfl rfl ?_ | refine qv rfl (rr_nilc rfl) rfl rfl ?_ | refine qv rfl (rr_lss rfl rfl (qT (by omega))) rfl rfl ?_ | refine qv rfl (rr_lss rfl rfl (qF (by omega))) rfl rfl ?_ | refine qv rfl (rr_leq rfl rfl (qT (by omega))) rfl rfl ?_ | refine qv rfl (rr_leq rfl rfl (qF (by omega))) rfl rfl ?_ | refine qv rfl (rr_add64 rfl rfl (by omega) (by omega) rfl) rfl rfl ?_ | refine qv rfl (rr_gtr rfl rfl (qT (by omega))) rfl rfl ?_ | refine qv rfl (rr_gtr rfl rfl (qF (by omega))) rfl rfl ?_ | refine qv rfl (rr_eql rfl rfl (qT (by omega))) rfl rfl ?_ | refine qv rfl (rr_eql rfl rfl (qF (by omega))) rfl rfl ?_))
                  refine TL_storeA (i := 2) (v := true) (mixO o (1, xm) frm A k (b' + 1)) TyC.ty rfl rfl rfl rfl rfl (by omega) (fun i _ => by rw [mixO_step hA b1', hp, decide_eq_true hps, Bool.false_or]) ?_
                  conv => arg 8; simp only [zA, zB, zC, zD, zE, zF, zG, zH, zI, rowS, ret, id_eq]
                  repeat (first
                    | refine qv rfl (qp rfl) rfl rfl ?_ | refine TL_nil ?_ | refine T_seq ?_ | refine T_region ?_ | refine qcT rfl ?_ | refine qcF rfl ?_ | refine T_skip ?_
                    | refine T_exit ?_ | refine T_ret ?_ | refine T_block ?_ | refine E_then ?_ | refine E_thenX ?_ | refine E_thenR ?_ | refine E_blockN ?_
                    | refine E_blockR ?_ | refine E_blockX ?_ | refine E_blockO rfl ?_ | refine qs rfl rfl rfl rfl rfl rfl ?_
                    | ((try refine qg rfl rfl rfl ?_); first | refine qv rfl (qp rfl) rfl rfl ?_ | refine qv rfl (rr_add64 (r := ((b' + 1 : Nat) : Int)) rfl rfl (by omega) (by omega) (by omega)) rfl rfl ?_ | refine qv rfl (qlen Und.eq rfl) rfl rfl ?_ | refine qv rfl (qfld FldC.fld rfl rfl) rfl rfl ?_ | refine qv rfl (rr_not rfl rfl) rfl rfl ?_ | refine qv rfl (rr_nilc rfl) rfl rfl ?_ | refine qv rfl (rr_lss rfl rfl (qT (by omega))) rfl rfl ?_ | refine qv rfl (rr_lss rfl rfl (qF (by omega))) rfl rfl ?_ | refine qv rfl (rr_leq rfl rfl (qT (by omega))) rfl rfl ?_ | refine qv rfl (rr_leq rfl rfl (qF (by omega))) rfl rfl ?_ | refine qv rfl (rr_add64 rfl rfl (by omega) (by omega) rfl) rfl rfl ?_ | refine qv rfl (rr_gtr rfl rfl (qT (by omega))) rfl rfl ?_ | refine qv rfl (rr_gtr rfl rfl (qF (by omega))) rfl rfl ?_ | refine qv rfl (rr_eql rfl rfl (qT (by omega))) rfl rfl ?_ | refine qv rfl (rr_eql rfl rfl (qF (by omega))) rfl rfl ?_))
                  exact E_round (b' + 1) ⟨by omega, by omega⟩ (by omega) (by repeat' (first | exact True.intro | refine And.intro rfl ?_)) rfl
                · repeat (first
                    | refine qv rfl (qp rfl) rfl rfl ?_ | refine TL_nil ?_ | refine T_seq ?_ | refine T_region ?_ | refine qcT rfl ?_ | refine qcF rfl ?_ | refine T_skip ?_
                    | refine T_exit ?_ | refine T_ret ?_ | refine T_block ?_ | refine E_then ?_ | refine E_thenX ?_ | refine E_thenR ?_ | refine E_blockN ?_
                    | refine E_blockR ?_ | refine E_blockX ?_ | refine E_blockO rfl ?_ | refine qs rfl rfl rfl rfl rfl rfl ?_
                    | ((try refine qg rfl rfl rfl ?_); first | refine qv rfl (qp rfl) rfl rfl ?_ | refine qv rfl (rr_idx1 Und.eq TyC.ty rfl rfl (show b' < word.length + 1 by omega)) rfl rfl ?_ | refine qv rfl (rr_load1 TyC.ty rfl (hnx _ rfl)) rfl rfl ?_ | refine qv rfl (rr_idx1 Und.eq TyC.ty rfl rfl (show frm + k < word.length + 1 by omega)) rfl rfl ?_ | refine qv rfl (rr_load1 TyC.ty rfl (hAk _ rfl)) rfl rfl ?_ | refine qv rfl (rr_loadB (i := 1) TyC.ty rfl rfl rfl) rfl rfl ?_ | refine qv rfl (qlen Und.eq rfl) rfl rfl ?_ | refine qv rfl (qfld FldC.fld rfl rfl) rfl rfl ?_ | refine qv rfl (rr_not rfl rfl) rfl rfl ?_ | refine qv rfl (rr_nilc rfl) rfl rfl ?_ | refine qv rfl (rr_lss rfl rfl (qT (by omega))) rfl rfl ?_ | refine qv rfl (rr_lss rfl rfl (qF (by omega))) rfl rfl ?_ | refine qv rfl (rr_leq rfl rfl (qT (by omega))) rfl rfl ?_ | refine qv rfl (rr_leq rfl rfl (qF (by omega))) rfl rfl ?_ | refine qv rfl (rr_add64 rfl rfl (by omega) (by omega) rfl) rfl rfl ?_ | refine qv rfl (rr_gtr rfl rfl (qT (by omega))) rfl rfl ?_ | refine qv rfl (rr_gtr rfl rfl (qF (by omega))) rfl rfl ?_ | refine qv rfl (rr_eql rfl rfl (qT (by omega))) rfl rfl ?_ | refine qv rfl (rr_eql rfl rfl (qF (by omega))) rfl rfl ?_))
                  refine TL_gcall (he4 EntersC.en rfl rfl rfl rfl rfl) (fun w hm => hone _ hm.below) rfl rfl rfl rfl rfl ?_
                  intro _ _
                  conv => arg 8; simp only [zA, zB, zC, zD, zE, zF, zG, zH, zI, rowS, ret, id_eq]
                  repeat (first
                    | refine qv rfl (qp rfl) rfl rfl ?_ | refine TL_nil ?_ | refine T_seq ?_ | refine T_region ?_ | refine qcT rfl ?_ | refine qcF rfl ?_ | refine T_skip ?_
                    | refine T_exit ?_ | refine T_ret ?_ | refine T_block ?_ | refine E_then ?_ | refine E_thenX ?_ | refine E_thenR ?_ | refine E_blockN ?_
                    | refine E_blockR ?_ | refine E_blockX ?_ | refine E_blockO rfl ?_ | refine qs rfl rfl rfl rfl rfl rfl ?_
                    | ((try refine qg rfl rfl rfl ?_); first | refine qv rfl (qp rfl) rfl rfl ?_ | refine qv rfl (rr_idx1 Und.eq TyC.ty rfl rfl (show b' < word.length + 1 by omega)) rfl rfl ?_ | refine qv rfl (rr_load1 TyC.ty rfl (hnx _ rfl)) rfl rfl ?_ | refine qv rfl (rr_idx1 Und.eq TyC.ty rfl rfl (show frm + k < word.length + 1 by omega)) rfl rfl ?_ | refine qv rfl (rr_load1 TyC.ty rfl (hAk _ rfl)) rfl rfl ?_ | refine qv rfl (rr_loadB (i := 1) TyC.ty rfl rfl rfl) rfl rfl ?_ | refine qv rfl (qlen Und.eq rfl) rfl rfl ?_ | refine qv rfl (qfld FldC.fld rfl rfl) rfl rfl ?_ | refine qv rfl (rr_not rfl rfl) rfl rfl ?_ | refine qv rfl (rr_nilc rfl) rfl rfl ?_ | refine qv rfl (rr_lss rfl rfl (qT (by omega))) rfl rfl ?_ | refine qv rfl (rr_lss rfl rfl (qF (by omega))) rfl rfl ?_ | refine qv rfl (rr_leq rfl rfl (qT (by omega))) rfl rfl ?_ | refine qv rfl (rr_leq rfl rfl (qF (by omega))) rfl rfl ?_ | refine qv rfl (rr_add64 rfl rfl (by omega) (by omega) rfl) rfl rfl ?_ | refine qv rfl (rr_gtr rfl rfl (qT (by omega))) rfl rfl ?_ | refine qv rfl (rr_gtr rfl rfl (qF (by omega))) rfl rfl ?_ | refine qv rfl (rr_eql rfl rfl (qT (by omega))) rfl rfl ?_ | refine qv rfl (rr_eql rfl rfl (qF (by omega))) rfl rfl ?_))
                  refine TL_storeA (i := 2) (v := false) (mixO o (1, xm) frm A k (b' + 1)) TyC.ty rfl rfl rfl rfl rfl (by omega) (fun i _ => by rw [mixO_step hA b1', hp, decide_eq_false hps, Bool.false_or]) ?_
                  conv => arg 8; simp only [zA, zB, zC, zD, zE, zF, zG, zH, zI, rowS, ret, id_eq]
                  repeat (first
                    | refine qv rfl (qp rfl) rfl rfl ?_ | refine TL_nil ?_ | refine T_seq ?_ | refine T_region ?_ | refine qcT rfl ?_ | refine qcF rfl ?_ | refine T_skip ?_
                    | refine T_exit ?_ | refine T_ret ?_ | refine T_block ?_ | refine E_then ?_ | refine E_thenX ?_ | refine E_thenR ?_ | refine E_blockN ?_
                    | refine E_blockR ?_ | refine E_blockX ?_ | refine E_blockO rfl ?_ | refine qs rfl rfl rfl rfl rfl rfl ?_
                    | ((try refine qg rfl rfl rfl ?_); first | refine qv rfl (qp rfl) rfl rfl ?_ | refine qv rfl (rr_add64 (r := ((b' + 1 : Nat) : Int)) rfl rfl (by omega) (by omega) (by omega)) rfl rfl ?_ | refine qv rfl (qlen Und.eq rfl) rfl rfl ?_ | refine qv rfl (qfld FldC.fld rfl rfl) rfl rfl ?_ | refine qv rfl (rr_not rfl rfl) rfl rfl ?_ | refine qv rfl (rr_nilc rfl) rfl rfl ?_ | refine qv rfl (rr_lss rfl rfl (qT (by omega))) rfl rfl ?_ | refine qv rfl (rr_lss rfl rfl (qF (by omega))) rfl rfl ?_ | refine qv rfl (rr_leq rfl rfl (qT (by omega))) rfl rfl ?_ | refine qv rfl (rr_leq rfl rfl (qF (by omega))) rfl rfl ?_ | refine qv rfl (rr_add64 rfl rfl (by omega) (by omega) rfl) rfl rfl ?_ | refine qv rfl (rr_gtr rfl rfl (qT (by omega))) rfl rfl ?_ | refine qv rfl (rr_gtr rfl rfl (qF (by omega))) rfl rfl ?_ | refine qv rfl (rr_eql rfl rfl (qT (by omega))) rfl rfl ?_ | refine qv rfl (rr_eql rfl rfl (qF (by omega))) rfl rfl ?_))
                  exact E_round (b' + 1) ⟨by omega, by omega⟩ (by omega) (by repeat' (first | exact True.intro | refine And.intro rfl ?_)) rfl
              · have hnx : ∀ L : List Own, L[2]? = some (rowA 4 boolV g16 (word.length + 1) (mixO o (1, xm) frm A k b')) → At w L ⟨g16, 0 + b', none⟩ (.bool true) := by rw [← hp]; exact hnx0
                repeat (first
                  | refine qv rfl (qp rfl) rfl rfl ?_ | refine TL_nil ?_ | refine T_seq ?_ | refine T_region ?_ | refine qcT rfl ?_ | refine qcF rfl ?_ | refine T_skip ?_
                  | refine T_exit ?_ | refine T_ret ?_ | refine T_block ?_ | refine E_then ?_ | refine E_thenX ?_ | refine E_thenR ?_ | refine E_blockN ?_
                  | refine E_blockR ?_ | refine E_blockX ?_ | refine E_blockO rfl ?_ | refine qs rfl rfl rfl rfl rfl rfl ?_
                  | ((try refine qg rfl rfl rfl ?_); first | refine qv rfl (qp rfl) rfl rfl ?_ | refine qv rfl (rr_idx1 Und.eq TyC.ty rfl rfl (show b' < word.length + 1 by omega)) rfl rfl ?_ | refine qv rfl (rr_load1 TyC.ty rfl (hnx _ rfl)) rfl rfl ?_ | refine qv rfl (rr_idx1 Und.eq TyC.ty rfl rfl (show frm + k < word.length + 1 by omega)) rfl rfl ?_ | refine qv rfl (rr_load1 TyC.ty rfl (hAk _ rfl)) rfl rfl ?_ | refine qv rfl (rr_loadB (i := 1) TyC.ty rfl rfl rfl) rfl rfl ?_ | refine qv rfl (qlen Und.eq rfl) rfl rfl ?_ | refine qv rfl (qfld FldC.fld rfl rfl) rfl rfl ?_ | refine qv rfl (rr_not rfl rfl) rfl rfl ?_ | refine qv rfl (rr_nilc rfl) rfl rfl ?_ | refine qv rfl (rr_lss rfl rfl (qT (by omega))) rfl rfl ?_ | refine qv rfl (rr_lss rfl rfl (qF (by omega))) rfl rfl ?_ | refine qv rfl (rr_leq rfl rfl (qT (by omega))) rfl rfl ?_ | refine qv rfl (rr_leq rfl rfl (qF (by omega))) rfl rfl ?_ | refine qv rfl (rr_add64 rfl rfl (by omega) (by omega) rfl) rfl rfl ?_ | refine qv rfl (rr_gtr rfl rfl (qT (by omega))) rfl rfl ?_ | refine qv rfl (rr_gtr rfl rfl (qF (by omega))) rfl rfl ?_ | refine qv rfl (rr_eql rfl rfl (qT (by omega))) rfl rfl ?_ | refine qv rfl (rr_eql rfl rfl (qF (by omega))) rfl rfl ?_))
                refine TL_storeA (i := 2) (v := true) (mixO o (1, xm) frm A k (b' + 1)) TyC.ty rfl rfl rfl rfl rfl (by omega) (fun i _ => by rw [mixO_step hA b1', hp, Bool.true_or]) ?_
                conv => arg 8; simp only [zA, zB, zC, zD, zE, zF, zG, zH, zI, rowS, ret, id_eq]
                repeat (first
                  | refine qv rfl (qp rfl) rfl rfl ?_ | refine TL_nil ?_ | refine T_seq ?_ | refine T_region ?_ | refine qcT rfl ?_ | refine qcF rfl ?_ | refine T_skip ?_
                  | refine T_exit ?_ | refine T_ret ?_ | refine T_block ?_ | refine E_then ?_ | refine E_thenX ?_ | refine E_thenR ?_ | refine E_blockN ?_
                  | refine E_blockR ?_ | refine E_blockX ?_ | refine E_blockO rfl ?_ | refine qs rfl rfl rfl rfl rfl rfl ?_
                  | ((try refine qg rfl rfl rfl ?_); first | refine qv rfl (qp rfl) rfl rfl ?_ | refine qv rfl (rr_add64 (r := ((b' + 1 : Nat) : Int)) rfl rfl (by omega) (by omega) (by omega)) rfl rfl ?_ | refine qv rfl (qlen Und.eq rfl) rfl rfl ?_ | refine qv rfl (qfld FldC.fld rfl rfl) rfl rfl ?_ | refine qv rfl (rr_not rfl rfl) rfl rfl ?_ | refine qv rfl (rr_nilc rfl) rfl rfl ?_ | refine qv rfl (rr_lss rfl rfl (qT (by omega))) rfl rfl ?_ | refine qv rfl (rr_lss rfl rfl (qF (by omega))) rfl rfl ?_ | refine qv rfl (rr_leq rfl rfl (qT (by omega))) rfl rfl ?_ | refine qv rfl (rr_leq rfl rfl (qF (by omega))) rfl rfl ?_ | refine qv rfl (rr_add64 rfl rfl (by omega) (by omega) rfl) rfl rfl ?_ | refine qv rfl (rr_gtr rfl rfl (qT (by omega))) rfl rfl ?_ | refine qv rfl (rr_gtr rfl rfl (qF (by omega))) rfl rfl ?_ | refine qv rfl (rr_eql rfl rfl (qT (by omega))) rfl rfl ?_ | refine qv rfl (rr_eql rfl rfl (qF (by omega))) rfl rfl ?_))
                exact E_round (b' + 1) ⟨by omega, by omega⟩ (by omega) (by repeat' (first | exact True.intro | refine And.intro rfl ?_)) rfl
            · repeat (first
                | refine qv rfl (qp rfl) rfl rfl ?_ | refine TL_nil ?_ | refine T_seq ?_ | refine T_region ?_ | refine qcT rfl ?_ | refine qcF rfl ?_ | refine T_skip ?_
                | refine T_exit ?_ | refine T_ret ?_ | refine T_block ?_ | refine E_then ?_ | refine E_thenX ?_ | refine E_thenR ?_ | refine E_blockN ?_
                | refine E_blockR ?_ | refine E_blockX ?_ | refine E_blockO rfl ?_ | refine qs rfl rfl rfl rfl rfl rfl ?_
                | ((try refine qg rfl rfl rfl ?_); first | refine qv rfl (qp rfl) rfl rfl ?_ | refine qv rfl (rr_add64 (r := ((frm + (k + 1) : Nat) : Int)) rfl rfl (by omega) (by omega) (by omega)) rfl rfl ?_ | refine qv rfl (qlen Und.eq rfl) rfl rfl ?_ | refine qv rfl (qfld FldC.fld rfl rfl) rfl rfl ?_ | refine qv rfl (rr_not rfl rfl) rfl rfl ?_ | refine qv rfl (rr_nilc rfl) rfl rfl ?_ | refine qv rfl (rr_lss rfl rfl (qT (by omega))) rfl rfl ?_ | refine qv rfl (rr_lss rfl rfl (qF (by omega))) rfl rfl ?_ | refine qv rfl (rr_leq rfl rfl (qT (by omega))) rfl rfl ?_ | refine qv rfl (rr_leq rfl rfl (qF (by omega))) rfl rfl ?_ | refine qv rfl (rr_add64 rfl rfl (by omega) (by omega) rfl) rfl rfl ?_ | refine qv rfl (rr_gtr rfl rfl (qT (by omega))) rfl rfl ?_ | refine qv rfl (rr_gtr rfl rfl (qF (by omega))) rfl rfl ?_ | refine qv rfl (rr_eql rfl rfl (qT (by omega))) rfl rfl ?_ | refine qv rfl (rr_eql rfl rfl (qF (by omega))) rfl rfl ?_))
              exact E_round (k + 1) ⟨by omega, hany⟩ (by omega) (by repeat' (first | exact True.intro | refine And.intro rfl ?_)) (by rw [rowA_congr (f' := partO o (1, xm) frm A (k + 1)) fun i hi => mixO_end (by omega)])
      · have hk : word.length + 1 - frm = k := by omega
        rw [hk, if_neg (fun h => by have := k2 h.1; rw [h.2] at this; cases this)] at i2
        repeat (first
          | refine qv rfl (qp rfl) rfl rfl ?_ | refine TL_nil ?_ | refine T_seq ?_ | refine T_region ?_ | refine qcT rfl ?_ | refine qcF rfl ?_ | refine T_skip ?_
          | refine T_exit ?_ | refine T_ret ?_ | refine T_block ?_ | refine E_then ?_ | refine E_thenX ?_ | refine E_thenR ?_ | refine E_blockN ?_
          | refine E_blockR ?_ | refine E_blockX ?_ | refine E_blockO rfl ?_ | refine qs rfl rfl rfl rfl rfl rfl ?_
          | ((try refine qg rfl rfl rfl ?_); first | refine qv rfl (qp rfl) rfl rfl ?_ | refine qv rfl (qlen Und.eq rfl) rfl rfl ?_ | refine qv rfl (qfld FldC.fld rfl rfl) rfl rfl ?_ | refine qv rfl (rr_not rfl rfl) rfl rfl ?_ | refine qv rfl (rr_nilc rfl) rfl rfl ?_ | refine qv rfl (rr_lss rfl rfl (qT (by omega))) rfl rfl ?_ | refine qv rfl (rr_lss rfl rfl (qF (by omega))) rfl rfl ?_ | refine qv rfl (rr_leq rfl rfl (qT (by omega))) rfl rfl ?_ | refine qv rfl (rr_leq rfl rfl (qF (by omega))) rfl rfl ?_ | refine qv rfl (rr_add64 rfl rfl (by omega) (by omega) rfl) rfl rfl ?_ | refine qv rfl (rr_gtr rfl rfl (qT (by omega))) rfl rfl ?_ | refine qv rfl (rr_gtr rfl rfl (qF (by omega))) rfl rfl ?_ | refine qv rfl (rr_eql rfl rfl (qT (by omega))) rfl rfl ?_ | refine qv rfl (rr_eql rfl rfl (qF (by omega))) rfl rfl ?_))
        refine E_pick [2] (by decide) rfl ?_
        exact E_round (j + 1, g16, partO o (xq, xm) frm A k) ⟨by omega, i2⟩ (by show body.length - (j + 1) < body.length - j; omega) (by repeat' (first | exact True.intro | refine And.intro rfl ?_)) rfl
    · rw [hAn, if_pos rfl] at i2
      subst i2
      have hAt : ∀ L : List Own, L[0]? = some (rowA 4 boolV g (word.length + 1) A) → At w L ⟨g, 0 + word.length, none⟩ (.bool true) := fun L hL => by rw [← hAn]; exact at_rowA hL (by omega)
      repeat (first
        | refine qv rfl (qp rfl) rfl rfl ?_ | refine TL_nil ?_ | refine T_seq ?_ | refine T_region ?_ | refine qcT rfl ?_ | refine qcF rfl ?_ | refine T_skip ?_
        | refine T_exit ?_ | refine T_ret ?_ | refine T_block ?_ | refine E_then ?_ | refine E_thenX ?_ | refine E_thenR ?_ | refine E_blockN ?_
        | refine E_blockR ?_ | refine E_blockX ?_ | refine E_blockO rfl ?_ | refine qs rfl rfl rfl rfl rfl rfl ?_
        | ((try refine qg rfl rfl rfl ?_); first | refine qv rfl (qp rfl) rfl rfl ?_ | refine qv rfl (rr_idxc Und.eq TyC.ty rfl rfl c7) rfl rfl ?_ | refine qv rfl (rr_loadN TyC.ty rfl rfl (hat _)) rfl rfl ?_ | refine qv rfl (qlen Und.eq rfl) rfl rfl ?_ | refine qv rfl (qfld FldC.fld rfl rfl) rfl rfl ?_ | refine qv rfl (rr_not rfl rfl) rfl rfl ?_ | refine qv rfl (rr_nilc rfl) rfl rfl ?_ | refine qv rfl (rr_lss rfl rfl (qT (by omega))) rfl rfl ?_ | refine qv rfl (rr_lss rfl rfl (qF (by omega))) rfl rfl ?_ | refine qv rfl (rr_leq rfl rfl (qT (by omega))) rfl rfl ?_ | refine qv rfl (rr_leq rfl rfl (qF (by omega))) rfl rfl ?_ | refine qv rfl (rr_add64 rfl rfl (by omega) (by omega) rfl) rfl rfl ?_ | refine qv rfl (rr_gtr rfl rfl (qT (by omega))) rfl rfl ?_ | refine qv rfl (rr_gtr rfl rfl (qF (by omega))) rfl rfl ?_ | refine qv rfl (rr_eql rfl rfl (qT (by omega))) rfl rfl ?_ | refine qv rfl (rr_eql rfl rfl (qF (by omega))) rfl rfl ?_))
      refine TL_new rfl fun g15 => ?_
      refine TL_storeB (i := 1) rfl rfl rfl rfl rfl rfl ?_
      conv => arg 8; simp only [zA, zB, zC, zD, zE, zF, zG, zH, zI, rowS, ret, id_eq]
      repeat (first
        | refine qv rfl (qp rfl) rfl rfl ?_ | refine TL_nil ?_ | refine T_seq ?_ | refine T_region ?_ | refine qcT rfl ?_ | refine qcF rfl ?_ | refine T_skip ?_
        | refine T_exit ?_ | refine T_ret ?_ | refine T_block ?_ | refine E_then ?_ | refine E_thenX ?_ | refine E_thenR ?_ | refine E_blockN ?_
        | refine E_blockR ?_ | refine E_blockX ?_ | refine E_blockO rfl ?_ | refine qs rfl rfl rfl rfl rfl rfl ?_
        | ((try refine qg rfl rfl rfl ?_); first | refine qv rfl (qp rfl) rfl rfl ?_ | refine qv rfl (rr_idx1 Und.eq TyC.ty rfl rfl (show word.length < word.length + 1 by omega)) rfl rfl ?_ | refine qv rfl (rr_load1 TyC.ty rfl (hAt _ rfl)) rfl rfl ?_ | refine qv rfl (qlen Und.eq rfl) rfl rfl ?_ | refine qv rfl (qfld FldC.fld rfl rfl) rfl rfl ?_ | refine qv rfl (rr_not rfl rfl) rfl rfl ?_ | refine qv rfl (rr_nilc rfl) rfl rfl ?_ | refine qv rfl (rr_lss rfl rfl (qT (by omega))) rfl rfl ?_ | refine qv rfl (rr_lss rfl rfl (qF (by omega))) rfl rfl ?_ | refine qv rfl (rr_leq rfl rfl (qT (by omega))) rfl rfl ?_ | refine qv rfl (rr_leq rfl rfl (qF (by omega))) rfl rfl ?_ | refine qv rfl (rr_add64 rfl rfl (by omega) (by omega) rfl) rfl rfl ?_ | refine qv rfl (rr_gtr rfl rfl (qT (by omega))) rfl rfl ?_ | refine qv rfl (rr_gtr rfl rfl (qF (by omega))) rfl rfl ?_ | refine qv rfl (rr_eql rfl rfl (qT (by omega))) rfl rfl ?_ | refine qv rfl (rr_eql rfl rfl (qF (by omega))) rfl rfl ?_))
      exact E_ret1 rfl rfl fun w hm => hm.ret
  · rw [List.drop_of_length_le (by omega), opGo] at i2
    subst i2
    have hAt := at_rowA (L := [rowA 4 boolV g (word.length + 1) A]) (W := w) (i := 0) rfl (show word.length < word.length + 1 by omega)
    repeat (first
      | refine qv rfl (qp rfl) rfl rfl ?_ | refine TL_nil ?_ | refine T_seq ?_ | refine T_region ?_ | refine qcT rfl ?_ | refine qcF rfl ?_ | refine T_skip ?_
      | refine T_exit ?_ | refine T_ret ?_ | refine T_block ?_ | refine E_then ?_ | refine E_thenX ?_ | refine E_thenR ?_ | refine E_blockN ?_
      | refine E_blockR ?_ | refine E_blockX ?_ | refine E_blockO rfl ?_ | refine qs rfl rfl rfl rfl rfl rfl ?_
      | ((try refine qg rfl rfl rfl ?_); first | refine qv rfl (qp rfl) rfl rfl ?_ | refine qv rfl (rr_idx1 Und.eq TyC.ty rfl rfl (show word.length < word.length + 1 by omega)) rfl rfl ?_ | refine qv rfl (rr_load1 TyC.ty rfl hAt) rfl rfl ?_ | refine qv rfl (qlen Und.eq rfl) rfl rfl ?_ | refine qv rfl (qfld FldC.fld rfl rfl) rfl rfl ?_ | refine qv rfl (rr_not rfl rfl) rfl rfl ?_ | refine qv rfl (rr_nilc rfl) rfl rfl ?_ | refine qv rfl (rr_lss rfl rfl (qT (by omega))) rfl rfl ?_ | refine qv rfl (rr_lss rfl rfl (qF (by omega))) rfl rfl ?_ | refine qv rfl (rr_leq rfl rfl (qT (by omega))) rfl rfl ?_ | refine qv rfl (rr_leq rfl rfl (qF (by omega))) rfl rfl ?_ | refine qv rfl (rr_add64 rfl rfl (by omega) (by omega) rfl) rfl rfl ?_ | refine qv rfl (rr_gtr rfl rfl (qT (by omega))) rfl rfl ?_ | refine qv rfl (rr_gtr rfl rfl (qF (by omega))) rfl rfl ?_ | refine qv rfl (rr_eql rfl rfl (qT (by omega))) rfl rfl ?_ | refine qv rfl (rr_eql rfl rfl (qF (by omega))) rfl rfl ?_))
    exact E_ret1 rfl rfl fun w hm => hm.ret
end Go.Proofs.Ytkkiopmdcolobaa.eng

/- CountQ -/
namespace Go.Proofs.Ytkkiopmdcolobaa.eng
open Go.RowKit kit mix gramL treeL countL factsL derL
abbrev idV (v : Value) : Value := v
theorem rowA_rows {T : TypeId} {g n m : Nat} {gs : Nat → Nat} : rowA T idV g n (fun j => if j < n then rowsV m (gs j) else .slice none 0 0) = rowA T (rowsV m) g n gs := by
  unfold rowA
  congr 1
  rw [tabA_congr (g := fun j => rowsV m (gs j)) fun i hi => by simp [hi]]
  simp [tabA]
set_option maxRecDepth 100000 in
set_option maxHeartbeats 16000000 in
theorem begins_calls (v vw : Value) (g : Gram) (word : List Int) (w : World) (h : GraR (fun k => k < w.heap.size) w v g) (hs : Sl w vw word.length (word.map (.int .i64))) :
    Calls Try.prog 21 #[v, vw] w (Meets (ret (.tuple #[.bool (beginsB g word), .int .i64 (checkC g word)])) w) := by
  have hck := fun w' (hg : Gr w w') => checkC_calls v vw g word w' (h.gr hg) (hs.gr hg)
  by_cases c0 : checkC g word = 0
  · have h0 := h
    obtain ⟨hg, hl, hw⟩ := checkC_ok c0
    obtain ⟨a1, a2, a3, a4, a5, a6⟩ := checkG_ok hg
    obtain ⟨n, hn⟩ : ∃ n : Nat, g.nons = n := ⟨g.nons.toNat, by omega⟩
    have hof := fun w' (hg' : Gr w w') => of_calls v g w' (h0.gr hg') hg n hn
    obtain ⟨vp, rfl, h1, _⟩ := h
    have hfi := fun w' (hg : Gr w w') => filled_calls vp vw g word w' (h0.gr hg) (hs.gr hg) c0
    have hbg := fun (c : Chart) hc O O' k => begins_of (g := g) (w := word) (n := n) (c := c) c0 hn hc (O := O) (O' := O') (k := k)
    obtain ⟨hokR, hsnd⟩ := sound_of hg hn
    obtain ⟨f1, f2⟩ := fineC_of hg hn
    have hsy := symsOk_of (n := n) hg hn
    rw [c0] at hck ⊢
    generalize beginsB g word = res at *
    obtain ⟨t, nn, prods⟩ := g
    dsimp only at *
    subst hn
    have hMl := hokR.2.2
    have hMs := hsnd.2
    generalize (ofS n prods).M = Mf at *
    clear hokR hsnd
    have hs0 := hs
    have hop := fun gc gm g11 gM cM vE vF vW vR vb c Bd O body frm w' hch hbits hM hsl hx hok hf h5 => opens_calls gc gm g11 n gM cM t vp vw vE vF vW vR vb word c Bd O Mf body frm w' hch hbits hM hMl.symm hsl hx hok hf hl h5
    obtain ⟨bw, cw, rfl, hw1, hw2, _⟩ := hs
    obtain ⟨bp, cp, rfl, _, hmp, hrp⟩ := h1
    unfold maxLen at hmp
    refine enter (args := [graV t (n : Int) (.slice bp prods.length cp), .slice bw word.length cw]) (n := 93) Try.func21 rfl rfl rfl ?_
    refine T_seq (T_region (TL_box rfl rfl rfl fun g2 => ?_))
    conv => arg 8; simp only [zA, zB, zC, zD, zE, zF, zG, zH, zI, rowS, ret, id_eq]
    repeat (first
      | refine qv rfl (qp rfl) rfl rfl ?_ | refine TL_nil ?_ | refine T_seq ?_ | refine T_region ?_ | refine qcT rfl ?_ | refine qcF rfl ?_ | refine T_skip ?_
      | refine T_exit ?_ | refine T_ret ?_ | refine T_block ?_ | refine E_then ?_ | refine E_thenX ?_ | refine E_thenR ?_ | refine E_blockN ?_
      | refine E_blockR ?_ | refine E_blockX ?_ | refine E_blockO rfl ?_ | refine qs rfl rfl rfl rfl rfl rfl ?_
      | ((try refine qg rfl rfl rfl ?_); first | refine qv rfl (qp rfl) rfl rfl ?_ | refine qv rfl (rr_loadB (i := 0) TyC.ty rfl rfl rfl) rfl rfl ?_ | refine qv rfl (qlen Und.eq rfl) rfl rfl ?_ | refine qv rfl (qfld FldC.fld rfl rfl) rfl rfl ?_ | refine qv rfl (rr_not rfl rfl) rfl rfl ?_ | refine qv rfl (rr_lss rfl rfl (qT (by omega))) rfl rfl ?_ | refine qv rfl (rr_lss rfl rfl (qF (by omega))) rfl rfl ?_ | refine qv rfl (rr_neq rfl rfl (qT (by omega))) rfl rfl ?_ | refine qv rfl (rr_neq rfl rfl (qF (by omega))) rfl rfl ?_ | refine qv rfl (rr_add64 rfl rfl (by omega) (by omega) rfl) rfl rfl ?_))
    refine TL_call (he2 EntersC.en rfl rfl rfl) (fun w hm => hck _ hm.below) rfl rfl rfl ?_
    intro _ _
    conv => arg 8; simp only [zA, zB, zC, zD, zE, zF, zG, zH, zI, rowS, ret, id_eq]
    repeat (first
      | refine qv rfl (qp rfl) rfl rfl ?_ | refine TL_nil ?_ | refine T_seq ?_ | refine T_region ?_ | refine qcT rfl ?_ | refine qcF rfl ?_ | refine T_skip ?_
      | refine T_exit ?_ | refine T_ret ?_ | refine T_block ?_ | refine E_then ?_ | refine E_thenX ?_ | refine E_thenR ?_ | refine E_blockN ?_
      | refine E_blockR ?_ | refine E_blockX ?_ | refine E_blockO rfl ?_ | refine qs rfl rfl rfl rfl rfl rfl ?_
      | ((try refine qg rfl rfl rfl ?_); first | refine qv rfl (qp rfl) rfl rfl ?_ | refine qv rfl (rr_loadB (i := 0) TyC.ty rfl rfl rfl) rfl rfl ?_ | refine qv rfl (qlen Und.eq rfl) rfl rfl ?_ | refine qv rfl (qfld FldC.fld rfl rfl) rfl rfl ?_ | refine qv rfl (rr_not rfl rfl) rfl rfl ?_ | refine qv rfl (rr_lss rfl rfl (qT (by omega))) rfl rfl ?_ | refine qv rfl (rr_lss rfl rfl (qF (by omega))) rfl rfl ?_ | refine qv rfl (rr_neq rfl rfl (qT (by omega))) rfl rfl ?_ | refine qv rfl (rr_neq rfl rfl (qF (by omega))) rfl rfl ?_ | refine qv rfl (rr_add64 rfl rfl (by omega) (by omega) rfl) rfl rfl ?_))
    refine TL_call (he1 EntersC.en rfl rfl) (fun w' hm => (hof w' hm.below).mono fun e w2 h => meets_of h) rfl rfl rfl ?_
    rintro x _
    conv => arg 8; simp only [zA, zB, zC, zD, zE, zF, zG, zH, zI, rowS, ret, id_eq]
    refine TL_pick [0, 5] (by decide) rfl ?_
    repeat (first
      | refine qv rfl (qp rfl) rfl rfl ?_ | refine TL_nil ?_ | refine T_seq ?_ | refine T_region ?_ | refine qcT rfl ?_ | refine qcF rfl ?_ | refine T_skip ?_
      | refine T_exit ?_ | refine T_ret ?_ | refine T_block ?_ | refine E_then ?_ | refine E_thenX ?_ | refine E_thenR ?_ | refine E_blockN ?_
      | refine E_blockR ?_ | refine E_blockX ?_ | refine E_blockO rfl ?_ | refine qs rfl rfl rfl rfl rfl rfl ?_
      | ((try refine qg rfl rfl rfl ?_); first | refine qv rfl (qp rfl) rfl rfl ?_ | refine qv rfl (qlen Und.eq rfl) rfl rfl ?_ | refine qv rfl (qfld FldC.fld rfl rfl) rfl rfl ?_ | refine qv rfl (rr_not rfl rfl) rfl rfl ?_ | refine qv rfl (rr_lss rfl rfl (qT (by omega))) rfl rfl ?_ | refine qv rfl (rr_lss rfl rfl (qF (by omega))) rfl rfl ?_ | refine qv rfl (rr_neq rfl rfl (qT (by omega))) rfl rfl ?_ | refine qv rfl (rr_neq rfl rfl (qF (by omega))) rfl rfl ?_ | refine qv rfl (rr_add64 rfl rfl (by omega) (by omega) rfl) rfl rfl ?_))
    refine TL_new rfl fun g7 => ?_
    refine TL_storeB (i := 2) rfl rfl rfl rfl rfl rfl ?_
    conv => arg 8; simp only [zA, zB, zC, zD, zE, zF, zG, zH, zI, rowS, ret, id_eq]
    repeat (first
      | refine qv rfl (qp rfl) rfl rfl ?_ | refine TL_nil ?_ | refine T_seq ?_ | refine T_region ?_ | refine qcT rfl ?_ | refine qcF rfl ?_ | refine T_skip ?_
      | refine T_exit ?_ | refine T_ret ?_ | refine T_block ?_ | refine E_then ?_ | refine E_thenX ?_ | refine E_thenR ?_ | refine E_blockN ?_
      | refine E_blockR ?_ | refine E_blockX ?_ | refine E_blockO rfl ?_ | refine qs rfl rfl rfl rfl rfl rfl ?_
      | ((try refine qg rfl rfl rfl ?_); first | refine qv rfl (qp rfl) rfl rfl ?_ | refine qv rfl (rr_loadB (i := 0) TyC.ty rfl rfl rfl) rfl rfl ?_ | refine qv rfl (qlen Und.eq rfl) rfl rfl ?_ | refine qv rfl (qfld FldC.fld rfl rfl) rfl rfl ?_ | refine qv rfl (rr_not rfl rfl) rfl rfl ?_ | refine qv rfl (rr_lss rfl rfl (qT (by omega))) rfl rfl ?_ | refine qv rfl (rr_lss rfl rfl (qF (by omega))) rfl rfl ?_ | refine qv rfl (rr_neq rfl rfl (qT (by omega))) rfl rfl ?_ | refine qv rfl (rr_neq rfl rfl (qF (by omega))) rfl rfl ?_ | refine qv rfl (rr_add64 rfl rfl (by omega) (by omega) rfl) rfl rfl ?_))
    refine TL_call (he2 EntersC.en rfl rfl rfl) (fun w' hm => hfi w' hm.below) rfl rfl rfl ?_
    rintro ⟨gc, gm, c, Bd⟩ ⟨hx, _⟩
    dsimp only at hx
    have hx : Lfp word prods n c := hx
    have hbg2 := hbg c hx
    clear hfi hck hof
    conv => arg 8; simp only [zA, zB, zC, zD, zE, zF, zG, zH, zI, rowS, ret, id_eq, filledS]
    repeat (first
      | refine qv rfl (qp rfl) rfl rfl ?_ | refine TL_nil ?_ | refine T_seq ?_ | refine T_region ?_ | refine qcT rfl ?_ | refine qcF rfl ?_ | refine T_skip ?_
      | refine T_exit ?_ | refine T_ret ?_ | refine T_block ?_ | refine E_then ?_ | refine E_thenX ?_ | refine E_thenR ?_ | refine E_blockN ?_
      | refine E_blockR ?_ | refine E_blockX ?_ | refine E_blockO rfl ?_ | refine qs rfl rfl rfl rfl rfl rfl ?_
      | ((try refine qg rfl rfl rfl ?_); first | refine qv rfl (qp rfl) rfl rfl ?_ | refine qv rfl (rr_load1 TyC.ty rfl (at_blk (i := 0) rfl rfl)) rfl rfl ?_ | refine qv rfl (qlen Und.eq rfl) rfl rfl ?_ | refine qv rfl (qfld FldC.fld rfl rfl) rfl rfl ?_ | refine qv rfl (rr_not rfl rfl) rfl rfl ?_ | refine qv rfl (rr_lss rfl rfl (qT (by omega))) rfl rfl ?_ | refine qv rfl (rr_lss rfl rfl (qF (by omega))) rfl rfl ?_ | refine qv rfl (rr_neq rfl rfl (qT (by omega))) rfl rfl ?_ | refine qv rfl (rr_neq rfl rfl (qF (by omega))) rfl rfl ?_ | refine qv rfl (rr_add64 rfl rfl (by omega) (by omega) rfl) rfl rfl ?_))
    refine TL_makeA idV (.slice none 0 0) rfl rfl (by omega) (by omega) rfl fun g11 => ?_
    conv => arg 8; simp only [zA, zB, zC, zD, zE, zF, zG, zH, zI, rowS, ret, id_eq]
    repeat (first
      | refine qv rfl (qp rfl) rfl rfl ?_ | refine TL_nil ?_ | refine T_seq ?_ | refine T_region ?_ | refine qcT rfl ?_ | refine qcF rfl ?_ | refine T_skip ?_
      | refine T_exit ?_ | refine T_ret ?_ | refine T_block ?_ | refine E_then ?_ | refine E_thenX ?_ | refine E_thenR ?_ | refine E_blockN ?_
      | refine E_blockR ?_ | refine E_blockX ?_ | refine E_blockO rfl ?_ | refine qs rfl rfl rfl rfl rfl rfl ?_
      | ((try refine qg rfl rfl rfl ?_); first | refine qv rfl (qp rfl) rfl rfl ?_ | refine qv rfl (qlen Und.eq rfl) rfl rfl ?_ | refine qv rfl (qfld FldC.fld rfl rfl) rfl rfl ?_ | refine qv rfl (rr_not rfl rfl) rfl rfl ?_ | refine qv rfl (rr_lss rfl rfl (qT (by omega))) rfl rfl ?_ | refine qv rfl (rr_lss rfl rfl (qF (by omega))) rfl rfl ?_ | refine qv rfl (rr_neq rfl rfl (qT (by omega))) rfl rfl ?_ | refine qv rfl (rr_neq rfl rfl (qF (by omega))) rfl rfl ?_ | refine qv rfl (rr_add64 rfl rfl (by omega) (by omega) rfl) rfl rfl ?_))
    refine T_extra (famP (fun k => k < 0) fun i => rowA 4 boolV 0 (word.length + 1) fun _ => false) (fun k hk => hk.elim (fun h => by cases h) fun ⟨i, h, _⟩ => by omega) (fun w => ⟨fun i h => by omega, fun i j h => by omega⟩) ?_
    refine T_loop (ι := Nat × (Nat → Nat)) (fun (k, _) => k ≤ n) (fun (k, _) => [(2, .pointer (some ⟨g2, 0, none⟩)), (7, .pointer (some ⟨g7, 0, none⟩)), (9, .pointer (some ⟨gc, 0, none⟩)), (10, .int .i64 word.length), (11, .slice (some ⟨g11, 0, none⟩) n n), (37, .int .i64 (n : Int)), (38, .int .i64 (k : Int))])
      (fun (k, gs) => [blkO g2 (graV t (n : Int) (.slice bp prods.length cp)).cells 24, rowBn n x.gM x.cM Mf, blkO g7 (facV (vRow n x.gE x.cE) (vRow n x.gF x.cF) (vRow n x.gW x.cW) (vRow n x.gR x.cR) (vRow n x.gM x.cM)).cells 67, blkO gc (chV t (n : Int) (.slice bp prods.length cp) (.slice bw word.length cw) gm) 59, chM gm c Bd, rowA 64 idV g11 n (fun j => if j < k then rowsV (word.length + 1) (gs j) else .slice none 0 0), famP (fun j => j < k) fun j => rowA 4 boolV (gs j) (word.length + 1) fun _ => false]) (fun (k, _) => n - k) (0, fun _ => 0) (Nat.zero_le _) (by repeat' (first | exact True.intro | refine And.intro rfl ?_)) rfl ?_
    rintro ⟨k, gs⟩ k1
    dsimp only at k1 ⊢
    by_cases c7 : k < n
    · repeat (first
        | refine qv rfl (qp rfl) rfl rfl ?_ | refine TL_nil ?_ | refine T_seq ?_ | refine T_region ?_ | refine qcT rfl ?_ | refine qcF rfl ?_ | refine T_skip ?_
        | refine T_exit ?_ | refine T_ret ?_ | refine T_block ?_ | refine E_then ?_ | refine E_thenX ?_ | refine E_thenR ?_ | refine E_blockN ?_
        | refine E_blockR ?_ | refine E_blockX ?_ | refine E_blockO rfl ?_ | refine qs rfl rfl rfl rfl rfl rfl ?_
        | ((try refine qg rfl rfl rfl ?_); first | refine qv rfl (qp rfl) rfl rfl ?_ | refine qv rfl (rr_add64 (r := ((word.length + 1 : Nat) : Int)) rfl rfl (by omega) (by omega) (by omega)) rfl rfl ?_ | refine qv rfl (qlen Und.eq rfl) rfl rfl ?_ | refine qv rfl (qfld FldC.fld rfl rfl) rfl rfl ?_ | refine qv rfl (rr_not rfl rfl) rfl rfl ?_ | refine qv rfl (rr_lss rfl rfl (qT (by omega))) rfl rfl ?_ | refine qv rfl (rr_lss rfl rfl (qF (by omega))) rfl rfl ?_ | refine qv rfl (rr_neq rfl rfl (qT (by omega))) rfl rfl ?_ | refine qv rfl (rr_neq rfl rfl (qF (by omega))) rfl rfl ?_ | refine qv rfl (rr_add64 rfl rfl (by omega) (by omega) rfl) rfl rfl ?_))
      refine TL_makeA boolV false rfl rfl (by omega) (by omega) rfl fun g45 => ?_
      conv => arg 8; simp only [zA, zB, zC, zD, zE, zF, zG, zH, zI, rowS, ret, id_eq]
      repeat (first
        | refine qv rfl (qp rfl) rfl rfl ?_ | refine TL_nil ?_ | refine T_seq ?_ | refine T_region ?_ | refine qcT rfl ?_ | refine qcF rfl ?_ | refine T_skip ?_
        | refine T_exit ?_ | refine T_ret ?_ | refine T_block ?_ | refine E_then ?_ | refine E_thenX ?_ | refine E_thenR ?_ | refine E_blockN ?_
        | refine E_blockR ?_ | refine E_blockX ?_ | refine E_blockO rfl ?_ | refine qs rfl rfl rfl rfl rfl rfl ?_
        | ((try refine qg rfl rfl rfl ?_); first | refine qv rfl (qp rfl) rfl rfl ?_ | refine qv rfl (rr_idx1 Und.eq TyC.ty rfl rfl c7) rfl rfl ?_ | refine qv rfl (qlen Und.eq rfl) rfl rfl ?_ | refine qv rfl (qfld FldC.fld rfl rfl) rfl rfl ?_ | refine qv rfl (rr_not rfl rfl) rfl rfl ?_ | refine qv rfl (rr_lss rfl rfl (qT (by omega))) rfl rfl ?_ | refine qv rfl (rr_lss rfl rfl (qF (by omega))) rfl rfl ?_ | refine qv rfl (rr_neq rfl rfl (qT (by omega))) rfl rfl ?_ | refine qv rfl (rr_neq rfl rfl (qF (by omega))) rfl rfl ?_ | refine qv rfl (rr_add64 rfl rfl (by omega) (by omega) rfl) rfl rfl ?_))
      refine TL_storeA (i := 5) (v := rowsV (word.length + 1) g45) (fun j => if j < k + 1 then rowsV (word.length + 1) (if j = k then g45 else gs j) else .slice none 0 0) TyC.ty rfl rfl rfl rfl rfl c7 (fun i _ => by
        by_cases e : i = k
        · subst e; simp
        · by_cases e2 : i < k
          · simp [e, e2, show i < k + 1 by omega]
          · simp [e, e2, show ¬ i < k + 1 by omega]) ?_
      conv => arg 8; simp only [zA, zB, zC, zD, zE, zF, zG, zH, zI, rowS, ret, id_eq]
      repeat (first
        | refine qv rfl (qp rfl) rfl rfl ?_ | refine TL_nil ?_ | refine T_seq ?_ | refine T_region ?_ | refine qcT rfl ?_ | refine qcF rfl ?_ | refine T_skip ?_
        | refine T_exit ?_ | refine T_ret ?_ | refine T_block ?_ | refine E_then ?_ | refine E_thenX ?_ | refine E_thenR ?_ | refine E_blockN ?_
        | refine E_blockR ?_ | refine E_blockX ?_ | refine E_blockO rfl ?_ | refine qs rfl rfl rfl rfl rfl rfl ?_
        | ((try refine qg rfl rfl rfl ?_); first | refine qv rfl (qp rfl) rfl rfl ?_ | refine qv rfl (qlen Und.eq rfl) rfl rfl ?_ | refine qv rfl (qfld FldC.fld rfl rfl) rfl rfl ?_ | refine qv rfl (rr_not rfl rfl) rfl rfl ?_ | refine qv rfl (rr_lss rfl rfl (qT (by omega))) rfl rfl ?_ | refine qv rfl (rr_lss rfl rfl (qF (by omega))) rfl rfl ?_ | refine qv rfl (rr_neq rfl rfl (qT (by omega))) rfl rfl ?_ | refine qv rfl (rr_neq rfl rfl (qF (by omega))) rfl rfl ?_ | refine qv rfl (rr_add64 rfl rfl (by omega) (by omega) rfl) rfl rfl ?_))
      refine E_put (D' := fun j => j < k + 1) (f' := fun j => rowA 4 boolV (if j = k then g45 else gs j) (word.length + 1) fun _ => false) k 6 7 [0, 1, 2, 3, 4, 5] (by decide) rfl rfl rfl (by omega) (fun j hj => by omega) (fun j hj => by
        unfold upd
        by_cases e : j = k <;> simp [e]) ?_
      exact E_round (k + 1, fun j => if j = k then g45 else gs j) (by show k + 1 ≤ n; omega) (by show n - (k + 1) < n - k; omega) (by repeat' (first | exact True.intro | refine And.intro rfl ?_)) rfl
    · obtain rfl : k = n := by omega
      rw [rowA_rows]
      repeat (first
        | refine qv rfl (qp rfl) rfl rfl ?_ | refine TL_nil ?_ | refine T_seq ?_ | refine T_region ?_ | refine qcT rfl ?_ | refine qcF rfl ?_ | refine T_skip ?_
        | refine T_exit ?_ | refine T_ret ?_ | refine T_block ?_ | refine E_then ?_ | refine E_thenX ?_ | refine E_thenR ?_ | refine E_blockN ?_
        | refine E_blockR ?_ | refine E_blockX ?_ | refine E_blockO rfl ?_ | refine qs rfl rfl rfl rfl rfl rfl ?_
        | ((try refine qg rfl rfl rfl ?_); first | refine qv rfl (qp rfl) rfl rfl ?_ | refine qv rfl (qlen Und.eq rfl) rfl rfl ?_ | refine qv rfl (qfld FldC.fld rfl rfl) rfl rfl ?_ | refine qv rfl (rr_not rfl rfl) rfl rfl ?_ | refine qv rfl (rr_lss rfl rfl (qT (by omega))) rfl rfl ?_ | refine qv rfl (rr_lss rfl rfl (qF (by omega))) rfl rfl ?_ | refine qv rfl (rr_neq rfl rfl (qT (by omega))) rfl rfl ?_ | refine qv rfl (rr_neq rfl rfl (qF (by omega))) rfl rfl ?_ | refine qv rfl (rr_add64 rfl rfl (by omega) (by omega) rfl) rfl rfl ?_))
      refine T_loop (ι := (Nat → Nat → Bool) × Bool) (fun (O, mr) => SoundO prods word O ∧ (mr = false → O 0 0 = res)) (fun (_, mr) => [(2, .pointer (some ⟨g2, 0, none⟩)), (7, .pointer (some ⟨g7, 0, none⟩)), (9, .pointer (some ⟨gc, 0, none⟩)), (10, .int .i64 word.length), (11, .slice (some ⟨g11, 0, none⟩) k k), (13, .bool mr)])
        (fun (O, _) => [blkO g2 (graV t (k : Int) (.slice bp prods.length cp)).cells 24, rowBn k x.gM x.cM Mf, blkO g7 (facV (vRow k x.gE x.cE) (vRow k x.gF x.cF) (vRow k x.gW x.cW) (vRow k x.gR x.cR) (vRow k x.gM x.cM)).cells 67, blkO gc (chV t (k : Int) (.slice bp prods.length cp) (.slice bw word.length cw) gm) 59, chM gm c Bd, rowA 64 (rowsV (word.length + 1)) g11 k gs, famP (fun j => j < k) fun j => rowA 4 boolV (gs j) (word.length + 1) (O j)]) (fun (O, mr) => 2 * fal k (word.length + 1) O + (if mr = true then 1 else 0)) (fun _ _ => false, true) ⟨fun _ _ h => (by cases h), fun h => (by cases h)⟩ (by repeat' (first | exact True.intro | refine And.intro rfl ?_)) rfl ?_
      rintro ⟨O, mr⟩ ⟨i1, i2⟩
      dsimp only at i1 i2 ⊢
      cases mr
      · have i2 := i2 rfl
        have hk0 : 0 < k := by omega
        have hb0 : ∀ L : List Own, L[6]? = some (famP (fun j => j < k) fun j => rowA 4 boolV (gs j) (word.length + 1) (O j)) → At w L ⟨gs 0, 0 + 0, none⟩ (.bool res) := fun L hL => by
          rw [← i2]
          exact at_hold hL fun w hh => rowA_cell (hh.1 0 hk0) (by omega)
        repeat (first
          | refine qv rfl (qp rfl) rfl rfl ?_ | refine TL_nil ?_ | refine T_seq ?_ | refine T_region ?_ | refine qcT rfl ?_ | refine qcF rfl ?_ | refine T_skip ?_
          | refine T_exit ?_ | refine T_ret ?_ | refine T_block ?_ | refine E_then ?_ | refine E_thenX ?_ | refine E_thenR ?_ | refine E_blockN ?_
          | refine E_blockR ?_ | refine E_blockX ?_ | refine E_blockO rfl ?_ | refine qs rfl rfl rfl rfl rfl rfl ?_
          | ((try refine qg rfl rfl rfl ?_); first | refine qv rfl (qp rfl) rfl rfl ?_ | refine qv rfl (rr_idx1 (j := 0) Und.eq TyC.ty rfl rfl hk0) rfl rfl ?_ | refine qv rfl (rr_load1 TyC.ty rfl (at_rowA (i := 5) (k := 0) rfl hk0)) rfl rfl ?_ | refine qv rfl (rr_idx1 (j := 0) Und.eq TyC.ty rfl rfl (by omega : 0 < word.length + 1)) rfl rfl ?_ | refine qv rfl (rr_load1 TyC.ty rfl (hb0 _ rfl)) rfl rfl ?_ | refine qv rfl (qlen Und.eq rfl) rfl rfl ?_ | refine qv rfl (qfld FldC.fld rfl rfl) rfl rfl ?_ | refine qv rfl (rr_not rfl rfl) rfl rfl ?_ | refine qv rfl (rr_lss rfl rfl (qT (by omega))) rfl rfl ?_ | refine qv rfl (rr_lss rfl rfl (qF (by omega))) rfl rfl ?_ | refine qv rfl (rr_neq rfl rfl (qT (by omega))) rfl rfl ?_ | refine qv rfl (rr_neq rfl rfl (qF (by omega))) rfl rfl ?_ | refine qv rfl (rr_add64 rfl rfl (by omega) (by omega) rfl) rfl rfl ?_))
        exact E_ret2 rfl rfl rfl fun w hm => hm.ret
      · clear i2
        repeat (first
          | refine qv rfl (qp rfl) rfl rfl ?_ | refine TL_nil ?_ | refine T_seq ?_ | refine T_region ?_ | refine qcT rfl ?_ | refine qcF rfl ?_ | refine T_skip ?_
          | refine T_exit ?_ | refine T_ret ?_ | refine T_block ?_ | refine E_then ?_ | refine E_thenX ?_ | refine E_thenR ?_ | refine E_blockN ?_
          | refine E_blockR ?_ | refine E_blockX ?_ | refine E_blockO rfl ?_ | refine qs rfl rfl rfl rfl rfl rfl ?_
          | ((try refine qg rfl rfl rfl ?_); first | refine qv rfl (qp rfl) rfl rfl ?_ | refine qv rfl (rr_load1 TyC.ty rfl (at_blk (i := 0) rfl rfl)) rfl rfl ?_ | refine qv rfl (qlen Und.eq rfl) rfl rfl ?_ | refine qv rfl (qfld FldC.fld rfl rfl) rfl rfl ?_ | refine qv rfl (rr_not rfl rfl) rfl rfl ?_ | refine qv rfl (rr_lss rfl rfl (qT (by omega))) rfl rfl ?_ | refine qv rfl (rr_lss rfl rfl (qF (by omega))) rfl rfl ?_ | refine qv rfl (rr_neq rfl rfl (qT (by omega))) rfl rfl ?_ | refine qv rfl (rr_neq rfl rfl (qF (by omega))) rfl rfl ?_ | refine qv rfl (rr_add64 rfl rfl (by omega) (by omega) rfl) rfl rfl ?_))
        refine T_loop (ι := Nat × (Nat → Nat → Bool) × Bool) (fun (i, O', m2) => i ≤ prods.length ∧ PassO prods word (oneF c word) Mf k O O' m2 i 0) (fun (i, _, m2) => [(2, .pointer (some ⟨g2, 0, none⟩)), (7, .pointer (some ⟨g7, 0, none⟩)), (9, .pointer (some ⟨gc, 0, none⟩)), (10, .int .i64 word.length), (11, .slice (some ⟨g11, 0, none⟩) k k), (13, .bool m2), (50, .slice bp prods.length cp), (51, .int .i64 prods.length), (52, .int .i64 (i : Int))])
          (fun (_, O', _) => [blkO g2 (graV t (k : Int) (.slice bp prods.length cp)).cells 24, rowBn k x.gM x.cM Mf, blkO g7 (facV (vRow k x.gE x.cE) (vRow k x.gF x.cF) (vRow k x.gW x.cW) (vRow k x.gR x.cR) (vRow k x.gM x.cM)).cells 67, blkO gc (chV t (k : Int) (.slice bp prods.length cp) (.slice bw word.length cw) gm) 59, chM gm c Bd, rowA 64 (rowsV (word.length + 1)) g11 k gs, famP (fun j => j < k) fun j => rowA 4 boolV (gs j) (word.length + 1) (O' j)]) (fun (i, _, _) => prods.length - i) (0, O, false) ⟨Nat.zero_le _, PassO.start i1 _ _⟩ (by repeat' (first | exact True.intro | refine And.intro rfl ?_)) rfl ?_
        rintro ⟨i, O', m2⟩ ⟨j1, j2⟩
        dsimp only at j1 j2 ⊢
        by_cases c8 : i < prods.length
        · obtain ⟨b, off, rfl, _, hr⟩ := hrp (by omega)
          obtain ⟨bb, cb, y1, y2, y3⟩ := prod_at hr c8
          have hat : ∀ (L : List Own) (j : Nat) (v : Value), ([.int .i64 prods[i].1, .slice bb prods[i].2.length cb] : List Value)[j]? = some v → At w L ⟨b, off + i * 2 + j, none⟩ v := fun L j v hj => at_old (y1 j v hj)
          have hfl := y3.flat (by decide)
          obtain ⟨s1, s2, s3⟩ := hsy _ (List.getElem_mem c8)
          have hok3 := (f1 _ (List.getElem_mem c8)).2.2
          have hskip := fun (O' : Nat → Nat → Bool) m2 a (h : PassO prods word (oneF c word) Mf k O O' m2 i a) hn => h.skip c8 hn
          have hset := fun (O' : Nat → Nat → Bool) m2 a (h : PassO prods word (oneF c word) Mf k O O' m2 i a) h1 h2 h3 h4 => h.set hMs hx hsy c8 h1 h2 h3 h4
          clear y1 y3 hr hrp
          generalize prods[i] = pd at *
          obtain ⟨hd, body⟩ := pd
          dsimp only at *
          obtain ⟨hn, rfl⟩ : ∃ hn : Nat, hd = hn := ⟨hd.toNat, by omega⟩
          have hlt : hn < k := by omega
          rw [Int.toNat_natCast] at hskip hset
          have hop := fun O' a w' hch hbits hM hsl ha => hop gc gm g11 x.gM x.cM (vRow k x.gE x.cE) (vRow k x.gF x.cF) (vRow k x.gW x.cW) (vRow k x.gR x.cR) (.slice bb body.length cb) c Bd O' body a w' hch hbits hM hsl s3 hok3 ha ⟨_, _, _, _, _, _, _, _, _, _, _, _, rfl, rfl, rfl, rfl⟩
          repeat (first
            | refine qv rfl (qp rfl) rfl rfl ?_ | refine TL_nil ?_ | refine T_seq ?_ | refine T_region ?_ | refine qcT rfl ?_ | refine qcF rfl ?_ | refine T_skip ?_
            | refine T_exit ?_ | refine T_ret ?_ | refine T_block ?_ | refine E_then ?_ | refine E_thenX ?_ | refine E_thenR ?_ | refine E_blockN ?_
            | refine E_blockR ?_ | refine E_blockX ?_ | refine E_blockO rfl ?_ | refine qs rfl rfl rfl rfl rfl rfl ?_
            | ((try refine qg rfl rfl rfl ?_); first | refine qv rfl (qp rfl) rfl rfl ?_ | refine qv rfl (rr_idxc Und.eq TyC.ty rfl rfl c8) rfl rfl ?_ | refine qv rfl (rr_loadN TyC.ty rfl rfl (hat _)) rfl rfl ?_ | refine qv rfl (qlen Und.eq rfl) rfl rfl ?_ | refine qv rfl (qfld FldC.fld rfl rfl) rfl rfl ?_ | refine qv rfl (rr_not rfl rfl) rfl rfl ?_ | refine qv rfl (rr_lss rfl rfl (qT (by omega))) rfl rfl ?_ | refine qv rfl (rr_lss rfl rfl (qF (by omega))) rfl rfl ?_ | refine qv rfl (rr_neq rfl rfl (qT (by omega))) rfl rfl ?_ | refine qv rfl (rr_neq rfl rfl (qF (by omega))) rfl rfl ?_ | refine qv rfl (rr_add64 rfl rfl (by omega) (by omega) rfl) rfl rfl ?_))
          refine TL_new rfl fun g15 => ?_
          refine TL_storeB (i := 7) rfl rfl rfl rfl rfl rfl ?_
          conv => arg 8; simp only [zA, zB, zC, zD, zE, zF, zG, zH, zI, rowS, ret, id_eq]
          repeat (first
            | refine qv rfl (qp rfl) rfl rfl ?_ | refine TL_nil ?_ | refine T_seq ?_ | refine T_region ?_ | refine qcT rfl ?_ | refine qcF rfl ?_ | refine T_skip ?_
            | refine T_exit ?_ | refine T_ret ?_ | refine T_block ?_ | refine E_then ?_ | refine E_thenX ?_ | refine E_thenR ?_ | refine E_blockN ?_
            | refine E_blockR ?_ | refine E_blockX ?_ | refine E_blockO rfl ?_ | refine qs rfl rfl rfl rfl rfl rfl ?_
            | ((try refine qg rfl rfl rfl ?_); first | refine qv rfl (qp rfl) rfl rfl ?_ | refine qv rfl (rr_add64 (r := ((word.length + 1 : Nat) : Int)) rfl rfl (by omega) (by omega) (by omega)) rfl rfl ?_ | refine qv rfl (qlen Und.eq rfl) rfl rfl ?_ | refine qv rfl (qfld FldC.fld rfl rfl) rfl rfl ?_ | refine qv rfl (rr_not rfl rfl) rfl rfl ?_ | refine qv rfl (rr_lss rfl rfl (qT (by omega))) rfl rfl ?_ | refine qv rfl (rr_lss rfl rfl (qF (by omega))) rfl rfl ?_ | refine qv rfl (rr_neq rfl rfl (qT (by omega))) rfl rfl ?_ | refine qv rfl (rr_neq rfl rfl (qF (by omega))) rfl rfl ?_ | refine qv rfl (rr_add64 rfl rfl (by omega) (by omega) rfl) rfl rfl ?_))
          refine T_pick [0, 1, 2, 3, 4, 5, 7, 6] (by decide) rfl ?_
          refine T_loop (ι := Nat × (Nat → Nat → Bool) × Bool) (fun (a, O', m2) => a ≤ word.length + 1 ∧ PassO prods word (oneF c word) Mf k O O' m2 i a) (fun (a, _, m2) => [(2, .pointer (some ⟨g2, 0, none⟩)), (7, .pointer (some ⟨g7, 0, none⟩)), (9, .pointer (some ⟨gc, 0, none⟩)), (10, .int .i64 word.length), (11, .slice (some ⟨g11, 0, none⟩) k k), (13, .bool m2), (15, .pointer (some ⟨g15, 0, none⟩)), (50, .slice (some ⟨b, off, none⟩) prods.length cp), (51, .int .i64 prods.length), (52, .int .i64 (i : Int)), (57, .int .i64 ((word.length + 1 : Nat) : Int)), (58, .int .i64 (a : Int))])
            (fun (_, O', _) => [blkO g2 (graV t (k : Int) (.slice (some ⟨b, off, none⟩) prods.length cp)).cells 24, rowBn k x.gM x.cM Mf, blkO g7 (facV (vRow k x.gE x.cE) (vRow k x.gF x.cF) (vRow k x.gW x.cW) (vRow k x.gR x.cR) (vRow k x.gM x.cM)).cells 67, blkO gc (chV t (k : Int) (.slice (some ⟨b, off, none⟩) prods.length cp) (.slice bw word.length cw) gm) 59, chM gm c Bd, rowA 64 (rowsV (word.length + 1)) g11 k gs, blkO g15 #[.int .i64 (hn : Int), .slice bb body.length cb] 46, famP (fun j => j < k) fun j => rowA 4 boolV (gs j) (word.length + 1) (O' j)]) (fun (a, _, _) => word.length + 1 - a) (0, O', m2) ⟨Nat.zero_le _, j2⟩ (by repeat' (first | exact True.intro | refine And.intro rfl ?_)) rfl ?_
          clear j2
          rintro ⟨a, O', m2⟩ ⟨l1, l2⟩
          dsimp only at l1 l2 ⊢
          by_cases c9 : a < word.length + 1
          · have hbit0 : ∀ L : List Own, L[7]? = some (famP (fun j => j < k) fun j => rowA 4 boolV (gs j) (word.length + 1) (O' j)) → At w L ⟨gs hn, 0 + a, none⟩ (.bool (O' hn a)) := fun L hL => at_hold hL fun w hh => rowA_cell (hh.1 hn hlt) c9
            cases hOb : O' hn a
            · have hbit : ∀ L : List Own, L[7]? = some (famP (fun j => j < k) fun j => rowA 4 boolV (gs j) (word.length + 1) (O' j)) → At w L ⟨gs hn, 0 + a, none⟩ (.bool false) := by rw [← hOb]; exact hbit0
              repeat (first
                | refine qv rfl (qp rfl) rfl rfl ?_ | refine TL_nil ?_ | refine T_seq ?_ | refine T_region ?_ | refine qcT rfl ?_ | refine qcF rfl ?_ | refine T_skip ?_
                | refine T_exit ?_ | refine T_ret ?_ | refine T_block ?_ | refine E_then ?_ | refine E_thenX ?_ | refine E_thenR ?_ | refine E_blockN ?_
                | refine E_blockR ?_ | refine E_blockX ?_ | refine E_blockO rfl ?_ | refine qs rfl rfl rfl rfl rfl rfl ?_
                | ((try refine qg rfl rfl rfl ?_); first | refine qv rfl (qp rfl) rfl rfl ?_ | refine qv rfl (rr_load1 TyC.ty rfl (at_blk (i := 6) rfl rfl)) rfl rfl ?_ | refine qv rfl (rr_idx1 Und.eq TyC.ty rfl rfl hlt) rfl rfl ?_ | refine qv rfl (rr_load1 TyC.ty rfl (at_rowA (i := 5) rfl hlt)) rfl rfl ?_ | refine qv rfl (rr_idx1 Und.eq TyC.ty rfl rfl c9) rfl rfl ?_ | refine qv rfl (rr_load1 TyC.ty rfl (hbit _ rfl)) rfl rfl ?_ | refine qv rfl (rr_loadB (i := 2) TyC.ty rfl rfl rfl) rfl rfl ?_ | refine qv rfl (qlen Und.eq rfl) rfl rfl ?_ | refine qv rfl (qfld FldC.fld rfl rfl) rfl rfl ?_ | refine qv rfl (rr_not rfl rfl) rfl rfl ?_ | refine qv rfl (rr_lss rfl rfl (qT (by omega))) rfl rfl ?_ | refine qv rfl (rr_lss rfl rfl (qF (by omega))) rfl rfl ?_ | refine qv rfl (rr_neq rfl rfl (qT (by omega))) rfl rfl ?_ | refine qv rfl (rr_neq rfl rfl (qF (by omega))) rfl rfl ?_ | refine qv rfl (rr_add64 rfl rfl (by omega) (by omega) rfl) rfl rfl ?_))
              refine TL_gcall (he5 EntersC.en rfl rfl rfl rfl rfl rfl) (fun w hm => hop O' a w ⟨hm.get (i := 3) rfl, hm.get (i := 4) rfl, hs0.gr hm.below⟩ (bits_of (hm.get (i := 5) rfl) (hm.get (i := 7) rfl)) (by rw [hMl]; exact sl_row (i := 1) rfl w hm) (hfl.gr hm.below) (by omega)) rfl rfl rfl rfl rfl ?_
              intro _ _
              conv => arg 8; simp only [zA, zB, zC, zD, zE, zF, zG, zH, zI, rowS, ret, id_eq]
              cases hopn : opensF (oneF c word) O' Mf word.length a body
              · repeat (first
                  | refine qv rfl (qp rfl) rfl rfl ?_ | refine TL_nil ?_ | refine T_seq ?_ | refine T_region ?_ | refine qcT rfl ?_ | refine qcF rfl ?_ | refine T_skip ?_
                  | refine T_exit ?_ | refine T_ret ?_ | refine T_block ?_ | refine E_then ?_ | refine E_thenX ?_ | refine E_thenR ?_ | refine E_blockN ?_
                  | refine E_blockR ?_ | refine E_blockX ?_ | refine E_blockO rfl ?_ | refine qs rfl rfl rfl rfl rfl rfl ?_
                  | ((try refine qg rfl rfl rfl ?_); first | refine qv rfl (qp rfl) rfl rfl ?_ | refine qv rfl (qlen Und.eq rfl) rfl rfl ?_ | refine qv rfl (qfld FldC.fld rfl rfl) rfl rfl ?_ | refine qv rfl (rr_not rfl rfl) rfl rfl ?_ | refine qv rfl (rr_lss rfl rfl (qT (by omega))) rfl rfl ?_ | refine qv rfl (rr_lss rfl rfl (qF (by omega))) rfl rfl ?_ | refine qv rfl (rr_neq rfl rfl (qT (by omega))) rfl rfl ?_ | refine qv rfl (rr_neq rfl rfl (qF (by omega))) rfl rfl ?_ | refine qv rfl (rr_add64 rfl rfl (by omega) (by omega) rfl) rfl rfl ?_))
                exact E_round (a + 1, O', m2) ⟨by omega, hskip O' m2 a l2 (.inr hopn)⟩ (by show word.length + 1 - (a + 1) < word.length + 1 - a; omega) (by repeat' (first | exact True.intro | refine And.intro rfl ?_)) rfl
              · repeat (first
                  | refine qv rfl (qp rfl) rfl rfl ?_ | refine TL_nil ?_ | refine T_seq ?_ | refine T_region ?_ | refine qcT rfl ?_ | refine qcF rfl ?_ | refine T_skip ?_
                  | refine T_exit ?_ | refine T_ret ?_ | refine T_block ?_ | refine E_then ?_ | refine E_thenX ?_ | refine E_thenR ?_ | refine E_blockN ?_
                  | refine E_blockR ?_ | refine E_blockX ?_ | refine E_blockO rfl ?_ | refine qs rfl rfl rfl rfl rfl rfl ?_
                  | ((try refine qg rfl rfl rfl ?_); first | refine qv rfl (qp rfl) rfl rfl ?_ | refine qv rfl (rr_load1 TyC.ty rfl (at_blk (i := 6) rfl rfl)) rfl rfl ?_ | refine qv rfl (rr_idx1 Und.eq TyC.ty rfl rfl hlt) rfl rfl ?_ | refine qv rfl (rr_load1 TyC.ty rfl (at_rowA (i := 5) rfl hlt)) rfl rfl ?_ | refine qv rfl (rr_idx1 Und.eq TyC.ty rfl rfl c9) rfl rfl ?_ | refine qv rfl (qlen Und.eq rfl) rfl rfl ?_ | refine qv rfl (qfld FldC.fld rfl rfl) rfl rfl ?_ | refine qv rfl (rr_not rfl rfl) rfl rfl ?_ | refine qv rfl (rr_lss rfl rfl (qT (by omega))) rfl rfl ?_ | refine qv rfl (rr_lss rfl rfl (qF (by omega))) rfl rfl ?_ | refine qv rfl (rr_neq rfl rfl (qT (by omega))) rfl rfl ?_ | refine qv rfl (rr_neq rfl rfl (qF (by omega))) rfl rfl ?_ | refine qv rfl (rr_add64 rfl rfl (by omega) (by omega) rfl) rfl rfl ?_))
                refine TL_take (q := 7) hn rfl hlt ?_
                conv => arg 8; simp only [zA, zB, zC, zD, zE, zF, zG, zH, zI, rowS, ret, id_eq]
                refine TL_storeA (i := 8) (v := true) (setB O' hn a hn) TyC.ty rfl rfl rfl rfl rfl c9 (fun j _ => by
                  unfold setB
                  by_cases e : j = a <;> simp [e]) ?_
                conv => arg 8; simp only [zA, zB, zC, zD, zE, zF, zG, zH, zI, rowS, ret, id_eq]
                refine TL_put (D' := fun j => j < k) (f' := fun j => rowA 4 boolV (gs j) (word.length + 1) (setB O' hn a j)) hn 7 8 [0, 1, 2, 3, 4, 5, 6] (by decide) rfl rfl rfl (fun h => h.2 rfl) (fun j hj => by
                  by_cases e : j = hn
                  · exact .inr e
                  · exact .inl ⟨hj, e⟩) (fun j hj => by
                  by_cases e : j = hn
                  · subst e; rw [upd_eq]
                  · rw [upd_ne e]
                    congr 1
                    funext b
                    unfold setB
                    rw [if_neg fun h => e h.1]) ?_
                conv => arg 8; simp only [zA, zB, zC, zD, zE, zF, zG, zH, zI, rowS, ret, id_eq]
                repeat (first
                  | refine qv rfl (qp rfl) rfl rfl ?_ | refine TL_nil ?_ | refine T_seq ?_ | refine T_region ?_ | refine qcT rfl ?_ | refine qcF rfl ?_ | refine T_skip ?_
                  | refine T_exit ?_ | refine T_ret ?_ | refine T_block ?_ | refine E_then ?_ | refine E_thenX ?_ | refine E_thenR ?_ | refine E_blockN ?_
                  | refine E_blockR ?_ | refine E_blockX ?_ | refine E_blockO rfl ?_ | refine qs rfl rfl rfl rfl rfl rfl ?_
                  | ((try refine qg rfl rfl rfl ?_); first | refine qv rfl (qp rfl) rfl rfl ?_ | refine qv rfl (qlen Und.eq rfl) rfl rfl ?_ | refine qv rfl (qfld FldC.fld rfl rfl) rfl rfl ?_ | refine qv rfl (rr_not rfl rfl) rfl rfl ?_ | refine qv rfl (rr_lss rfl rfl (qT (by omega))) rfl rfl ?_ | refine qv rfl (rr_lss rfl rfl (qF (by omega))) rfl rfl ?_ | refine qv rfl (rr_neq rfl rfl (qT (by omega))) rfl rfl ?_ | refine qv rfl (rr_neq rfl rfl (qF (by omega))) rfl rfl ?_ | refine qv rfl (rr_add64 rfl rfl (by omega) (by omega) rfl) rfl rfl ?_))
                exact E_round (a + 1, setB O' hn a, true) ⟨by omega, hset O' m2 a l2 (by omega) hlt hOb hopn⟩ (by show word.length + 1 - (a + 1) < word.length + 1 - a; omega) (by repeat' (first | exact True.intro | refine And.intro rfl ?_)) rfl
            · have hbit : ∀ L : List Own, L[7]? = some (famP (fun j => j < k) fun j => rowA 4 boolV (gs j) (word.length + 1) (O' j)) → At w L ⟨gs hn, 0 + a, none⟩ (.bool true) := by rw [← hOb]; exact hbit0
              repeat (first
                | refine qv rfl (qp rfl) rfl rfl ?_ | refine TL_nil ?_ | refine T_seq ?_ | refine T_region ?_ | refine qcT rfl ?_ | refine qcF rfl ?_ | refine T_skip ?_
                | refine T_exit ?_ | refine T_ret ?_ | refine T_block ?_ | refine E_then ?_ | refine E_thenX ?_ | refine E_thenR ?_ | refine E_blockN ?_
                | refine E_blockR ?_ | refine E_blockX ?_ | refine E_blockO rfl ?_ | refine qs rfl rfl rfl rfl rfl rfl ?_
                | ((try refine qg rfl rfl rfl ?_); first | refine qv rfl (qp rfl) rfl rfl ?_ | refine qv rfl (rr_load1 TyC.ty rfl (at_blk (i := 6) rfl rfl)) rfl rfl ?_ | refine qv rfl (rr_idx1 Und.eq TyC.ty rfl rfl hlt) rfl rfl ?_ | refine qv rfl (rr_load1 TyC.ty rfl (at_rowA (i := 5) rfl hlt)) rfl rfl ?_ | refine qv rfl (rr_idx1 Und.eq TyC.ty rfl rfl c9) rfl rfl ?_ | refine qv rfl (rr_load1 TyC.ty rfl (hbit _ rfl)) rfl rfl ?_ | refine qv rfl (qlen Und.eq rfl) rfl rfl ?_ | refine qv rfl (qfld FldC.fld rfl rfl) rfl rfl ?_ | refine qv rfl (rr_not rfl rfl) rfl rfl ?_ | refine qv rfl (rr_lss rfl rfl (qT (by omega))) rfl rfl ?_ | refine qv rfl (rr_lss rfl rfl (qF (by omega))) rfl rfl ?_ | refine qv rfl (rr_neq rfl rfl (qT (by omega))) rfl rfl ?_ | refine qv rfl (rr_neq rfl rfl (qF (by omega))) rfl rfl ?_ | refine qv rfl (rr_add64 rfl rfl (by omega) (by omega) rfl) rfl rfl ?_))
              exact E_round (a + 1, O', m2) ⟨by omega, hskip O' m2 a l2 (.inl hOb)⟩ (by show word.length + 1 - (a + 1) < word.length + 1 - a; omega) (by repeat' (first | exact True.intro | refine And.intro rfl ?_)) rfl
          · obtain rfl : a = word.length + 1 := by omega
            repeat (first
              | refine qv rfl (qp rfl) rfl rfl ?_ | refine TL_nil ?_ | refine T_seq ?_ | refine T_region ?_ | refine qcT rfl ?_ | refine qcF rfl ?_ | refine T_skip ?_
              | refine T_exit ?_ | refine T_ret ?_ | refine T_block ?_ | refine E_then ?_ | refine E_thenX ?_ | refine E_thenR ?_ | refine E_blockN ?_
              | refine E_blockR ?_ | refine E_blockX ?_ | refine E_blockO rfl ?_ | refine qs rfl rfl rfl rfl rfl rfl ?_
              | ((try refine qg rfl rfl rfl ?_); first | refine qv rfl (qp rfl) rfl rfl ?_ | refine qv rfl (qlen Und.eq rfl) rfl rfl ?_ | refine qv rfl (qfld FldC.fld rfl rfl) rfl rfl ?_ | refine qv rfl (rr_not rfl rfl) rfl rfl ?_ | refine qv rfl (rr_lss rfl rfl (qT (by omega))) rfl rfl ?_ | refine qv rfl (rr_lss rfl rfl (qF (by omega))) rfl rfl ?_ | refine qv rfl (rr_neq rfl rfl (qT (by omega))) rfl rfl ?_ | refine qv rfl (rr_neq rfl rfl (qF (by omega))) rfl rfl ?_ | refine qv rfl (rr_add64 rfl rfl (by omega) (by omega) rfl) rfl rfl ?_))
            refine E_pick [0, 1, 2, 3, 4, 5, 7] (by decide) rfl ?_
            exact E_round (i + 1, O', m2) ⟨by omega, l2.next⟩ (by show prods.length - (i + 1) < prods.length - i; omega) (by repeat' (first | exact True.intro | refine And.intro rfl ?_)) rfl
        · obtain rfl : i = prods.length := by omega
          repeat (first
            | refine qv rfl (qp rfl) rfl rfl ?_ | refine TL_nil ?_ | refine T_seq ?_ | refine T_region ?_ | refine qcT rfl ?_ | refine qcF rfl ?_ | refine T_skip ?_
            | refine T_exit ?_ | refine T_ret ?_ | refine T_block ?_ | refine E_then ?_ | refine E_thenX ?_ | refine E_thenR ?_ | refine E_blockN ?_
            | refine E_blockR ?_ | refine E_blockX ?_ | refine E_blockO rfl ?_ | refine qs rfl rfl rfl rfl rfl rfl ?_
            | ((try refine qg rfl rfl rfl ?_); first | refine qv rfl (qp rfl) rfl rfl ?_ | refine qv rfl (qlen Und.eq rfl) rfl rfl ?_ | refine qv rfl (qfld FldC.fld rfl rfl) rfl rfl ?_ | refine qv rfl (rr_not rfl rfl) rfl rfl ?_ | refine qv rfl (rr_lss rfl rfl (qT (by omega))) rfl rfl ?_ | refine qv rfl (rr_lss rfl rfl (qF (by omega))) rfl rfl ?_ | refine qv rfl (rr_neq rfl rfl (qT (by omega))) rfl rfl ?_ | refine qv rfl (rr_neq rfl rfl (qF (by omega))) rfl rfl ?_ | refine qv rfl (rr_add64 rfl rfl (by omega) (by omega) rfl) rfl rfl ?_))
          cases hm2 : m2
          · exact E_round (O', false) ⟨j2.sound, fun _ => hbg2 O O' k (by rw [← hm2]; exact j2)⟩ (by dsimp only; rw [(j2.still hm2).1]; simp) (by repeat' (first | exact True.intro | refine And.intro rfl ?_)) rfl
          · have := j2.less hm2
            exact E_round (O', true) ⟨j2.sound, fun h => by cases h⟩ (by dsimp only; simp; omega) (by repeat' (first | exact True.intro | refine And.intro rfl ?_)) rfl
  · have hb : beginsB g word = false := by
      cases hb : beginsB g word
      · rfl
      · exact absurd (begins_iff.1 hb).1 c0
    rw [hb]
    obtain ⟨vp, rfl, h1, _⟩ := h
    obtain ⟨bw, cw, rfl, _⟩ := hs
    generalize checkC g word = e at *
    obtain ⟨t, n, prods⟩ := g
    dsimp only at *
    refine enter (args := [graV t n vp, .slice bw word.length cw]) (n := 93) Try.func21 rfl rfl rfl ?_
    refine T_seq (T_region (TL_box rfl rfl rfl fun g2 => ?_))
    conv => arg 8; simp only [zA, zB, zC, zD, zE, zF, zG, zH, zI, rowS, ret, id_eq]
    repeat (first
      | refine qv rfl (qp rfl) rfl rfl ?_ | refine TL_nil ?_ | refine T_seq ?_ | refine T_region ?_ | refine qcT rfl ?_ | refine qcF rfl ?_ | refine T_skip ?_
      | refine T_exit ?_ | refine T_ret ?_ | refine T_block ?_ | refine E_then ?_ | refine E_thenX ?_ | refine E_thenR ?_ | refine E_blockN ?_
      | refine E_blockR ?_ | refine E_blockX ?_ | refine E_blockO rfl ?_ | refine qs rfl rfl rfl rfl rfl rfl ?_
      | ((try refine qg rfl rfl rfl ?_); first | refine qv rfl (qp rfl) rfl rfl ?_ | refine qv rfl (rr_loadB (i := 0) TyC.ty rfl rfl rfl) rfl rfl ?_ | refine qv rfl (qlen Und.eq rfl) rfl rfl ?_ | refine qv rfl (qfld FldC.fld rfl rfl) rfl rfl ?_ | refine qv rfl (rr_not rfl rfl) rfl rfl ?_ | refine qv rfl (rr_lss rfl rfl (qT (by omega))) rfl rfl ?_ | refine qv rfl (rr_lss rfl rfl (qF (by omega))) rfl rfl ?_ | refine qv rfl (rr_neq rfl rfl (qT (by omega))) rfl rfl ?_ | refine qv rfl (rr_neq rfl rfl (qF (by omega))) rfl rfl ?_ | refine qv rfl (rr_add64 rfl rfl (by omega) (by omega) rfl) rfl rfl ?_))
    refine TL_call (he2 EntersC.en rfl rfl rfl) (fun w hm => hck _ hm.below) rfl rfl rfl ?_
    intro _ _
    conv => arg 8; simp only [zA, zB, zC, zD, zE, zF, zG, zH, zI, rowS, ret, id_eq]
    repeat (first
      | refine qv rfl (qp rfl) rfl rfl ?_ | refine TL_nil ?_ | refine T_seq ?_ | refine T_region ?_ | refine qcT rfl ?_ | refine qcF rfl ?_ | refine T_skip ?_
      | refine T_exit ?_ | refine T_ret ?_ | refine T_block ?_ | refine E_then ?_ | refine E_thenX ?_ | refine E_thenR ?_ | refine E_blockN ?_
      | refine E_blockR ?_ | refine E_blockX ?_ | refine E_blockO rfl ?_ | refine qs rfl rfl rfl rfl rfl rfl ?_
      | ((try refine qg rfl rfl rfl ?_); first | refine qv rfl (qp rfl) rfl rfl ?_ | refine qv rfl (qlen Und.eq rfl) rfl rfl ?_ | refine qv rfl (qfld FldC.fld rfl rfl) rfl rfl ?_ | refine qv rfl (rr_not rfl rfl) rfl rfl ?_ | refine qv rfl (rr_lss rfl rfl (qT (by omega))) rfl rfl ?_ | refine qv rfl (rr_lss rfl rfl (qF (by omega))) rfl rfl ?_ | refine qv rfl (rr_neq rfl rfl (qT (by omega))) rfl rfl ?_ | refine qv rfl (rr_neq rfl rfl (qF (by omega))) rfl rfl ?_ | refine qv rfl (rr_add64 rfl rfl (by omega) (by omega) rfl) rfl rfl ?_))
    exact E_ret2 rfl rfl rfl fun w hm => hm.ret
end Go.Proofs.Ytkkiopmdcolobaa.eng

/- BoolC -/
namespace Go.Proofs.Ytkkiopmdcolobaa.eng
open Go.RowKit kit mix
set_option maxHeartbeats 2000000 in
theorem indexBool_calls (v : Value) (l : List Bool) (x : Bool) (w : World) (hs : Sl w v l.length (l.map .bool)) :
    Calls Try.prog 39 #[v, .bool x] w (Meets (ret (.int .i64 (idxF (· == x) l))) w) := by
  obtain ⟨base, cap, rfl, hcap, hmax, hrd⟩ := hs
  unfold maxLen at hmax
  refine enter (args := [.slice base l.length cap, .bool x]) (n := 19) Try.func39 rfl rfl rfl ?_
  repeat (first
    | refine qv rfl (qp rfl) rfl rfl ?_ | refine TL_nil ?_ | refine T_seq ?_ | refine T_region ?_ | refine qcT rfl ?_ | refine qcF rfl ?_ | refine T_skip ?_
    | refine T_exit ?_ | refine T_ret ?_ | refine T_block ?_ | refine E_then ?_ | refine E_thenX ?_ | refine E_thenR ?_ | refine E_blockN ?_
    | refine E_blockR ?_ | refine E_blockX ?_ | refine E_blockO rfl ?_ | refine qv rfl (qlen Und.eq rfl) rfl rfl ?_
    | refine qv rfl (rr_lss rfl rfl (qT (by omega))) rfl rfl ?_ | refine qv rfl (rr_lss rfl rfl (qF (by omega))) rfl rfl ?_
    | refine qv rfl (rr_add64 rfl rfl (by omega) (by omega) rfl) rfl rfl ?_)
  refine T_loop (ι := Nat) (fun k => k ≤ l.length ∧ ∀ j (hj : j < l.length), j < k → (l[j] == x) = false) (fun k => [(0, .slice base l.length cap), (1, .bool x), (7, .int .i64 l.length), (8, .int .i64 (k : Int))]) (fun _ => []) (fun k => l.length - k) 0 ⟨by omega, fun j hj h => by omega⟩ (by repeat' (first | exact True.intro | refine And.intro rfl ?_)) rfl ?_
  rintro k ⟨h1, h2⟩
  by_cases c2 : k < l.length
  · obtain ⟨b, off, rfl, hr⟩ := hrd (by omega)
    have hat := at_rdm (L := ([] : List Own)) hr c2
    by_cases c3 : (l[k] == x) = true
    · rw [idxF_some c2 c3 h2]
      have e : x = l[k] := by simpa using (beq_iff_eq.1 c3).symm
      clear h2 hrd
      subst e
      repeat (first
        | refine qv rfl (qp rfl) rfl rfl ?_ | refine TL_nil ?_ | refine T_seq ?_ | refine T_region ?_ | refine qcT rfl ?_ | refine qcF rfl ?_ | refine T_skip ?_
        | refine T_exit ?_ | refine T_ret ?_ | refine T_block ?_ | refine E_then ?_ | refine E_thenX ?_ | refine E_thenR ?_ | refine E_blockN ?_
        | refine E_blockR ?_ | refine E_blockX ?_ | refine E_blockO rfl ?_ | refine qv rfl (rr_idx1 Und.eq TyC.ty rfl rfl c2) rfl rfl ?_
        | refine qv rfl (rr_load1 TyC.ty rfl hat) rfl rfl ?_ | refine qv rfl (rr_booleq (c := true) Und.eq rfl rfl (by simp)) rfl rfl ?_
        | refine qv rfl (qlen Und.eq rfl) rfl rfl ?_ | refine qv rfl (rr_lss rfl rfl (qT (by omega))) rfl rfl ?_
        | refine qv rfl (rr_lss rfl rfl (qF (by omega))) rfl rfl ?_ | refine qv rfl (rr_add64 rfl rfl (by omega) (by omega) rfl) rfl rfl ?_)
      exact E_ret1 rfl rfl fun w hm => hm.ret
    · have c3' : (l[k] == x) = false := by simpa using c3
      have e : (x == l[k]) = false := by rw [beq_eq_false_iff_ne] at c3' ⊢; exact fun h => c3' h.symm
      clear hrd c3
      repeat (first
        | refine qv rfl (qp rfl) rfl rfl ?_ | refine TL_nil ?_ | refine T_seq ?_ | refine T_region ?_ | refine qcT rfl ?_ | refine qcF rfl ?_ | refine T_skip ?_
        | refine T_exit ?_ | refine T_ret ?_ | refine T_block ?_ | refine E_then ?_ | refine E_thenX ?_ | refine E_thenR ?_ | refine E_blockN ?_
        | refine E_blockR ?_ | refine E_blockX ?_ | refine E_blockO rfl ?_ | refine qv rfl (rr_idx1 Und.eq TyC.ty rfl rfl c2) rfl rfl ?_
        | refine qv rfl (rr_load1 TyC.ty rfl hat) rfl rfl ?_ | refine qv rfl (rr_booleq (c := false) Und.eq rfl rfl e) rfl rfl ?_
        | refine qv rfl (qlen Und.eq rfl) rfl rfl ?_ | refine qv rfl (rr_lss rfl rfl (qT (by omega))) rfl rfl ?_
        | refine qv rfl (rr_lss rfl rfl (qF (by omega))) rfl rfl ?_ | refine qv rfl (rr_add64 rfl rfl (by omega) (by omega) rfl) rfl rfl ?_)
      exact E_round (k + 1) ⟨by omega, fun j hj h => if e : j < k then h2 j hj e else (by obtain rfl : j = k := (by omega); exact c3')⟩ (by show l.length - (k + 1) < l.length - k; omega) (by repeat' (first | exact True.intro | refine And.intro rfl ?_)) rfl
  · rw [idxF_none fun j hj => h2 j hj (by omega)]
    clear h2 hrd
    repeat (first
      | refine qv rfl (qp rfl) rfl rfl ?_ | refine TL_nil ?_ | refine T_seq ?_ | refine T_region ?_ | refine qcT rfl ?_ | refine qcF rfl ?_ | refine T_skip ?_
      | refine T_exit ?_ | refine T_ret ?_ | refine T_block ?_ | refine E_then ?_ | refine E_thenX ?_ | refine E_thenR ?_ | refine E_blockN ?_
      | refine E_blockR ?_ | refine E_blockX ?_ | refine E_blockO rfl ?_ | refine qv rfl (qlen Und.eq rfl) rfl rfl ?_
      | refine qv rfl (rr_lss rfl rfl (qT (by omega))) rfl rfl ?_ | refine qv rfl (rr_lss rfl rfl (qF (by omega))) rfl rfl ?_
      | refine qv rfl (rr_add64 rfl rfl (by omega) (by omega) rfl) rfl rfl ?_)
    exact E_ret1 rfl rfl fun w hm => hm.ret
theorem containsBool_calls (v : Value) (l : List Bool) (x : Bool) (w : World) (hs : Sl w v l.length (l.map .bool)) :
    Calls Try.prog 20 #[v, .bool x] w (Meets (ret (.bool (l.any (· == x)))) w) := by
  refine enter (args := [v, .bool x]) (n := 9) Try.func20 rfl rfl rfl ?_
  have hh := fun w' (hg : Gr w w') => indexBool_calls v l x w' (hs.gr hg)
  have hr := idxF_range (· == x) l
  rw [← idxF_any (· == x) l]
  generalize idxF (· == x) l = r at *
  repeat (first
    | refine qv rfl (qp rfl) rfl rfl ?_ | refine TL_nil ?_ | refine T_seq ?_ | refine T_region ?_ | refine T_ret ?_ | refine E_then ?_ | refine E_thenR ?_
    | refine qv rfl (rr_geq rfl rfl (qT (by omega))) rfl rfl ?_ | refine qv rfl (rr_geq rfl rfl (qF (by omega))) rfl rfl ?_)
  refine TL_call (he2 EntersC.en rfl rfl rfl) (fun w hm => hh _ hm.below) rfl rfl rfl ?_
  intro _ _
  repeat (first
    | refine qv rfl (qp rfl) rfl rfl ?_ | refine TL_nil ?_ | refine T_seq ?_ | refine T_region ?_ | refine T_ret ?_ | refine E_then ?_ | refine E_thenR ?_
    | refine qv rfl (rr_geq rfl rfl rfl) rfl rfl ?_ | refine qv rfl (rr_geq rfl rfl (qT (by omega))) rfl rfl ?_
    | refine qv rfl (rr_geq rfl rfl (qF (by omega))) rfl rfl ?_)
  exact E_ret1 rfl rfl fun w hm => hm.ret
end Go.Proofs.Ytkkiopmdcolobaa.eng

/- ClimbF -/
namespace Go.Proofs.Ytkkiopmdcolobaa.eng
open Go.RowKit kit mix gramL treeL climbL llL countL factsL derL
theorem sl_upto {α : Type} {f : α → Value} {w : World} {b : Option Addr} {c : Nat} {l : List α} (h : Sl w (.slice b l.length c) l.length (l.map f)) {k : Nat} (hk : k ≤ l.length) : Sl w (.slice b k c) (l.take k).length ((l.take k).map f) := by
  obtain ⟨b', c', he, h1, h2, h3⟩ := h
  simp only [Value.slice.injEq, true_and] at he
  obtain ⟨rfl, rfl⟩ := he
  have hl : (l.take k).length = k := by rw [List.length_take]; omega
  refine ⟨b, c, by rw [hl], by rw [hl]; omega, h2, fun h0 => ?_⟩
  rw [hl] at h0
  obtain ⟨b', off, e, hr⟩ := h3 (by omega)
  refine ⟨b', off, e, fun j u hj => hr j u ?_⟩
  rw [List.map_take, List.getElem?_take] at hj
  split at hj
  · exact hj
  · cases hj
set_option maxHeartbeats 4000000 in
theorem soon_calls (v vw : Value) (g : Gram) (word : List Int) (had n : Nat) (e : Int) (w : World) (h : GraR (fun k => k < w.heap.size) w v g) (hs : Sl w vw word.length (word.map (.int .i64))) (hc : checkC g word = 0) (hn : g.nons = n) (hle : had ≤ word.length)
    (H : (ofS n g.prods).M.any (· == false) = false → e ≠ 14 → beginsB g (word.take had) = true ∧ (had ≠ word.length → beginsB g (word.take (had + 1)) = false)) :
    Calls Try.prog 9 #[v, vw, .int .i64 (had : Int), .int .i64 e] w (Meets (ret (.bool true)) w) := by
  have hck := (checkC_ok hc).1
  have hOf := fun w' (hg : Gr w w') => of_calls v g w' (h.gr hg) hck n hn
  have hB := fun v' l w' (hg : Gr w w') hs => begins_calls v v' g l w' (h.gr hg) hs
  obtain ⟨⟨_, _, hM⟩, _⟩ := sound_of hck hn
  obtain ⟨vp, rfl, _⟩ := h
  have hs0 := hs
  obtain ⟨bw, cw, rfl, hw1, hw2, hw3⟩ := hs
  unfold maxLen at hw2
  refine enter (args := [graV g.terms g.nons vp, .slice bw word.length cw, .int .i64 (had : Int), .int .i64 e]) (n := 54) Try.func9 rfl rfl rfl ?_
  refine T_seq (T_region (TL_box rfl rfl rfl fun g4 => ?_))
  conv => arg 8; simp only [zA, zB, zC, zD, zE, zF, zG, zH, zI, rowS, ret, id_eq]
  repeat (first
    | refine qv rfl (qp rfl) rfl rfl ?_ | refine TL_nil ?_ | refine T_seq ?_ | refine T_region ?_ | refine qcT rfl ?_ | refine qcF rfl ?_ | refine T_skip ?_
    | refine T_ret ?_ | refine E_then ?_ | refine E_thenR ?_ | refine qs rfl rfl rfl rfl rfl rfl ?_
    | ((try refine qg rfl rfl rfl ?_); first | refine qv rfl (qp rfl) rfl rfl ?_ | refine qv rfl (rr_loadB (i := 0) TyC.ty rfl rfl rfl) rfl rfl ?_ | refine qv rfl (qlen Und.eq rfl) rfl rfl ?_ | refine qv rfl (qfld FldC.fld rfl rfl) rfl rfl ?_ | refine qv rfl (rr_eql rfl rfl (qT (by omega))) rfl rfl ?_ | refine qv rfl (rr_eql rfl rfl (qF (by omega))) rfl rfl ?_ | refine qv rfl (rr_add64 rfl rfl (by omega) (by omega) rfl) rfl rfl ?_ | refine qv rfl (rr_not rfl rfl) rfl rfl ?_))
  refine TL_call (he1 EntersC.en rfl rfl) (fun w' hm => (hOf w' hm.below).mono fun e w2 h => meets_of h) rfl rfl rfl ?_
  intro x _
  conv => arg 8; simp only [zA, zB, zC, zD, zE, zF, zG, zH, zI, rowS, ret, id_eq, Rows5.val]
  repeat (first
    | refine qv rfl (qp rfl) rfl rfl ?_ | refine TL_nil ?_ | refine T_seq ?_ | refine T_region ?_ | refine qcT rfl ?_ | refine qcF rfl ?_ | refine T_skip ?_
    | refine T_ret ?_ | refine E_then ?_ | refine E_thenR ?_ | refine qs rfl rfl rfl rfl rfl rfl ?_
    | ((try refine qg rfl rfl rfl ?_); first | refine qv rfl (qp rfl) rfl rfl ?_ | refine qv rfl (qlen Und.eq rfl) rfl rfl ?_ | refine qv rfl (qfld FldC.fld rfl rfl) rfl rfl ?_ | refine qv rfl (rr_eql rfl rfl (qT (by omega))) rfl rfl ?_ | refine qv rfl (rr_eql rfl rfl (qF (by omega))) rfl rfl ?_ | refine qv rfl (rr_add64 rfl rfl (by omega) (by omega) rfl) rfl rfl ?_ | refine qv rfl (rr_not rfl rfl) rfl rfl ?_))
  refine TL_new rfl fun g9 => ?_
  refine TL_storeB (i := 6) rfl rfl rfl rfl rfl rfl ?_
  conv => arg 8; simp only [zA, zB, zC, zD, zE, zF, zG, zH, zI, rowS, ret, id_eq]
  generalize (ofS n g.prods).M = M at *
  repeat (first
    | refine qv rfl (qp rfl) rfl rfl ?_ | refine TL_nil ?_ | refine T_seq ?_ | refine T_region ?_ | refine qcT rfl ?_ | refine qcF rfl ?_ | refine T_skip ?_
    | refine T_ret ?_ | refine E_then ?_ | refine E_thenR ?_ | refine qs rfl rfl rfl rfl rfl rfl ?_
    | ((try refine qg rfl rfl rfl ?_); first | refine qv rfl (qp rfl) rfl rfl ?_ | refine qv rfl (rr_load1 TyC.ty rfl (at_blk (i := 6) rfl rfl)) rfl rfl ?_ | refine qv rfl (qlen Und.eq rfl) rfl rfl ?_ | refine qv rfl (qfld FldC.fld rfl rfl) rfl rfl ?_ | refine qv rfl (rr_eql rfl rfl (qT (by omega))) rfl rfl ?_ | refine qv rfl (rr_eql rfl rfl (qF (by omega))) rfl rfl ?_ | refine qv rfl (rr_add64 rfl rfl (by omega) (by omega) rfl) rfl rfl ?_ | refine qv rfl (rr_not rfl rfl) rfl rfl ?_))
  refine TL_call (he2 EntersC.en rfl rfl rfl) (fun w' hm => containsBool_calls _ M false w' (by have := Sl.of_own (hm.get (i := 5) rfl); rw [hM]; exact this)) rfl rfl rfl ?_
  intro _ _
  conv => arg 8; simp only [zA, zB, zC, zD, zE, zF, zG, zH, zI, rowS, ret, id_eq]
  cases hany : M.any (· == false) with
  | true =>
    repeat (first
      | refine qv rfl (qp rfl) rfl rfl ?_ | refine TL_nil ?_ | refine T_seq ?_ | refine T_region ?_ | refine qcT rfl ?_ | refine qcF rfl ?_ | refine T_skip ?_
      | refine T_ret ?_ | refine E_then ?_ | refine E_thenR ?_ | refine qs rfl rfl rfl rfl rfl rfl ?_
      | ((try refine qg rfl rfl rfl ?_); first | refine qv rfl (qp rfl) rfl rfl ?_ | refine qv rfl (qlen Und.eq rfl) rfl rfl ?_ | refine qv rfl (qfld FldC.fld rfl rfl) rfl rfl ?_ | refine qv rfl (rr_eql rfl rfl (qT (by omega))) rfl rfl ?_ | refine qv rfl (rr_eql rfl rfl (qF (by omega))) rfl rfl ?_ | refine qv rfl (rr_add64 rfl rfl (by omega) (by omega) rfl) rfl rfl ?_ | refine qv rfl (rr_not rfl rfl) rfl rfl ?_))
    exact E_ret1 rfl rfl fun w hm => hm.ret
  | false =>
    by_cases c14 : e = 14
    · subst c14
      repeat (first
        | refine qv rfl (qp rfl) rfl rfl ?_ | refine TL_nil ?_ | refine T_seq ?_ | refine T_region ?_ | refine qcT rfl ?_ | refine qcF rfl ?_ | refine T_skip ?_
        | refine T_ret ?_ | refine E_then ?_ | refine E_thenR ?_ | refine qs rfl rfl rfl rfl rfl rfl ?_
        | ((try refine qg rfl rfl rfl ?_); first | refine qv rfl (qp rfl) rfl rfl ?_ | refine qv rfl (rr_eql (b := true) rfl rfl rfl) rfl rfl ?_ | refine qv rfl (qlen Und.eq rfl) rfl rfl ?_ | refine qv rfl (qfld FldC.fld rfl rfl) rfl rfl ?_ | refine qv rfl (rr_eql rfl rfl (qT (by omega))) rfl rfl ?_ | refine qv rfl (rr_eql rfl rfl (qF (by omega))) rfl rfl ?_ | refine qv rfl (rr_add64 rfl rfl (by omega) (by omega) rfl) rfl rfl ?_ | refine qv rfl (rr_not rfl rfl) rfl rfl ?_))
      exact E_ret1 rfl rfl fun w hm => hm.ret
    · obtain ⟨H1, H2⟩ := H hany c14
      repeat (first
        | refine qv rfl (qp rfl) rfl rfl ?_ | refine TL_nil ?_ | refine T_seq ?_ | refine T_region ?_ | refine qcT rfl ?_ | refine qcF rfl ?_ | refine T_skip ?_
        | refine T_ret ?_ | refine E_then ?_ | refine E_thenR ?_ | refine qs rfl rfl rfl rfl rfl rfl ?_
        | ((try refine qg rfl rfl rfl ?_); first | refine qv rfl (qp rfl) rfl rfl ?_ | refine qv rfl (qlen Und.eq rfl) rfl rfl ?_ | refine qv rfl (qfld FldC.fld rfl rfl) rfl rfl ?_ | refine qv rfl (rr_eql rfl rfl (qT (by omega))) rfl rfl ?_ | refine qv rfl (rr_eql rfl rfl (qF (by omega))) rfl rfl ?_ | refine qv rfl (rr_add64 rfl rfl (by omega) (by omega) rfl) rfl rfl ?_ | refine qv rfl (rr_not rfl rfl) rfl rfl ?_))
      refine T_ord ([blkO g4 (graV g.terms g.nons vp).cells 24]) (.calm 0 (.calm 1 (.calm 2 (.calm 3 (.calm 4 (.calm 5 (.calm 6 (.calm 7 (.calm 8 (.calm 9 (.done))))))))))) (sub_pick [0] (by decide) rfl) (by kernel_rfl) (by kernel_rfl) (by intro c a d v w h; cases d <;> exact h) ?_
      repeat (first
        | ((first | refine TW_plain rfl rfl ?_ | refine TW_gmet rfl rfl rfl rfl ?_); first | refine TN_val (qp rfl) rfl rfl ?_ | refine TN_val (rr_loadB (i := 0) TyC.ty rfl rfl rfl) rfl rfl ?_ | refine TN_val (rr_slpre Und.eq TyC.ty rfl rfl (by omega)) rfl rfl ?_ | refine TN_val (qlen Und.eq rfl) rfl rfl ?_ | refine TN_val (qfld FldC.fld rfl rfl) rfl rfl ?_ | refine TN_val (rr_eql rfl rfl (qT (by omega))) rfl rfl ?_ | refine TN_val (rr_eql rfl rfl (qF (by omega))) rfl rfl ?_ | refine TN_val (rr_add64 rfl rfl (by omega) (by omega) rfl) rfl rfl ?_ | refine TN_val (rr_not rfl rfl) rfl rfl ?_)
        | refine TW_skip rfl rfl rfl rfl rfl rfl rfl ?_ | refine TW_done ?_)
      refine TW_call rfl (he2 EntersC.en rfl rfl rfl) (fun w hm => hB _ (word.take had) _ hm.below (sl_upto (hs0.gr hm.below) hle)) rfl rfl rfl ?_
      rw [H1]
      repeat (first
        | ((first | refine TW_plain rfl rfl ?_ | refine TW_gmet rfl rfl rfl rfl ?_); first | refine TN_val (qp rfl) rfl rfl ?_ | refine TN_val (qlen Und.eq rfl) rfl rfl ?_ | refine TN_val (qfld FldC.fld rfl rfl) rfl rfl ?_ | refine TN_val (rr_eql rfl rfl (qT (by omega))) rfl rfl ?_ | refine TN_val (rr_eql rfl rfl (qF (by omega))) rfl rfl ?_ | refine TN_val (rr_add64 rfl rfl (by omega) (by omega) rfl) rfl rfl ?_ | refine TN_val (rr_not rfl rfl) rfl rfl ?_)
        | refine TW_skip rfl rfl rfl rfl rfl rfl rfl ?_ | refine TW_done ?_)
      by_cases c1 : had = word.length
      · repeat (first
          | refine qv rfl (qp rfl) rfl rfl ?_ | refine TL_nil ?_ | refine T_seq ?_ | refine T_region ?_ | refine qcT rfl ?_ | refine qcF rfl ?_ | refine T_skip ?_
          | refine T_ret ?_ | refine E_then ?_ | refine E_thenR ?_ | refine qs rfl rfl rfl rfl rfl rfl ?_
          | ((try refine qg rfl rfl rfl ?_); first | refine qv rfl (qp rfl) rfl rfl ?_ | refine qv rfl (rr_len Und.eq rfl) rfl rfl ?_ | refine qv rfl (qlen Und.eq rfl) rfl rfl ?_ | refine qv rfl (qfld FldC.fld rfl rfl) rfl rfl ?_ | refine qv rfl (rr_eql rfl rfl (qT (by omega))) rfl rfl ?_ | refine qv rfl (rr_eql rfl rfl (qF (by omega))) rfl rfl ?_ | refine qv rfl (rr_add64 rfl rfl (by omega) (by omega) rfl) rfl rfl ?_ | refine qv rfl (rr_not rfl rfl) rfl rfl ?_))
        exact E_ret1 rfl rfl fun w hm => hm.ret
      · have H2 := H2 c1
        repeat (first
          | refine qv rfl (qp rfl) rfl rfl ?_ | refine TL_nil ?_ | refine T_seq ?_ | refine T_region ?_ | refine qcT rfl ?_ | refine qcF rfl ?_ | refine T_skip ?_
          | refine T_ret ?_ | refine E_then ?_ | refine E_thenR ?_ | refine qs rfl rfl rfl rfl rfl rfl ?_
          | ((try refine qg rfl rfl rfl ?_); first | refine qv rfl (qp rfl) rfl rfl ?_ | refine qv rfl (rr_len Und.eq rfl) rfl rfl ?_ | refine qv rfl (qlen Und.eq rfl) rfl rfl ?_ | refine qv rfl (qfld FldC.fld rfl rfl) rfl rfl ?_ | refine qv rfl (rr_eql rfl rfl (qT (by omega))) rfl rfl ?_ | refine qv rfl (rr_eql rfl rfl (qF (by omega))) rfl rfl ?_ | refine qv rfl (rr_add64 rfl rfl (by omega) (by omega) rfl) rfl rfl ?_ | refine qv rfl (rr_not rfl rfl) rfl rfl ?_))
        refine T_ord ([blkO g4 (graV g.terms g.nons vp).cells 24]) (.calm 0 (.calm 1 (.calm 2 (.calm 3 (.calm 4 (.calm 5 (.calm 6 (.calm 7 (.calm 8 (.calm 9 (.calm 10 (.done)))))))))))) (sub_pick [0] (by decide) rfl) (by kernel_rfl) (by kernel_rfl) (by intro c a d v w h; cases d <;> exact h) ?_
        repeat (first
          | ((first | refine TW_plain rfl rfl ?_ | refine TW_gmet rfl rfl rfl rfl ?_); first | refine TN_val (qp rfl) rfl rfl ?_ | refine TN_val (rr_loadB (i := 0) TyC.ty rfl rfl rfl) rfl rfl ?_ | refine TN_val (rr_add64 (r := ((had + 1 : Nat) : Int)) rfl rfl (by omega) (by omega) (by omega)) rfl rfl ?_ | refine TN_val (rr_slpre Und.eq TyC.ty rfl rfl (by omega)) rfl rfl ?_ | refine TN_val (qlen Und.eq rfl) rfl rfl ?_ | refine TN_val (qfld FldC.fld rfl rfl) rfl rfl ?_ | refine TN_val (rr_eql rfl rfl (qT (by omega))) rfl rfl ?_ | refine TN_val (rr_eql rfl rfl (qF (by omega))) rfl rfl ?_ | refine TN_val (rr_add64 rfl rfl (by omega) (by omega) rfl) rfl rfl ?_ | refine TN_val (rr_not rfl rfl) rfl rfl ?_)
          | refine TW_skip rfl rfl rfl rfl rfl rfl rfl ?_ | refine TW_done ?_)
        refine TW_call rfl (he2 EntersC.en rfl rfl rfl) (fun w hm => hB _ (word.take (had + 1)) _ hm.below (sl_upto (hs0.gr hm.below) (by omega))) rfl rfl rfl ?_
        rw [H2]
        repeat (first
          | ((first | refine TW_plain rfl rfl ?_ | refine TW_gmet rfl rfl rfl rfl ?_); first | refine TN_val (qp rfl) rfl rfl ?_ | refine TN_val (qlen Und.eq rfl) rfl rfl ?_ | refine TN_val (qfld FldC.fld rfl rfl) rfl rfl ?_ | refine TN_val (rr_eql rfl rfl (qT (by omega))) rfl rfl ?_ | refine TN_val (rr_eql rfl rfl (qF (by omega))) rfl rfl ?_ | refine TN_val (rr_add64 rfl rfl (by omega) (by omega) rfl) rfl rfl ?_ | refine TN_val (rr_not rfl rfl) rfl rfl ?_)
          | refine TW_skip rfl rfl rfl rfl rfl rfl rfl ?_ | refine TW_done ?_)
        repeat (first
          | refine qv rfl (qp rfl) rfl rfl ?_ | refine TL_nil ?_ | refine T_seq ?_ | refine T_region ?_ | refine qcT rfl ?_ | refine qcF rfl ?_ | refine T_skip ?_
          | refine T_ret ?_ | refine E_then ?_ | refine E_thenR ?_ | refine qs rfl rfl rfl rfl rfl rfl ?_
          | ((try refine qg rfl rfl rfl ?_); first | refine qv rfl (qp rfl) rfl rfl ?_ | refine qv rfl (qlen Und.eq rfl) rfl rfl ?_ | refine qv rfl (qfld FldC.fld rfl rfl) rfl rfl ?_ | refine qv rfl (rr_eql rfl rfl (qT (by omega))) rfl rfl ?_ | refine qv rfl (rr_eql rfl rfl (qF (by omega))) rfl rfl ?_ | refine qv rfl (rr_add64 rfl rfl (by omega) (by omega) rfl) rfl rfl ?_ | refine qv rfl (rr_not rfl rfl) rfl rfl ?_))
        exact E_ret1 rfl rfl fun w hm => hm.ret
end Go.Proofs.Ytkkiopmdcolobaa.eng

/- ClimbSoonW -/
namespace Go.Proofs.Ytkkiopmdcolobaa.climbSoon
open Go.RowKit kit mix gramL treeL climbL llL countL factsL derL eng
theorem brk_ok : checkG brkG = 0 ∧ freeL brkG.prods (mayG 1 brkG.prods) 2 1 = true ∧ rowsL brkG 2 1 = [[1, 0, 0]] := ⟨by kernel_rfl, by kernel_rfl, by kernel_rfl⟩
theorem brk_run : (runF brkG.prods (fun n col => nxL [[1, 0, 0]] col n) 2 [0, 1, 1, 0] [.sym (2, 0)] 0 []).2 = (2, 13) := by kernel_rfl
set_option maxRecDepth 100000 in
set_option maxHeartbeats 8000000 in
theorem walk (w : World) (v : Value) (g : Gram) (h : GraR (fun k => k < w.heap.size) w v g) (_ : g.prods.length * 32 ≤ 140737488351232) (vw : Value) (word : List Int) (hs : Sl w vw word.length (word.map (.int .i64))) (_ : ∀ n ∈ word, kit.okI64 n) (hl : word.length * 8 ≤ 140737488351232) :
    Calls Try.prog 3 #[v, vw] w (Meets (ret (.bool true)) w) := by
  have hA := fun w' (hg : Gr w w') => able_calls v g w' (h.gr hg)
  have hAE := fun w' (hg : Gr w w') => ableE_calls v g w' (h.gr hg)
  have hT := fun w' (hg : Gr w w') => trees_calls v vw g word w' (h.gr hg) (hs.gr hg)
  have hC := fun vr ll T N w' (hg : Gr w w') hr => climbed_calls v vr vw g ll T N word w' (h.gr hg) hr (hs.gr hg)
  have hS := fun had n e w' (hg : Gr w w') hc hn hle H => soon_calls v vw g word had n e w' (h.gr hg) (hs.gr hg) hc hn hle H
  obtain ⟨vp, rfl, _⟩ := h
  refine enter (args := [graV g.terms g.nons vp, vw]) (n := 65) Try.func3 rfl rfl rfl ?_
  refine T_seq (T_region (TL_box rfl rfl rfl fun g2 => ?_))
  conv => arg 8; simp only [zA, zB, zC, zD, zE, zF, zG, zH, zI, rowS, ret, id_eq]
  repeat (first
    | refine qv rfl (qp rfl) rfl rfl ?_ | refine TL_nil ?_ | refine T_seq ?_ | refine T_region ?_ | refine qcT rfl ?_ | refine qcF rfl ?_ | refine T_skip ?_
    | refine T_ret ?_ | refine E_then ?_ | refine E_thenR ?_ | refine qs rfl rfl rfl rfl rfl rfl ?_
    | ((try refine qg rfl rfl rfl ?_); first | refine qv rfl (qp rfl) rfl rfl ?_ | refine qv rfl (rr_not rfl rfl) rfl rfl ?_ | refine qv rfl (rr_neq rfl rfl (qT (by omega))) rfl rfl ?_ | refine qv rfl (rr_neq rfl rfl (qF (by omega))) rfl rfl ?_))
  refine TL_call (he0 EntersC.en rfl) (fun w hm => brackets_calls w) rfl rfl rfl ?_
  rintro ⟨vb, F1⟩ _
  conv => arg 8; simp only [zA, zB, zC, zD, zE, zF, zG, zH, zI, rowS, ret, id_eq, gramS]
  refine TL_call (he1 EntersC.en rfl rfl) (fun w' hm => able_calls _ brkG w' (prodsO_gra ok2 ok1 (hm.get (i := 1) rfl)) brk_ok.1 2 1 rfl rfl) rfl rfl rfl ?_
  rintro ⟨gr0, vs0⟩ _
  unfold ableS
  rw [brk_ok.2.1]
  conv => arg 8; simp only [zA, zB, zC, zD, zE, zF, zG, zH, zI, rowS, ret, id_eq]
  repeat (first
    | refine qv rfl (qp rfl) rfl rfl ?_ | refine TL_nil ?_ | refine T_seq ?_ | refine T_region ?_ | refine qcT rfl ?_ | refine qcF rfl ?_ | refine T_skip ?_
    | refine T_ret ?_ | refine E_then ?_ | refine E_thenR ?_ | refine qs rfl rfl rfl rfl rfl rfl ?_
    | ((try refine qg rfl rfl rfl ?_); first | refine qv rfl (qp rfl) rfl rfl ?_ | refine qv rfl (rr_not rfl rfl) rfl rfl ?_ | refine qv rfl (rr_neq rfl rfl (qT (by omega))) rfl rfl ?_ | refine qv rfl (rr_neq rfl rfl (qF (by omega))) rfl rfl ?_))
  refine TL_call (he0 EntersC.en rfl) (fun w hm => brackets_calls w) rfl rfl rfl ?_
  rintro ⟨vb2, F2⟩ _
  conv => arg 8; simp only [zA, zB, zC, zD, zE, zF, zG, zH, zI, rowS, ret, id_eq, gramS]
  repeat (first
    | refine qv rfl (qp rfl) rfl rfl ?_ | refine TL_nil ?_ | refine T_seq ?_ | refine T_region ?_ | refine qcT rfl ?_ | refine qcF rfl ?_ | refine T_skip ?_
    | refine T_ret ?_ | refine E_then ?_ | refine E_thenR ?_ | refine qs rfl rfl rfl rfl rfl rfl ?_
    | ((try refine qg rfl rfl rfl ?_); first | refine qv rfl (qp rfl) rfl rfl ?_ | refine qv rfl (rr_not rfl rfl) rfl rfl ?_ | refine qv rfl (rr_neq rfl rfl (qT (by omega))) rfl rfl ?_ | refine qv rfl (rr_neq rfl rfl (qF (by omega))) rfl rfl ?_))
  refine TL_litV [.int .i64 0, .int .i64 1, .int .i64 1, .int .i64 0] rfl rfl rfl (by intro v hv; simp at hv; rcases hv with rfl | rfl | rfl | rfl <;> rfl) rfl rfl fun g24 => ?_
  conv => arg 8; simp only [zA, zB, zC, zD, zE, zF, zG, zH, zI, rowS, ret, id_eq]
  refine TL_toRow (i := 5) (m := 4) 1 rfl rfl (by omega) ?_
  conv => arg 8; simp only [zA, zB, zC, zD, zE, zF, zG, zH, zI, rowS, ret, id_eq]
  refine TL_call (he3 EntersC.en rfl rfl rfl rfl) (fun w' hm => climbed_calls _ _ _ brkG (rowsL brkG 2 1) 2 1 [0, 1, 1, 0] w' (prodsO_gra ok2 ok1 (hm.get (i := 4) rfl)) (rows_slf (by decide) (by decide) (hm.get (i := 2) rfl) (hm.get (i := 3) rfl)) (Sl.of_own (hm.get (i := 5) rfl)) (chk_rows brk_ok.1 rfl rfl) brk_ok.1 (tab_ok rfl rfl) (by decide) (by decide)) rfl rfl rfl ?_
  intro vo _
  conv => arg 8; simp only [zA, zB, zC, zD, zE, zF, zG, zH, zI, rowS, ret, id_eq, climbedS]
  conv => arg 7; simp only [climbedS]
  rw [brk_ok.2.2]
  rw [brk_run]
  repeat (first
    | refine qv rfl (qp rfl) rfl rfl ?_ | refine TL_nil ?_ | refine T_seq ?_ | refine T_region ?_ | refine qcT rfl ?_ | refine qcF rfl ?_ | refine T_skip ?_
    | refine T_ret ?_ | refine E_then ?_ | refine E_thenR ?_ | refine qs rfl rfl rfl rfl rfl rfl ?_
    | ((try refine qg rfl rfl rfl ?_); first | refine qv rfl (qp rfl) rfl rfl ?_ | refine qv rfl (rr_not rfl rfl) rfl rfl ?_ | refine qv rfl (rr_neq rfl rfl (qT (by omega))) rfl rfl ?_ | refine qv rfl (rr_neq rfl rfl (qF (by omega))) rfl rfl ?_))
  refine TL_pick [0] (by decide) rfl ?_
  by_cases c0 : checkG g = 0
  · obtain ⟨a1, a2, a3, a4, a5, a6⟩ := checkG_ok c0
    obtain ⟨T, hT'⟩ : ∃ T : Nat, g.terms = T := ⟨g.terms.toNat, by omega⟩
    obtain ⟨N, hN⟩ : ∃ N : Nat, g.nons = N := ⟨g.nons.toNat, by omega⟩
    have hA := fun w' hg => hA w' hg c0 T N hT' hN
    clear hAE
    repeat (first
      | refine qv rfl (qp rfl) rfl rfl ?_ | refine TL_nil ?_ | refine T_seq ?_ | refine T_region ?_ | refine qcT rfl ?_ | refine qcF rfl ?_ | refine T_skip ?_
      | refine T_ret ?_ | refine E_then ?_ | refine E_thenR ?_ | refine qs rfl rfl rfl rfl rfl rfl ?_
      | ((try refine qg rfl rfl rfl ?_); first | refine qv rfl (qp rfl) rfl rfl ?_ | refine qv rfl (rr_loadB (i := 0) TyC.ty rfl rfl rfl) rfl rfl ?_ | refine qv rfl (rr_not rfl rfl) rfl rfl ?_ | refine qv rfl (rr_neq rfl rfl (qT (by omega))) rfl rfl ?_ | refine qv rfl (rr_neq rfl rfl (qF (by omega))) rfl rfl ?_))
    refine TL_call (he1 EntersC.en rfl rfl) (fun w' hm => hA w' hm.below) rfl rfl rfl ?_
    rintro ⟨gr2, vs2⟩ _
    unfold ableS
    conv => arg 8; simp only [zA, zB, zC, zD, zE, zF, zG, zH, zI, rowS, ret, id_eq]
    repeat (first
      | refine qv rfl (qp rfl) rfl rfl ?_ | refine TL_nil ?_ | refine T_seq ?_ | refine T_region ?_ | refine qcT rfl ?_ | refine qcF rfl ?_ | refine T_skip ?_
      | refine T_ret ?_ | refine E_then ?_ | refine E_thenR ?_ | refine qs rfl rfl rfl rfl rfl rfl ?_
      | ((try refine qg rfl rfl rfl ?_); first | refine qv rfl (qp rfl) rfl rfl ?_ | refine qv rfl (rr_loadB (i := 0) TyC.ty rfl rfl rfl) rfl rfl ?_ | refine qv rfl (rr_not rfl rfl) rfl rfl ?_ | refine qv rfl (rr_neq rfl rfl (qT (by omega))) rfl rfl ?_ | refine qv rfl (rr_neq rfl rfl (qF (by omega))) rfl rfl ?_))
    refine TL_call (he2 EntersC.en rfl rfl rfl) (fun w hm => hT _ hm.below) rfl rfl rfl ?_
    intro _ _
    conv => arg 8; simp only [zA, zB, zC, zD, zE, zF, zG, zH, zI, rowS, ret, id_eq]
    cases hf : freeL g.prods (mayG N g.prods) T N with
    | false =>
      repeat (first
        | refine qv rfl (qp rfl) rfl rfl ?_ | refine TL_nil ?_ | refine T_seq ?_ | refine T_region ?_ | refine qcT rfl ?_ | refine qcF rfl ?_ | refine T_skip ?_
        | refine T_ret ?_ | refine E_then ?_ | refine E_thenR ?_ | refine qs rfl rfl rfl rfl rfl rfl ?_
        | ((try refine qg rfl rfl rfl ?_); first | refine qv rfl (qp rfl) rfl rfl ?_ | refine qv rfl (rr_not rfl rfl) rfl rfl ?_ | refine qv rfl (rr_neq rfl rfl (qT (by omega))) rfl rfl ?_ | refine qv rfl (rr_neq rfl rfl (qF (by omega))) rfl rfl ?_))
      exact E_ret1 rfl rfl fun w hm => hm.ret
    | true =>
      by_cases c1 : checkC g word = 0
      · obtain ⟨_, k1, k2⟩ := checkC_ok c1
        have hw : ∀ x ∈ word, 0 ≤ x ∧ x < (T : Int) := by
          intro x hx
          rw [← hT']; exact k2 x hx
        have hC := fun vr w' hg hr => hC vr (rowsL g T N) T N w' hg hr (chk_rows c0 hT' hN) c0 (tab_ok hT' hN) hw (by omega)
        rw [run_eq c0 hN hw] at hC
        have hrun := run_ok (T := T) (N := N) c0 word [.sym (2, 0)] 0 [] (start_ok c0) (by decide)
        have hle := hrun.le
        have hsn := fun h14 hl => soon_not (T := T) (N := N) c0 hT' hN hf (W := word) h14 hl
        have hsb := fun hM => soon_begins (T := T) (N := N) c0 hN hM (W := word) c1
        generalize runF g.prods (nxC g T N) T word [.sym (2, 0)] 0 [] = R at *
        obtain ⟨l, had, e⟩ := R
        dsimp only at *
        repeat (first
          | refine qv rfl (qp rfl) rfl rfl ?_ | refine TL_nil ?_ | refine T_seq ?_ | refine T_region ?_ | refine qcT rfl ?_ | refine qcF rfl ?_ | refine T_skip ?_
          | refine T_ret ?_ | refine E_then ?_ | refine E_thenR ?_ | refine qs rfl rfl rfl rfl rfl rfl ?_
          | ((try refine qg rfl rfl rfl ?_); first | refine qv rfl (qp rfl) rfl rfl ?_ | refine qv rfl (rr_neq (b := false) rfl rfl (decide_eq_false (by omega))) rfl rfl ?_ | refine qv rfl (rr_loadB (i := 0) TyC.ty rfl rfl rfl) rfl rfl ?_ | refine qv rfl (rr_not rfl rfl) rfl rfl ?_ | refine qv rfl (rr_neq rfl rfl (qT (by omega))) rfl rfl ?_ | refine qv rfl (rr_neq rfl rfl (qF (by omega))) rfl rfl ?_))
        refine TL_call (he3 EntersC.en rfl rfl rfl rfl) (fun w' hm => hC _ w' hm.below (rows_slf (by omega) (by omega) (hm.get (i := 1) rfl) (hm.get (i := 2) rfl))) rfl rfl rfl ?_
        intro vl _
        conv => arg 8; simp only [zA, zB, zC, zD, zE, zF, zG, zH, zI, rowS, ret, id_eq, climbedS]
        conv => arg 7; simp only [climbedS]
        repeat (first
          | refine qv rfl (qp rfl) rfl rfl ?_ | refine TL_nil ?_ | refine T_seq ?_ | refine T_region ?_ | refine qcT rfl ?_ | refine qcF rfl ?_ | refine T_skip ?_
          | refine T_ret ?_ | refine E_then ?_ | refine E_thenR ?_ | refine qs rfl rfl rfl rfl rfl rfl ?_
          | ((try refine qg rfl rfl rfl ?_); first | refine qv rfl (qp rfl) rfl rfl ?_ | refine qv rfl (rr_loadB (i := 0) TyC.ty rfl rfl rfl) rfl rfl ?_ | refine qv rfl (rr_not rfl rfl) rfl rfl ?_ | refine qv rfl (rr_neq rfl rfl (qT (by omega))) rfl rfl ?_ | refine qv rfl (rr_neq rfl rfl (qF (by omega))) rfl rfl ?_))
        refine TL_call (he4 EntersC.en rfl rfl rfl rfl rfl) (fun w' hm => hS had N e w' hm.below c1 hN (by omega) (fun hM h14 => by
          obtain ⟨⟨_, _, m1⟩, hS2⟩ := sound_of c0 hN
          refine ⟨hsb fun i hi => hS2.2 i ?_, fun hne => hsn h14 (by omega)⟩
          have hi2 : i < (ofS N g.prods).M.length := by rw [m1]; exact hi
          rw [List.getD_eq_getElem?_getD, List.getElem?_eq_getElem hi2]
          rw [List.any_eq_false] at hM
          have := hM _ (List.getElem_mem hi2)
          show (ofS N g.prods).M[i] = true
          cases hb : (ofS N g.prods).M[i] with
          | true => rfl
          | false => rw [hb] at this; exact absurd rfl this)) rfl rfl rfl ?_
        intro _ _
        repeat (first
          | refine qv rfl (qp rfl) rfl rfl ?_ | refine TL_nil ?_ | refine T_seq ?_ | refine T_region ?_ | refine qcT rfl ?_ | refine qcF rfl ?_ | refine T_skip ?_
          | refine T_ret ?_ | refine E_then ?_ | refine E_thenR ?_ | refine qs rfl rfl rfl rfl rfl rfl ?_
          | ((try refine qg rfl rfl rfl ?_); first | refine qv rfl (qp rfl) rfl rfl ?_ | refine qv rfl (rr_not rfl rfl) rfl rfl ?_ | refine qv rfl (rr_neq rfl rfl (qT (by omega))) rfl rfl ?_ | refine qv rfl (rr_neq rfl rfl (qF (by omega))) rfl rfl ?_))
        exact E_ret1 rfl rfl fun w hm => hm.ret
      · repeat (first
          | refine qv rfl (qp rfl) rfl rfl ?_ | refine TL_nil ?_ | refine T_seq ?_ | refine T_region ?_ | refine qcT rfl ?_ | refine qcF rfl ?_ | refine T_skip ?_
          | refine T_ret ?_ | refine E_then ?_ | refine E_thenR ?_ | refine qs rfl rfl rfl rfl rfl rfl ?_
          | ((try refine qg rfl rfl rfl ?_); first | refine qv rfl (qp rfl) rfl rfl ?_ | refine qv rfl (rr_neq (b := true) rfl rfl (decide_eq_true c1)) rfl rfl ?_ | refine qv rfl (rr_not rfl rfl) rfl rfl ?_ | refine qv rfl (rr_neq rfl rfl (qT (by omega))) rfl rfl ?_ | refine qv rfl (rr_neq rfl rfl (qF (by omega))) rfl rfl ?_))
        exact E_ret1 rfl rfl fun w hm => hm.ret
  · have hAE := fun w' hg => hAE w' hg c0
    repeat (first
      | refine qv rfl (qp rfl) rfl rfl ?_ | refine TL_nil ?_ | refine T_seq ?_ | refine T_region ?_ | refine qcT rfl ?_ | refine qcF rfl ?_ | refine T_skip ?_
      | refine T_ret ?_ | refine E_then ?_ | refine E_thenR ?_ | refine qs rfl rfl rfl rfl rfl rfl ?_
      | ((try refine qg rfl rfl rfl ?_); first | refine qv rfl (qp rfl) rfl rfl ?_ | refine qv rfl (rr_loadB (i := 0) TyC.ty rfl rfl rfl) rfl rfl ?_ | refine qv rfl (rr_not rfl rfl) rfl rfl ?_ | refine qv rfl (rr_neq rfl rfl (qT (by omega))) rfl rfl ?_ | refine qv rfl (rr_neq rfl rfl (qF (by omega))) rfl rfl ?_))
    refine TL_call (he1 EntersC.en rfl rfl) (fun w hm => hAE _ hm.below) rfl rfl rfl ?_
    intro _ _
    conv => arg 8; simp only [zA, zB, zC, zD, zE, zF, zG, zH, zI, rowS, ret, id_eq]
    repeat (first
      | refine qv rfl (qp rfl) rfl rfl ?_ | refine TL_nil ?_ | refine T_seq ?_ | refine T_region ?_ | refine qcT rfl ?_ | refine qcF rfl ?_ | refine T_skip ?_
      | refine T_ret ?_ | refine E_then ?_ | refine E_thenR ?_ | refine qs rfl rfl rfl rfl rfl rfl ?_
      | ((try refine qg rfl rfl rfl ?_); first | refine qv rfl (qp rfl) rfl rfl ?_ | refine qv rfl (rr_loadB (i := 0) TyC.ty rfl rfl rfl) rfl rfl ?_ | refine qv rfl (rr_not rfl rfl) rfl rfl ?_ | refine qv rfl (rr_neq rfl rfl (qT (by omega))) rfl rfl ?_ | refine qv rfl (rr_neq rfl rfl (qF (by omega))) rfl rfl ?_))
    refine TL_call (he2 EntersC.en rfl rfl rfl) (fun w hm => hT _ hm.below) rfl rfl rfl ?_
    intro _ _
    conv => arg 8; simp only [zA, zB, zC, zD, zE, zF, zG, zH, zI, rowS, ret, id_eq]
    repeat (first
      | refine qv rfl (qp rfl) rfl rfl ?_ | refine TL_nil ?_ | refine T_seq ?_ | refine T_region ?_ | refine qcT rfl ?_ | refine qcF rfl ?_ | refine T_skip ?_
      | refine T_ret ?_ | refine E_then ?_ | refine E_thenR ?_ | refine qs rfl rfl rfl rfl rfl rfl ?_
      | ((try refine qg rfl rfl rfl ?_); first | refine qv rfl (qp rfl) rfl rfl ?_ | refine qv rfl (rr_not rfl rfl) rfl rfl ?_ | refine qv rfl (rr_neq rfl rfl (qT (by omega))) rfl rfl ?_ | refine qv rfl (rr_neq rfl rfl (qF (by omega))) rfl rfl ?_))
    exact E_ret1 rfl rfl fun w hm => hm.ret
end Go.Proofs.Ytkkiopmdcolobaa.climbSoon


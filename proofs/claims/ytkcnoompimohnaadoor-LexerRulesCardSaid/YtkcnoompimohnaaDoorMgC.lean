/- Part 3 of what LexerRules needs: SmL, SmB, DfaP, SortC, SortI, IntO, IntK, PlU, PlB, PlN, PlS, PlA, PlC, PlD, App, RexC. -/
import Derived.Test.YtkcnoompimohnaaDoorMgB
import Derived.WalkKit
import Derived.WalkSpells
import Derived.WalkLawsBesides
import Derived.Deep.RegionLaw
import Derived.Deep.AppendLies
import Derived.Deep.QuietTactic
import Derived.BigQuiet
import Derived.Deep.DeepCutAuto
import Derived.Lib.Hide
import Derived.Test.YtkcnoompimohnaaDoorRows
import Derived.ProofKit
import Derived.OpenShut
import Derived.ShutString
import Derived.SizedLaws
import Derived.JoinedCond
import Derived.Deep.CondSized
import Derived.Deep.Quiet
import Derived.StillTail
import Derived.Deep.LoopGhost
import Derived.Laws.BitsLemmas
import Derived.Laws.BytesString
import Derived.Test.YtkcnoompimohnaaDoorProg
import Derived.Laws.Entries
import Derived.Laws.BitsAllLaws
import Derived.Laws.StructEq
import Derived.ChangeKeysEq
import Derived.Lib.TrailingZeros
import Derived.Laws.MakeOwn
import Derived.Laws.AppendOwn
import Derived.Laws.Bits64b
import Derived.Maps.OwnSet
import Derived.DeepKeys4
import Derived.WideKeyEntry
import Derived.Handed
import Derived.Lay
import Derived.Lib.LaidTab
import Derived.MakeChecks
import Derived.Lib.SlicesCompact
import Derived.Shelf.Sort.Plain
import Derived.Ground.Names2Prog
import Derived.Shelf.Slices.CompactI
import Derived.Shelf.Slices.In.SortNone
import Derived.Lib.RowBridge
/- SmL -/
namespace Go.Proofs.YtkcnoompimohnaaDoor.smallL
/-! ### the first ones -/
section
variable {κ : Type} [DecidableEq κ]
def firsts : List κ → List κ → List κ
  | D, [] => D
  | D, k :: r => firsts (if k ∈ D then D else D ++ [k]) r
def more (D : List κ) (k : κ) : List κ := if k ∈ D then D else D ++ [k]
theorem firsts_snoc : ∀ (l D : List κ) (k : κ), firsts D (l ++ [k]) = more (firsts D l) k
  | [], _, _ => rfl
  | _ :: l, _, k => firsts_snoc l _ k
theorem more_pre (D : List κ) (k : κ) : ∃ E, more D k = D ++ E := by
  unfold more; split
  · exact ⟨[], by simp⟩
  · exact ⟨[k], rfl⟩
theorem mem_more {D : List κ} {k x : κ} : x ∈ more D k ↔ x ∈ D ∨ x = k := by
  unfold more; split
  · rename_i h
    exact ⟨.inl, fun e => e.elim id fun e => e ▸ h⟩
  · simp
theorem firsts_pre : ∀ (l D : List κ), ∃ E, firsts D l = D ++ E
  | [], D => ⟨[], by simp [firsts]⟩
  | k :: l, D => by
    obtain ⟨E, h⟩ := more_pre D k
    obtain ⟨E', h'⟩ := firsts_pre l (more D k)
    exact ⟨E ++ E', by show firsts (more D k) l = _; rw [h', h, List.append_assoc]⟩
theorem mem_firsts {x : κ} : ∀ {l D : List κ}, x ∈ firsts D l ↔ x ∈ D ∨ x ∈ l
  | [], D => by simp [firsts]
  | k :: l, D => by
    show x ∈ firsts (more D k) l ↔ _
    rw [mem_firsts, mem_more, List.mem_cons, or_assoc]
theorem more_nodup {D : List κ} {k : κ} (h : D.Nodup) : (more D k).Nodup := by
  unfold more; split
  · exact h
  · rename_i hk
    exact List.nodup_append.2 ⟨h, by simp, fun a ha b hb e => by simp at hb; subst hb e; exact hk ha⟩
theorem firsts_nodup : ∀ (l D : List κ), D.Nodup → (firsts D l).Nodup
  | [], _, h => h
  | _ :: l, _, h => firsts_nodup l _ (more_nodup h)
/-- the place of one; its list's length, if it isn't there -/
def idx (D : List κ) (k : κ) : Nat := D.idxOf k
theorem idx_lt {D : List κ} {k : κ} (h : k ∈ D) : idx D k < D.length := List.idxOf_lt_length_of_mem h
theorem idx_get {D : List κ} {k : κ} (h : idx D k < D.length) : D[idx D k] = k := List.getElem_idxOf h
theorem idx_of_get {D : List κ} (hn : D.Nodup) {v : Nat} (h : v < D.length) : idx D D[v] = v := by
  have h1 := idx_lt (List.getElem_mem h)
  exact (List.getElem_inj hn).1 (idx_get h1)
theorem idx_head (k : κ) (E : List κ) : idx (k :: E) k = 0 := by simp [idx]
theorem idx_pre {D E : List κ} {k : κ} (h : k ∈ D) : idx (D ++ E) k = idx D k := by unfold idx; rw [List.idxOf_append, if_pos h]
/-- the number of one that has just come -/
theorem idx_more {D : List κ} {k : κ} : idx (more D k) k = if k ∈ D then idx D k else D.length := by
  unfold more; split
  · rfl
  · rename_i h
    unfold idx; rw [List.idxOf_append, if_neg h]; simp
theorem idx_at {l D : List κ} {i : Nat} (hi : i < l.length) : idx (firsts D l) l[i] = if l[i] ∈ firsts D (l.take i) then idx (firsts D (l.take i)) l[i] else (firsts D (l.take i)).length := by
  have e : l = l.take (i + 1) ++ l.drop (i + 1) := (List.take_append_drop _ _).symm
  have h1 : l.take (i + 1) = l.take i ++ [l[i]] := List.take_succ_eq_append_getElem hi
  have h2 : ∃ E, firsts D l = firsts D (l.take (i + 1)) ++ E := by
    obtain ⟨E, h⟩ := firsts_pre (l.drop (i + 1)) (firsts D (l.take (i + 1)))
    refine ⟨E, ?_⟩
    rw [← h]
    have hap : ∀ (a b D : List κ), firsts D (a ++ b) = firsts (firsts D a) b := by
      intro a
      induction a with
      | nil => intro b D; rfl
      | cons x a ih => intro b D; exact ih b _
    rw [← hap, ← e]
  obtain ⟨E, h2⟩ := h2
  rw [h2, idx_pre, h1, firsts_snoc, idx_more]
  rw [h1, firsts_snoc, mem_more]; exact .inr rfl
theorem idx_inj {D : List κ} {x y : κ} (hx : x ∈ D) (h : idx D x = idx D y) : x = y := by
  have h1 := idx_lt hx
  have h2 : idx D y < D.length := h ▸ h1
  rw [← idx_get h1, ← idx_get h2]
  congr 1
end
theorem getD_left {α : Type} {l m : List α} {k : Nat} {d : α} (h : k < l.length) : (l ++ m).getD k d = l.getD k d := by
  rw [List.getD_eq_getElem?_getD, List.getElem?_append_left h, List.getD_eq_getElem?_getD]
theorem getD_right {α : Type} {l m : List α} {k : Nat} {d : α} (h : l.length ≤ k) : (l ++ m).getD k d = m.getD (k - l.length) d := by
  rw [List.getD_eq_getElem?_getD, List.getElem?_append_right h, List.getD_eq_getElem?_getD]
theorem nodup_bound {l : List Nat} {m : Nat} (h : l.Nodup) (hb : ∀ x ∈ l, x < m) : l.length ≤ m := by
  have hs : ∀ (l l' : List Nat), l.Nodup → (∀ x ∈ l, x ∈ l') → l.length ≤ l'.length := by
    intro l
    induction l with
    | nil => intro l' _ _; simp
    | cons x l ih =>
      intro l' hn hs
      rw [List.nodup_cons] at hn
      have hx : x ∈ l' := hs x (by simp)
      have := ih (l'.erase x) hn.2 (fun y hy => (List.mem_erase_of_ne (by rintro rfl; exact hn.1 hy)).2 (hs y (by simp [hy])))
      rw [List.length_erase_of_mem hx] at this
      have : 0 < l'.length := List.length_pos_of_mem hx
      simp; omega
  have := hs l (List.range m) h fun x hx => List.mem_range.2 (hb x hx)
  simpa using this
/-- a finer numbering with no more numbers is the same one -/
theorem finer_same {N : Nat} {f g : Nat → Nat} {n c : Nat} (hf : ∀ v, v < n → ∃ x, x < N ∧ f x = v) (hg : ∀ x, x < N → g x < c) (hr : ∀ x y, x < N → y < N → g x = g y → f x = f y) :
    n ≤ c ∧ (c = n → (∀ x, x < N → f x < n) → ∀ x y, x < N → y < N → f x = f y → g x = g y) := by
  have hc : ∃ p : Nat → Nat, ∀ v, v < n → p v < N ∧ f (p v) = v := by
    refine ⟨fun v => if h : v < n then (hf v h).choose else 0, fun v h => ?_⟩
    simp only [dif_pos h]
    exact (hf v h).choose_spec
  obtain ⟨p, hp⟩ := hc
  have hnd : ∀ l : List Nat, l.Nodup → (∀ v ∈ l, v < n) → (l.map fun v => g (p v)).Nodup := by
    intro l hl hb
    refine List.pairwise_map.2 (List.Pairwise.imp_of_mem (fun {a b} ha hb' hne e => hne ?_) hl)
    have h1 := hp a (hb a ha)
    have h2 := hp b (hb b hb')
    have := hr _ _ h1.1 h2.1 e
    rw [h1.2, h2.2] at this
    exact this
  refine ⟨?_, fun hcn hfb x y hx hy hxy => ?_⟩
  · have h1 := nodup_bound (m := c) (hnd (List.range n) List.nodup_range fun v hv => List.mem_range.1 hv) (fun z hz => by
      obtain ⟨v, hv, rfl⟩ := List.mem_map.1 hz
      exact hg _ (hp v (List.mem_range.1 hv)).1)
    simpa using h1
  · apply Classical.byContradiction
    intro hne
    have hv : f x < n := hfb x hx
    have hl : ((List.range n).erase (f x)).Nodup := List.nodup_range.erase _
    have hb : ∀ v ∈ (List.range n).erase (f x), v < n ∧ v ≠ f x := fun v hv => by
      have := (List.nodup_range.mem_erase_iff).1 hv
      exact ⟨List.mem_range.1 this.2, this.1⟩
    have h1 := hnd _ hl fun v hv => (hb v hv).1
    have hnot : ∀ z, z < N → f z = f x → g z ∉ ((List.range n).erase (f x)).map fun v => g (p v) := by
      intro z hz he hin
      obtain ⟨v, hv', e⟩ := List.mem_map.1 hin
      have h2 := hp v (hb v hv').1
      have := hr _ _ h2.1 hz e
      rw [h2.2, he] at this
      exact (hb v hv').2 this
    have h2 : (g x :: g y :: ((List.range n).erase (f x)).map fun v => g (p v)).Nodup := by
      rw [List.nodup_cons, List.nodup_cons]
      refine ⟨?_, hnot y hy hxy.symm, h1⟩
      rw [List.mem_cons, not_or]
      exact ⟨hne, hnot x hx rfl⟩
    have h3 := nodup_bound (m := c) h2 (fun z hz => by
      simp only [List.mem_cons] at hz
      rcases hz with rfl | rfl | hz
      · exact hg _ hx
      · exact hg _ hy
      · obtain ⟨v, hv, rfl⟩ := List.mem_map.1 hz
        exact hg _ (hp v (hb v hv).1).1)
    have h4 : ((List.range n).erase (f x)).length = n - 1 := by
      rw [List.length_erase_of_mem (List.mem_range.2 hv)]; simp
    simp [h4] at h3
    omega
end Go.Proofs.YtkcnoompimohnaaDoor.smallL

/- SmB -/
namespace Go.Proofs.YtkcnoompimohnaaDoor.smallL
/-- an automaton -/
structure Aut where
  n : Nat
  d : Nat → Nat → Int
  tag : Nat → Int
structure Aut.Ok (A : Aut) : Prop where
  pos : 0 < A.n
  le : A.n ≤ 200
  step : ∀ i, i < A.n → ∀ b, b < 256 → -1 ≤ A.d i b ∧ A.d i b < A.n
  tags : ∀ i, i < A.n → -1 ≤ A.tag i ∧ A.tag i < 20
abbrev Row := Vector Int 256
abbrev Kind := Int × Row
section
variable (A : Aut)
def val (now : Nat → Nat) (q : Int) : Nat := if q < 0 then 0 else now q.toNat
def kind (now : Nat → Nat) (i : Nat) : Kind := ((now i : Int), Vector.ofFn fun b : Fin 256 => (val now (A.d i b) : Int))
def dead : Kind := (0, Vector.replicate 256 0)
def kinds (now : Nat → Nat) : List Kind := (List.range A.n).map (kind A now)
def tab (now : Nat → Nat) : List Kind := firsts [dead] (kinds A now)
def next (now : Nat → Nat) (i : Nat) : Nat := idx (tab A now) (kind A now i)
def blkGo : Nat → Nat → (Nat → Nat) → Nat → Nat
  | 0, _, now => now
  | f + 1, n, now => if (tab A now).length = n then next A now else blkGo f (tab A now).length (next A now)
def now0 (i : Nat) : Nat := (A.tag i + 1).toNat
def blocksF : Nat → Nat := blkGo A (A.n + 2) 0 (now0 A)
def tg (q : Int) : Int := if q < 0 then -1 else A.tag q.toNat
def dt (q : Int) (b : Nat) : Int := if q < 0 then -1 else A.d q.toNat b
def go : Int → List UInt8 → Int
  | q, [] => q
  | q, b :: s => go (dt A q b.toNat) s
/-- a state, or nowhere -/
def St (q : Int) : Prop := -1 ≤ q ∧ q < A.n
def same (q r : Int) : Prop := ∀ s, tg A (go A q s) = tg A (go A r s)
def kd (now : Nat → Nat) (q : Int) : Kind := if q < 0 then dead else kind A now q.toNat
end
section
variable {A : Aut}
theorem st_dt (hA : A.Ok) {q : Int} (hq : St A q) {b : Nat} (hb : b < 256) : St A (dt A q b) := by
  unfold St dt at *
  have := hA.pos
  split
  · omega
  · exact hA.step q.toNat (by omega) b hb
theorem go_neg : ∀ (s : List UInt8) {q : Int}, q < 0 → go A q s < 0
  | [], _, h => h
  | b :: s, q, h => go_neg s (by unfold dt; rw [if_pos h]; decide)
theorem same_step {q r : Int} (h : same A q r) (b : Nat) (hb : b < 256) : same A (dt A q b) (dt A r b) := fun s => by
  have := h (UInt8.ofNat b :: s)
  have e : (UInt8.ofNat b).toNat = b := by simp; omega
  simp only [go, e] at this
  exact this
theorem val_kd (now : Nat → Nat) (q : Int) : (kd A now q).1 = (val now q : Int) := by
  unfold kd val dead kind; split <;> rfl
theorem kd_row (now : Nat → Nat) (q : Int) (b : Nat) (hb : b < 256) : (kd A now q).2[b] = (val now (dt A q b) : Int) := by
  unfold kd dt dead kind
  split
  · simp [val]
  · simp
theorem kd_eq {now : Nat → Nat} {q r : Int} : kd A now q = kd A now r ↔ val now q = val now r ∧ ∀ b, b < 256 → val now (dt A q b) = val now (dt A r b) := by
  constructor
  · intro h
    refine ⟨?_, fun b hb => ?_⟩
    · have e : (kd A now q).1 = (kd A now r).1 := by rw [h]
      rw [val_kd, val_kd] at e; exact Int.ofNat.inj e
    · have e : (kd A now q).2[b] = (kd A now r).2[b] := by rw [h]
      rw [kd_row _ _ _ hb, kd_row _ _ _ hb] at e; exact Int.ofNat.inj e
  · rintro ⟨h1, h2⟩
    refine Prod.ext ?_ (Vector.ext fun b hb => ?_)
    · rw [val_kd, val_kd, h1]
    · rw [kd_row _ _ _ hb, kd_row _ _ _ hb, h2 b hb]
theorem dead_tab (now : Nat → Nat) : dead ∈ tab A now := mem_firsts.2 (.inl (by simp))
theorem kind_tab {now : Nat → Nat} {i : Nat} (h : i < A.n) : kind A now i ∈ tab A now := mem_firsts.2 (.inr (List.mem_map.2 ⟨i, List.mem_range.2 h, rfl⟩))
theorem kd_tab {now : Nat → Nat} {q : Int} (h : q < A.n) : kd A now q ∈ tab A now := by
  unfold kd; split
  · exact dead_tab now
  · exact kind_tab (by omega)
theorem tab_nodup (now : Nat → Nat) : (tab A now).Nodup := firsts_nodup _ _ (by simp)
theorem tab_le (now : Nat → Nat) : (tab A now).length ≤ A.n + 1 := by
  have h : ∀ (l D : List Kind), (firsts D l).length ≤ D.length + l.length := by
    intro l
    induction l with
    | nil => intro D; simp [firsts]
    | cons k l ih =>
      intro D
      have := ih (more D k)
      have h2 : (more D k).length ≤ D.length + 1 := by unfold more; split <;> simp
      show (firsts (more D k) l).length ≤ _
      simp; omega
  have := h (kinds A now) [dead]
  unfold tab
  simp [kinds] at this ⊢
  omega
theorem tab_pos (now : Nat → Nat) : 0 < (tab A now).length := List.length_pos_of_mem (dead_tab now)
/-- next, seen on all states and nowhere -/
theorem val_next (now : Nat → Nat) {q : Int} : val (next A now) q = idx (tab A now) (kd A now q) := by
  unfold val kd
  split
  · obtain ⟨E, h⟩ := firsts_pre (kinds A now) [dead]
    rw [tab, h]
    exact (idx_head dead E).symm
  · rfl
theorem val_next_lt {now : Nat → Nat} {q : Int} (h : q < A.n) : val (next A now) q < (tab A now).length := by
  rw [val_next]; exact idx_lt (kd_tab h)
theorem next_eq {now : Nat → Nat} {q r : Int} (hq : q < A.n) : val (next A now) q = val (next A now) r ↔ kd A now q = kd A now r := by
  rw [val_next, val_next]
  exact ⟨fun h => idx_inj (kd_tab hq) h, fun h => by rw [h]⟩
theorem next_finer {now : Nat → Nat} {q r : Int} (hq : q < A.n) (h : val (next A now) q = val (next A now) r) : val now q = val now r := (kd_eq.1 ((next_eq hq).1 h)).1
theorem next_all {now : Nat → Nat} {v : Nat} (h : v < (tab A now).length) : ∃ q : Int, St A q ∧ val (next A now) q = v := by
  have hm : (tab A now)[v] ∈ tab A now := List.getElem_mem h
  have hi : idx (tab A now) (tab A now)[v] = v := idx_of_get (tab_nodup now) h
  rcases mem_firsts.1 hm with hd | hk
  · refine ⟨-1, ⟨by omega, by omega⟩, ?_⟩
    rw [val_next, show kd A now (-1) = dead from rfl, ← List.mem_singleton.1 hd]; exact hi
  · obtain ⟨i, h1, h2⟩ := List.mem_map.1 hk
    rw [List.mem_range] at h1
    refine ⟨i, ⟨by omega, by omega⟩, ?_⟩
    have e : kd A now (i : Int) = kind A now i := by unfold kd; rw [if_neg (by omega), Int.toNat_natCast]
    rw [val_next, e, h2]; exact hi
/-- behind a round -/
def Round (A : Aut) (n : Nat) (now : Nat → Nat) : Prop := ∃ was, now = next A was ∧ n = (tab A was).length
def stOf (A : Aut) (x : Nat) : Int := if x < A.n then (x : Int) else -1
theorem of_st {q : Int} (h : St A q) : ∃ x, x < A.n + 1 ∧ stOf A x = q := by
  unfold St at h
  by_cases c : q < 0
  · exact ⟨A.n, by omega, by unfold stOf; rw [if_neg (by omega)]; omega⟩
  · exact ⟨q.toNat, by omega, by unfold stOf; rw [if_pos (by omega)]; omega⟩
theorem stOf_lt (x : Nat) : stOf A x < A.n := by unfold stOf; split <;> omega
theorem round_mono {n : Nat} {now : Nat → Nat} (h : Round A n now) : n ≤ (tab A now).length ∧ ((tab A now).length = n → ∀ q r, St A q → St A r → val now q = val now r → val (next A now) q = val (next A now) r) := by
  obtain ⟨was, rfl, rfl⟩ := h
  have h := finer_same (N := A.n + 1) (f := fun x => val (next A was) (stOf A x)) (g := fun x => val (next A (next A was)) (stOf A x)) (n := (tab A was).length) (c := (tab A (next A was)).length)
    (fun v hv => by
      obtain ⟨q, hq, e⟩ := next_all hv
      obtain ⟨x, hx, e2⟩ := of_st hq
      exact ⟨x, hx, by show val (next A was) (stOf A x) = v; rw [e2]; exact e⟩)
    (fun x _ => val_next_lt (stOf_lt x)) (fun x y _ _ e => next_finer (stOf_lt x) e)
  refine ⟨h.1, fun hc q r hq hr e => ?_⟩
  obtain ⟨x, hx, rfl⟩ := of_st hq
  obtain ⟨y, hy, rfl⟩ := of_st hr
  exact h.2 hc (fun x _ => val_next_lt (stOf_lt x)) x y hx hy e
/-- what holds of each numbering on the way: it tells tags apart, and no two states that are the same -/
structure Way (A : Aut) (now : Nat → Nat) : Prop where
  tags : ∀ q r, St A q → St A r → val now q = val now r → tg A q = tg A r
  coarse : ∀ q r, St A q → St A r → same A q r → val now q = val now r
theorem way0 (hA : A.Ok) : Way A (now0 A) where
  tags q r hq hr h := by
    unfold St at hq hr
    unfold val now0 at h
    unfold tg
    have h1 := fun c => hA.tags q.toNat (c : q.toNat < A.n)
    have h2 := fun c => hA.tags r.toNat (c : r.toNat < A.n)
    by_cases c1 : q < 0 <;> by_cases c2 : r < 0 <;> simp only [c1, c2, if_true, if_false] at h ⊢
    · have := h2 (by omega); omega
    · have := h1 (by omega); omega
    · have := h1 (by omega); have := h2 (by omega); omega
  coarse q r hq hr h := by
    have := h []
    simp only [go] at this
    unfold tg at this
    unfold val now0
    by_cases c1 : q < 0 <;> by_cases c2 : r < 0 <;> simp only [c1, c2, if_true, if_false] at this ⊢ <;> omega
theorem way_next (hA : A.Ok) {now : Nat → Nat} (h : Way A now) : Way A (next A now) where
  tags q r hq hr e := h.tags q r hq hr (next_finer hq.2 e)
  coarse q r hq hr e := (next_eq hq.2).2 (kd_eq.2 ⟨h.coarse q r hq hr e, fun b hb => h.coarse _ _ (st_dt hA hq hb) (st_dt hA hr hb) (same_step e b hb)⟩)
/-- what blocks are -/
structure Blocks (A : Aut) (bl : Nat → Nat) : Prop where
  le : ∀ i, i < A.n → bl i ≤ A.n
  tags : ∀ q r, St A q → St A r → val bl q = val bl r → tg A q = tg A r
  step : ∀ q r, St A q → St A r → val bl q = val bl r → ∀ b, b < 256 → val bl (dt A q b) = val bl (dt A r b)
  coarse : ∀ q r, St A q → St A r → same A q r → val bl q = val bl r
theorem blocks_end (hA : A.Ok) {n : Nat} {now : Nat → Nat} (hr : Round A n now) (hw : Way A now) (hc : (tab A now).length = n) : Blocks A (next A now) where
  le i hi := by
    have := val_next_lt (A := A) (now := now) (q := (i : Int)) (by omega)
    have h2 := tab_le (A := A) now
    unfold val at this
    rw [if_neg (by omega), Int.toNat_natCast] at this
    omega
  tags := (way_next hA hw).tags
  coarse := (way_next hA hw).coarse
  step q r hq hr' e b hb := (round_mono hr).2 hc _ _ (st_dt hA hq hb) (st_dt hA hr' hb) ((kd_eq.1 ((next_eq hq.2).1 e)).2 b hb)
theorem blk_go (hA : A.Ok) : ∀ (f n : Nat) (now : Nat → Nat), (n = 0 ∨ Round A n now) → n ≤ A.n + 1 → A.n + 2 ≤ f + n → Way A now → Blocks A (blkGo A f n now)
  | 0, n, now, _, h1, h2, _ => by omega
  | f + 1, n, now, hr, h1, h2, hw => by
    unfold blkGo
    have hp := tab_pos (A := A) now
    split
    · rename_i hc
      rcases hr with rfl | hr
      · omega
      · exact blocks_end hA hr hw hc
    · rename_i hc
      refine blk_go hA f _ _ (.inr ⟨now, rfl, rfl⟩) (tab_le now) ?_ (way_next hA hw)
      rcases hr with rfl | hr
      · omega
      · have := (round_mono hr).1; omega
theorem blocks_of (hA : A.Ok) : Blocks A (blocksF A) := blk_go hA _ _ _ (.inl rfl) (Nat.zero_le _) (by omega) (way0 hA)
/-- blocks are what the states tell of texts -/
theorem Blocks.same (hA : A.Ok) {bl : Nat → Nat} (h : Blocks A bl) {q r : Int} (hq : St A q) (hr : St A r) : val bl q = val bl r ↔ same A q r := by
  refine ⟨fun e s => ?_, h.coarse q r hq hr⟩
  induction s generalizing q r with
  | nil => exact h.tags q r hq hr e
  | cons b s ih => exact ih (st_dt hA hq b.toNat_lt) (st_dt hA hr b.toNat_lt) (h.step q r hq hr e _ b.toNat_lt)
end
end Go.Proofs.YtkcnoompimohnaaDoor.smallL

/- DfaP -/
namespace Go.Proofs.YtkcnoompimohnaaDoor.dfaP
open classL rexL placesL smallL
def putAll (c : C4) (l : List Int) : C4 := l.foldl (fun c x => c.bit x.toNat) c
/-- what may come behind those of s, of the first k -/
def nextTo (p : PS) (s : C4) : Nat → C4
  | 0 => C4.zero
  | i + 1 => if s.mem i = true then putAll (nextTo p s i) (p.follow.getD i []) else nextTo p s i
/-- what may come next in a state -/
def nextF (m : MS) (S : List C4) : Nat → C4
  | 0 => putAll C4.zero m.first
  | n + 1 => nextTo m.ps (S.getD n C4.zero) m.ps.follow.length
/-- of those, the ones of the first k whose class has b -/
def toTo (p : PS) (all : C4) (b : Nat) : Nat → C4
  | 0 => C4.zero
  | i + 1 => if all.mem i = true ∧ (p.classes.getD i C4.zero).mem b = true then (toTo p all b i).bit i else toTo p all b i
def toF (p : PS) (all : C4) (b : Nat) : C4 := toTo p all b p.classes.length
/-- the least rule that is done, of the first k places -/
def tagTo (p : PS) (s : C4) : Nat → Int
  | 0 => -1
  | i + 1 => if s.mem i = true ∧ p.last.getD i false = true ∧ (tagTo p s i < 0 ∨ p.rules.getD i 0 < tagTo p s i) then p.rules.getD i 0 else tagTo p s i
def tagF (p : PS) (s : C4) : Int := tagTo p s p.classes.length
/-- the sets behind the first one, and all tags -/
structure DM where
  S : List C4
  tags : List Int
def stateF (p : PS) (m : DM) (s : C4) : Nat × DM := if s ∈ m.S then (idx m.S s + 1, m) else (m.S.length + 1, ⟨m.S ++ [s], m.tags ++ [tagF p s]⟩)
def cellF (p : PS) (all : C4) (b : Nat) (r : Row) (m : DM) : Row × DM :=
  if toF p all b = C4.zero then (if h : b < 256 then r.set b (-1) else r, m) else (if h : b < 256 then (r.set b (-1)).set b ((stateF p m (toF p all b)).1 : Int) else r, (stateF p m (toF p all b)).2)
def rowTo (p : PS) (all : C4) : Nat → Nat → Row → DM → Row × DM
  | 0, _, r, m => (r, m)
  | f + 1, b, r, m => if 200 < (cellF p all b r m).2.S.length + 1 then cellF p all b r m else rowTo p all f (b + 1) (cellF p all b r m).1 (cellF p all b r m).2
def rowP (m : MS) (n : Nat) (d : DM) : Row × DM := rowTo m.ps (nextF m d.S n) 256 0 (Vector.replicate 256 0) d
def makeTo (m : MS) : Nat → Nat → List Row → DM → Option (List Row × DM)
  | 0, _, _, _ => none
  | f + 1, n, R, d => if n < d.S.length + 1 then (if 200 < (rowP m n d).2.S.length + 1 then none else makeTo m f (n + 1) (R ++ [(rowP m n d).1]) (rowP m n d).2) else some (R, d)
/-- the first that is set -/
def firstT : List Bool → Int → Int
  | [], _ => -1
  | b :: l, k => if b = true then k else firstT l (k + 1)
def makeD (m : MS) : Option (List Row × DM) := makeTo m 201 0 [] ⟨[], [firstT m.empty 0]⟩
/-! ### bounds -/
structure DOk (p : PS) (d : DM) : Prop where
  nd : d.S.Nodup
  tags : d.tags.length = d.S.length + 1
theorem state_ok {p : PS} {d : DM} (h : DOk p d) (s : C4) : DOk p (stateF p d s).2 ∧ d.S.length ≤ (stateF p d s).2.S.length ∧ (stateF p d s).2.S.length ≤ d.S.length + 1 ∧ 0 < (stateF p d s).1 ∧ (stateF p d s).1 < (stateF p d s).2.S.length + 1 := by
  unfold stateF
  by_cases c : s ∈ d.S
  · rw [if_pos c]
    have := idx_lt c
    exact ⟨h, Nat.le_refl _, Nat.le_succ _, Nat.succ_pos _, by show idx d.S s + 1 < d.S.length + 1; omega⟩
  · rw [if_neg c]
    refine ⟨⟨?_, ?_⟩, ?_, ?_, Nat.succ_pos _, ?_⟩
    · show (d.S ++ [s]).Nodup
      rw [List.nodup_append]
      exact ⟨h.nd, by simp, fun a ha b hb => by rw [List.mem_singleton.1 hb]; exact fun e => c (e ▸ ha)⟩
    · show (d.tags ++ [_]).length = (d.S ++ [s]).length + 1
      rw [List.length_append, List.length_append, h.tags]; rfl
    · show _ ≤ (d.S ++ [s]).length; simp
    · show (d.S ++ [s]).length ≤ _; simp
    · show d.S.length + 1 < (d.S ++ [s]).length + 1; simp
theorem cell_ok {p : PS} {d : DM} (h : DOk p d) (all : C4) (b : Nat) (r : Row) : DOk p (cellF p all b r d).2 ∧ d.S.length ≤ (cellF p all b r d).2.S.length ∧ (cellF p all b r d).2.S.length ≤ d.S.length + 1 := by
  unfold cellF
  split
  · exact ⟨h, Nat.le_refl _, Nat.le_succ _⟩
  · obtain ⟨h1, h2, h3, _⟩ := state_ok h (toF p all b)
    exact ⟨h1, h2, h3⟩
theorem rowTo_ok {p : PS} (all : C4) : ∀ (f b : Nat) (r : Row) (d : DM), DOk p d → d.S.length + 1 ≤ 200 → DOk p (rowTo p all f b r d).2 ∧ (rowTo p all f b r d).2.S.length + 1 ≤ 201 ∧ d.S.length ≤ (rowTo p all f b r d).2.S.length
  | 0, _, _, d, h, hl => ⟨h, (by show d.S.length + 1 ≤ 201; omega), Nat.le_refl _⟩
  | f + 1, b, r, d, h, hl => by
    obtain ⟨h1, h2, h3⟩ := cell_ok h all b r
    rw [rowTo]
    split
    · exact ⟨h1, by omega, h2⟩
    · obtain ⟨q1, q2, q3⟩ := rowTo_ok all f (b + 1) (cellF p all b r d).1 _ h1 (by omega)
      exact ⟨q1, q2, by omega⟩
theorem putAll_mem : ∀ (l : List Int) (c : C4) (n : Nat), n < 256 → (∀ x ∈ l, 0 ≤ x ∧ x < 256) → ((putAll c l).mem n = true ↔ c.mem n = true ∨ (n : Int) ∈ l)
  | [], c, n, _, _ => ⟨.inl, fun h => h.elim id fun h => by cases h⟩
  | x :: l, c, n, hn, h => by
    have hx := h x (List.mem_cons_self ..)
    show (putAll (c.bit x.toNat) l).mem n = true ↔ _
    rw [putAll_mem l _ n hn (fun y hy => h y (List.mem_cons_of_mem _ hy)), bit_mem _ _ _ (by omega) hn, Bool.or_eq_true, decide_eq_true_eq, List.mem_cons]
    constructor
    · rintro ((h1 | h1) | h1)
      · exact .inl h1
      · exact .inr (.inl (by omega))
      · exact .inr (.inr h1)
    · rintro (h1 | h1 | h1)
      · exact .inl (.inl h1)
      · exact .inl (.inr (by omega))
      · exact .inr h1
theorem put_step (c : C4) (l : List Int) {k : Nat} (hk : k < l.length) : putAll c (l.take (k + 1)) = (putAll c (l.take k)).bit l[k].toNat := by
  unfold putAll
  rw [List.take_succ_eq_append_getElem hk, List.foldl_append]; rfl
end Go.Proofs.YtkcnoompimohnaaDoor.dfaP

/- SortC -/
namespace Go.Proofs.YtkcnoompimohnaaDoor.eng
open Go.Shelf
def lays189_ren : Go.Shelf.Ren := ⟨fun | 189 => 35 | 125 => 47 | 257 => 46 | 128 => 61 | 129 => 62 | 294 => 52 | 295 => 53 | 296 => 54 | 297 => 55 | 298 => 56 | 299 => 57 | 216 => 58 | 300 => 59 | 301 => 60 | 328 => 64 | 329 => 65 | 330 => 66 | 331 => 67 | 332 => 68 | 215 => 69 | 343 => 71 | n => n, fun | 28 => 24 | 3 => 3 | 46 => 94 | 0 => 0 | 51 => 140 | 53 => 29 | 4 => 4 | 183 => 133 | 182 => 132 | 131 => 78 | 5 => 5 | 9 => 9 | 218 => 144 | 222 => 102 | 228 => 149 | 229 => 150 | n => n, fun | n => n⟩
theorem lays189 : Go.Proofs.Lays.n189 Tryd.prog lays189_ren := {
  mixed := by kernel_rfl
  f125 := Tryd.func47.trans (congrArg some (by kernel_rfl))
  f128 := Tryd.func61.trans (congrArg some (by kernel_rfl))
  f129 := Tryd.func62.trans (congrArg some (by kernel_rfl))
  f189 := Tryd.func35.trans (congrArg some (by kernel_rfl))
  f215 := Tryd.func69.trans (congrArg some (by kernel_rfl))
  f216 := Tryd.func58.trans (congrArg some (by kernel_rfl))
  f257 := Tryd.func46.trans (congrArg some (by kernel_rfl))
  f294 := Tryd.func52.trans (congrArg some (by kernel_rfl))
  f295 := Tryd.func53.trans (congrArg some (by kernel_rfl))
  f296 := Tryd.func54.trans (congrArg some (by kernel_rfl))
  f297 := Tryd.func55.trans (congrArg some (by kernel_rfl))
  f298 := Tryd.func56.trans (congrArg some (by kernel_rfl))
  f299 := Tryd.func57.trans (congrArg some (by kernel_rfl))
  f300 := Tryd.func59.trans (congrArg some (by kernel_rfl))
  f301 := Tryd.func60.trans (congrArg some (by kernel_rfl))
  f328 := Tryd.func64.trans (congrArg some (by kernel_rfl))
  f329 := Tryd.func65.trans (congrArg some (by kernel_rfl))
  f330 := Tryd.func66.trans (congrArg some (by kernel_rfl))
  f331 := Tryd.func67.trans (congrArg some (by kernel_rfl))
  f332 := Tryd.func68.trans (congrArg some (by kernel_rfl))
  f343 := Tryd.func71.trans (congrArg some (by kernel_rfl))
  t0 := Tryd.underlying0
  a0 := Tryd.isAgg0
  z0 := Tryd.sizeOf0
  v0 := Tryd.zeroValue0
  t3 := Tryd.underlying3
  a3 := Tryd.isAgg3
  z3 := Tryd.sizeOf3
  v3 := Tryd.zeroValue3
  t4 := Tryd.underlying4
  a4 := Tryd.isAgg4
  z4 := Tryd.sizeOf4
  v4 := Tryd.zeroValue4
  t5 := Tryd.underlying5
  a5 := Tryd.isAgg5
  z5 := Tryd.sizeOf5
  v5 := Tryd.zeroValue5
  t9 := Tryd.underlying9
  a9 := Tryd.isAgg9
  z9 := Tryd.sizeOf9
  v9 := Tryd.zeroValue9
  t28 := Tryd.underlying24
  a28 := Tryd.isAgg24
  z28 := Tryd.sizeOf24
  v28 := Tryd.zeroValue24
  t46 := Tryd.underlying94
  a46 := Tryd.isAgg94
  z46 := Tryd.sizeOf94
  v46 := Tryd.zeroValue94
  t51 := Tryd.underlying140
  a51 := Tryd.isAgg140
  z51 := Tryd.sizeOf140
  v51 := Tryd.zeroValue140
  t53 := Tryd.underlying29
  a53 := Tryd.isAgg29
  z53 := Tryd.sizeOf29
  v53 := Tryd.zeroValue29
  t131 := Tryd.underlying78
  a131 := Tryd.isAgg78
  z131 := Tryd.sizeOf78
  v131 := Tryd.zeroValue78
  t182 := Tryd.underlying132
  a182 := Tryd.isAgg132
  z182 := Tryd.sizeOf132
  v182 := Tryd.zeroValue132
  t183 := Tryd.underlying133
  a183 := Tryd.isAgg133
  z183 := Tryd.sizeOf133
  v183 := Tryd.zeroValue133
  t218 := Tryd.underlying144
  a218 := Tryd.isAgg144
  z218 := Tryd.sizeOf144
  v218 := Tryd.zeroValue144
  t222 := Tryd.underlying102
  a222 := Tryd.isAgg102
  z222 := Tryd.sizeOf102
  v222 := Tryd.zeroValue102
  t228 := Tryd.underlying149
  a228 := Tryd.isAgg149
  z228 := Tryd.sizeOf149
  v228 := Tryd.zeroValue149
  t229 := Tryd.underlying150
  a229 := Tryd.isAgg150
  z229 := Tryd.sizeOf150
  v229 := Tryd.zeroValue150 }
open Go.Sort Go.RowKit in
theorem slices_Sort_int (blk off cap : Nat) (zs : List Int) (w : World) (hH : Holds (Value.int .i64) w blk off zs.toArray) (hblk : blk < w.heap.size) (hsz : zs.length < 4611686018427387904) :
    Calls Tryd.prog 35 #[.slice (some ⟨blk, off, none⟩) zs.length cap] w fun e w' =>
      e = .returned (.tuple #[]) ∧ ∃ n os, w' = grow (putRow (Value.int .i64) (Sort.ahead w n) blk off (zs.mergeSort fun x y => decide (x ≤ y)).toArray) os := Any.slices_Sort_int lays189 blk off cap zs w hH hblk hsz
def laysNm220_ren : Go.Shelf.Ren := ⟨fun | 20 => 36 | n => n, fun | 22 => 24 | 3 => 3 | 4 => 4 | 0 => 0 | n => n, fun | n => n⟩
theorem laysNm220 : Go.Proofs.Lays2.n20 Tryd.prog laysNm220_ren := {
  mixed := by kernel_rfl
  f20 := Tryd.func36.trans (congrArg some (by kernel_rfl))
  t0 := Tryd.underlying0
  a0 := Tryd.isAgg0
  z0 := Tryd.sizeOf0
  v0 := Tryd.zeroValue0
  t3 := Tryd.underlying3
  a3 := Tryd.isAgg3
  z3 := Tryd.sizeOf3
  v3 := Tryd.zeroValue3
  t4 := Tryd.underlying4
  a4 := Tryd.isAgg4
  z4 := Tryd.sizeOf4
  v4 := Tryd.zeroValue4
  t22 := Tryd.underlying24
  a22 := Tryd.isAgg24
  z22 := Tryd.sizeOf24
  v22 := Tryd.zeroValue24
  i3 := by kernel_rfl }
open Go.RowKit Go.Lib Go.Sort in
theorem slices_Compact_int (blk off cap : Nat) (zs : List Int) (w : World) (hH : Holds (Value.int .i64) w blk off zs.toArray) (hsz : zs.length ≤ 9223372036854775807) (hcap : zs.length ≤ cap) :
    Calls Tryd.prog 36 #[.slice (some ⟨blk, off, none⟩) zs.length cap] w fun e w' => e = .returned (.slice (some ⟨blk, off, none⟩) (Lib.compact zs).length cap) ∧ ∃ q, w' = putRow (Value.int .i64) (Sort.ahead w q) blk off (Lib.compact zs ++ List.replicate (zs.length - (Lib.compact zs).length) 0).toArray := Any.slices_Compact_int laysNm220 blk off cap zs w hH hsz hcap
open Go.RowKit Go.Lib Go.Sort in
theorem slices_Compact_int_empty (a : Option Addr) (cap : Nat) (w : World) :
    Calls Tryd.prog 36 #[.slice a 0 cap] w fun e w' => e = .returned (.slice a 0 cap) ∧ w' = w := Any.slices_Compact_int_empty laysNm220 a cap w
open Go.RowKit Go.Sort in
theorem slices_Sort_int_none (p : Option Addr) (cap : Nat) (w : World) :
    Calls Tryd.prog 35 #[.slice p 0 cap] w fun e w' => e = .returned (.tuple #[]) ∧ w' = w := Any.slices_Sort_int_none lays189 p cap w
end Go.Proofs.YtkcnoompimohnaaDoor.eng

/- SortI -/
namespace Go.Proofs.YtkcnoompimohnaaDoor.eng
open Go.RowKit kit mix Go.Sort
theorem put_block (w : World) (n g : Nat) (d : Array Int) (os : Array Obj) {k : Nat} (hk : k < w.heap.size) (hg : k ≠ g) : (grow (putRow (Value.int .i64) (Go.Sort.ahead w n) g 0 d) os).heap[k]? = w.heap[k]? := by
  rw [heap_grow_old _ _ (by rw [size_putRow]; exact hk)]
  show (w.heap.modify g _)[k]? = w.heap[k]?
  rw [Array.getElem?_modify, if_neg (fun h => hg h.symm)]
theorem put_mem {B : Base} {w : World} {e : TypeId} {g cap m : Nat} {zs : List Int} (hm : Mem B [rowO e 1 (.slice (some ⟨g, 0, none⟩) m cap) m (zs.map (Value.int .i64))] w) (d : Array Int) (hd : d.size = m) (m' : Nat) (h' : m' ≤ m) (n : Nat) (os : Array Obj) :
    Mem B [rowO e 1 (.slice (some ⟨g, 0, none⟩) m' cap) m' ((d.toList.take m').map (Value.int .i64))] (grow (putRow (Value.int .i64) (Go.Sort.ahead w n) g 0 d) os) := by
  have ho : w.ownsRow 0 e 1 (.slice (some ⟨g, 0, none⟩) m cap) m (zs.map (Value.int .i64)) := hm.get (i := 0) rfl
  obtain ⟨hl, hr⟩ := ho
  rcases hr with ⟨h, _⟩ | ⟨g2, cap2, cur, hv, _, hg, hc, hx, hs, ht⟩
  · cases h
  cases hv
  have hmay : B.may g := (hm.owns.all 0 _ rfl).2 g (.inl rfl)
  have hgw : g < w.heap.size := (Array.getElem?_eq_some_iff.1 hg).1
  have hheap : (grow (putRow (Value.int .i64) (Go.Sort.ahead w n) g 0 d) os).heap[g]? = some (.cells (putCells (Value.int .i64) 0 d cur) e (0, 0)) := by
    rw [heap_grow_old _ _ (by rw [size_putRow]; exact hgw)]
    show (w.heap.modify g (onCells (putCells (Value.int .i64) 0 d)))[g]? = _
    rw [Array.getElem?_modify, if_pos rfl, hg]; rfl
  refine ⟨⟨hm.low.os, hm.low.tape, hm.low.output, ?_, fun k hk hx => ?_⟩, OwnsP.one ⟨?_, .inr ⟨g, cap, _, rfl, Nat.zero_le _, hheap, by omega, hx, ?_, ?_⟩⟩ fun k hk => ?_⟩
  · rw [size_grow, size_putRow]; exact Nat.le_trans hm.low.size (Nat.le_add_right _ _)
  · have hkg : k ≠ g := fun e => by
      subst e
      rcases hmay with h | h
      · omega
      · exact hx h
    rw [put_block w n g d os (Nat.lt_of_lt_of_le hk hm.low.size) hkg]
    exact hm.low.block k hk hx
  · rw [List.length_map, List.length_take, Array.length_toList, hd]; omega
  · unfold putCells; rw [Array.size_mapIdx]; exact hs
  · apply List.ext_getElem?
    intro j
    rw [Nat.mul_one, List.getElem?_take]
    by_cases hj : j < m'
    · have hjc : j < cur.size := by omega
      rw [if_pos hj, List.getElem?_map, List.getElem?_take, if_pos hj, Array.getElem?_toList, Array.getElem?_toList]
      unfold putCells
      rw [Array.getElem?_mapIdx, Array.getElem?_eq_getElem hjc, Option.map_some, if_pos ⟨Nat.zero_le _, by omega⟩, Nat.sub_zero, getElem!_pos d j (by omega), Array.getElem?_eq_getElem (by omega : j < d.size)]
      rfl
    · rw [if_neg hj, List.getElem?_map, List.getElem?_take, if_neg hj]; rfl
  · rcases hk with h | h
    · simp only [rowO, Value.ownBlock, Option.some.injEq] at h; subst h; exact hmay
    · exact h.elim
theorem row_holds {w : World} {e : TypeId} {g cap m : Nat} {zs : List Int} (ho : w.ownsRow 0 e 1 (.slice (some ⟨g, 0, none⟩) m cap) m (zs.map (Value.int .i64))) : Holds (Value.int .i64) w g 0 zs.toArray ∧ g < w.heap.size ∧ m = zs.length ∧ m ≤ cap := by
  obtain ⟨hl, hr⟩ := ho
  rcases hr with ⟨h, _⟩ | ⟨g2, cap2, cur, hv, _, hg, hc, hx, hs, ht⟩
  · cases h
  cases hv
  rw [List.length_map] at hl
  refine ⟨fun j hj => ?_, (Array.getElem?_eq_some_iff.1 hg).1, by omega, hc⟩
  have hj' : j < zs.length := by simpa using hj
  have hcj : cur[j]? = some (.int .i64 zs[j]) := by
    have := congrArg (fun l => l[j]?) ht
    rw [Nat.mul_one, List.getElem?_take, if_pos (by omega), Array.getElem?_toList, List.getElem?_map, List.getElem?_eq_getElem hj'] at this
    exact this
  refine ⟨?_, ?_⟩
  · rw [cell_of_row w g (0 + j) _ _ _ hg, Nat.zero_add, hcj, getElem!_pos zs.toArray j hj]; rfl
  · unfold World.frozen?
    rw [hg]
    simp
def sortL (l : List Int) : List Int := l.mergeSort fun x y => decide (x ≤ y)
theorem sortI_calls (v : Value) (l : List Int) (w : World) (B : Base) (hm : Mem B [rowO 3 1 v l.length (l.map (Value.int .i64))] w) (hl : l.length < 4611686018427387904) :
    Calls Tryd.prog 35 #[v] w (MeetsB ⟨fun (_ : Unit) => True, fun _ => .tuple #[], fun _ => [rowO 3 1 v l.length ((sortL l).map (Value.int .i64))]⟩ B) := by
  have ho : w.ownsRow 0 3 1 v l.length (l.map (Value.int .i64)) := hm.get (i := 0) rfl
  have ho2 := ho
  rcases ho.2 with ⟨rfl, h0⟩ | ⟨g, cap, cur, rfl, _, hg, hc, hx, hs, ht⟩
  · refine (slices_Sort_int_none none 0 w).mono fun e w' ⟨he, hw⟩ => ⟨(), trivial, he, ?_⟩
    obtain rfl : l = [] := List.length_eq_zero_iff.1 h0
    rw [hw]; exact (by simpa [sortL] using hm)
  · obtain ⟨h1, h2, h3, h4⟩ := row_holds ho2
    refine (slices_Sort_int g 0 cap l w h1 h2 hl).mono fun e w' ⟨he, n, os, hw⟩ => ⟨(), trivial, he, ?_⟩
    have hlen : (sortL l).length = l.length := List.length_mergeSort _
    have := put_mem hm (sortL l).toArray (by simp [hlen]) l.length (Nat.le_refl _) n os
    rw [List.take_of_length_le (by simp [hlen])] at this
    rw [hw]; exact this
theorem compactI_calls (v : Value) (l : List Int) (w : World) (B : Base) (hm : Mem B [rowO 3 1 v l.length (l.map (Value.int .i64))] w) :
    Calls Tryd.prog 36 #[v] w (MeetsB ⟨fun (_ : Value) => True, fun v' => v', fun v' => [rowO 3 1 v' (Lib.compact l).length ((Lib.compact l).map (Value.int .i64))]⟩ B) := by
  have ho : w.ownsRow 0 3 1 v l.length (l.map (Value.int .i64)) := hm.get (i := 0) rfl
  have ho2 := ho
  rcases ho.2 with ⟨rfl, h0⟩ | ⟨g, cap, cur, rfl, _, hg, hc, hx, hs, ht⟩
  · refine (slices_Compact_int_empty none 0 w).mono fun e w' ⟨he, hw⟩ => ⟨.slice none 0 0, trivial, he, ?_⟩
    obtain rfl : l = [] := List.length_eq_zero_iff.1 h0
    rw [hw]; exact hm
  · obtain ⟨h1, h2, h3, h4⟩ := row_holds ho2
    refine (slices_Compact_int g 0 cap l w h1 (by unfold maxLen at hx; omega) (by omega)).mono fun e w' ⟨he, n, hw⟩ => ⟨.slice (some ⟨g, 0, none⟩) (Lib.compact l).length cap, trivial, he, ?_⟩
    have hle : (Lib.compact l).length ≤ l.length := Lib.compact_length_le l
    have := put_mem hm (Lib.compact l ++ List.replicate (l.length - (Lib.compact l).length) 0).toArray (by simp; omega) (Lib.compact l).length hle n #[]
    rw [grow_empty] at this
    simp only [List.toList_toArray, List.take_left] at this
    rw [hw]; exact this
end Go.Proofs.YtkcnoompimohnaaDoor.eng

/- IntO -/
namespace Go.Proofs.YtkcnoompimohnaaDoor.eng
open Go.RowKit kit mix
theorem one_int (l : List Int) : ∀ u ∈ l.flatMap kit.intC, u.oneCell' = true := by
  intro u hu
  obtain ⟨f, _, h⟩ := List.mem_flatMap.1 hu
  simp only [kit.intC, List.mem_cons, List.not_mem_nil, or_false] at h
  subst h; rfl
end Go.Proofs.YtkcnoompimohnaaDoor.eng

/- IntK -/
namespace Go.Proofs.YtkcnoompimohnaaDoor.eng
open Go.RowKit kit mix
theorem IntC_len (a : Int) : (kit.intC a).length = 1 := rfl
set_option maxHeartbeats 2000000 in
theorem cloneIntC_calls (v : Value) (l : List Int) (w : World) (hs : Sl w v l.length (l.flatMap kit.intC)) (hl : l.length * 8 ≤ 140737488355328) :
    Calls Tryd.prog 25 #[v] w (Meets (rowS 3 1 l.length (l.flatMap kit.intC) id) w) := by
  obtain ⟨base, cap, rfl, hcap, hmax, hrd⟩ := hs
  unfold maxLen at hmax
  refine enter (args := [.slice base l.length cap]) (n := 8) Tryd.func25 rfl rfl rfl ?_
  have hsl : ∀ w', Gr w w' → Sl w' (.slice base l.length cap) l.length (l.flatMap kit.intC) := fun w' hg => Sl.gr ⟨base, cap, rfl, hcap, hmax, hrd⟩ hg
  clear hrd
  cases base with
  | none =>
    repeat (first
      | refine QV QP ?_ | refine QZ ?_ | refine qcT rfl ?_ | refine qcF rfl ?_ | refine QV (rr_slnil Und.eq rfl rfl rfl) ?_)
    have h0 : l = [] := by
      cases l with
      | nil => rfl
      | cons x l => obtain ⟨_, _, h, _, _, h2⟩ := hsl w (Gr.refl w); simp only [Value.slice.injEq] at h; obtain ⟨rfl, _⟩ := h; obtain ⟨b, off, h, _⟩ := h2 (by simp); cases h
    subst h0
    refine E_nilrow 3 1 ?_
    exact E_ret1 rfl rfl fun w hm => hm.meets (S := rowS 3 1 0 [] id) _ trivial [0] (by decide) rfl
  | some p =>
    repeat (first
      | refine QV QP ?_ | refine QZ ?_ | refine qcT rfl ?_ | refine qcF rfl ?_ | refine QV (rr_slnil Und.eq rfl rfl rfl) ?_)
    refine TL_lit0 rfl fun g => ?_
    repeat (first
      | refine QV QP ?_ | refine QZ ?_ | refine qcT rfl ?_ | refine qcF rfl ?_)
    refine TL_appSl (i := 0) rfl (fun w' hm => hsl w' hm.below) rfl rfl (len_el IntC_len l) (one_int l) (by omega) (by omega) rfl fun v' => ?_
    rw [List.nil_append]
    repeat (first
      | refine QV QP ?_ | refine QZ ?_ | refine qcT rfl ?_ | refine qcF rfl ?_)
    refine E_ret1 rfl rfl fun w hm => ?_
    exact hm.meets (S := rowS 3 1 l.length (l.flatMap kit.intC) id) v' trivial [0] (by decide) (by simp [rowS])
end Go.Proofs.YtkcnoompimohnaaDoor.eng

/- PlU -/
namespace Go.Proofs.YtkcnoompimohnaaDoor.eng
open Go.RowKit kit mix placesL
theorem int_flat (l : List Int) : l.flatMap kit.intC = l.map (Value.int .i64) := by
  induction l with
  | nil => rfl
  | cons x r ih => rw [List.flatMap_cons, ih]; rfl
abbrev intR (v : Value) (l : List Int) : Own := rowO 3 1 v l.length (l.map (Value.int .i64))
def intRS (l : List Int) : Spec Value := ⟨fun _ => True, fun v => v, fun v => [intR v l]⟩
set_option maxHeartbeats 2000000 in
theorem union_calls (va vb : Value) (a b : List Int) (w : World) (ha : Sl w va a.length (a.map (Value.int .i64))) (hb : Sl w vb b.length (b.map (Value.int .i64))) (hla : a.length ≤ 1000000) (hlb : b.length ≤ 1000000) :
    Calls Tryd.prog 28 #[va, vb] w (Meets (intRS (uni a b)) w) := by
  have hcl := fun w' (hg : Gr w w') => cloneIntC_calls va a w' (by rw [int_flat]; exact ha.gr hg) (by omega)
  refine enter (args := [va, vb]) (n := 14) Tryd.func28 rfl rfl rfl ?_
  repeat (first
    | refine QV QP ?_ | refine QZ ?_)
  refine TL_call (he1 EntersC.en rfl rfl) (fun w hm => hcl _ hm.below) rfl rfl rfl ?_
  intro v1 _
  conv => arg 8; simp only [zA, zB, zC, zD, zE, zF, zG, zH, zI, rowS, ret, id_eq]
  rw [int_flat]
  repeat (first
    | refine QV QP ?_ | refine QZ ?_)
  refine TL_appSl (i := 0) (bytes := 8) (m := a.length) (xs := a.map (Value.int .i64)) (k := b.length) (ys := b.map (Value.int .i64)) rfl (sl_old hb) rfl rfl (by rw [List.length_map, Nat.mul_one]) (fun u hu => by obtain ⟨x, _, rfl⟩ := List.mem_map.1 hu; rfl) (by omega) (by omega) rfl fun v2 => ?_
  rw [← List.map_append, ← List.length_append]
  conv => arg 8; simp only [zA, zB, zC, zD, zE, zF, zG, zH, zI, rowS, ret, id_eq]
  repeat (first
    | refine QV QP ?_ | refine QZ ?_)
  refine TL_callB [0] [] (by decide) rfl rfl (he1 EntersC.en rfl rfl) (fun w hm hb => sortI_calls v2 (a ++ b) w _ hb (by rw [List.length_append]; omega)) rfl rfl rfl ?_
  intro _ _
  conv => arg 8; simp only [zA, zB, zC, zD, zE, zF, zG, zH, zI, rowS, ret, id_eq]
  repeat (first
    | refine QV QP ?_ | refine QZ ?_)
  rw [show (a ++ b).length = (eng.sortL (a ++ b)).length from (List.length_mergeSort _).symm]
  refine TL_callB [0] [] (by decide) rfl rfl (he1 EntersC.en rfl rfl) (fun w hm hb => compactI_calls v2 (eng.sortL (a ++ b)) w _ hb) rfl rfl rfl ?_
  intro v3 _
  conv => arg 8; simp only [zA, zB, zC, zD, zE, zF, zG, zH, zI, rowS, ret, id_eq]
  repeat (first
    | refine QV QP ?_ | refine QZ ?_)
  exact E_ret1 rfl rfl fun w hm => hm.meets (S := intRS (uni a b)) v3 trivial [0] (by decide) rfl
end Go.Proofs.YtkcnoompimohnaaDoor.eng

/- PlB -/
namespace Go.Proofs.YtkcnoompimohnaaDoor.eng
open Go.RowKit kit mix placesL
def one1 (v : Value) : List Value := [v]
theorem one1_len (v : Value) : (one1 v).length = 1 := rfl
theorem one1_flat (l : List Value) : l.flatMap one1 = l := by
  induction l with
  | nil => rfl
  | cons x r ih => rw [List.flatMap_cons, ih]; rfl
theorem ownsRow_stay {w w' : World} {e : TypeId} {size n : Nat} {v : Value} {xs : List Value} (h : w.ownsRow 0 e size v n xs) (hk : ∀ k, v.ownBlock = some k → w'.heap[k]? = w.heap[k]?) : w'.ownsRow 0 e size v n xs := by
  refine ⟨h.1, ?_⟩
  rcases h.2 with hn | ⟨g, cap, cur, rfl, hb0, hg, rest⟩
  · exact .inl hn
  · exact .inr ⟨g, cap, cur, rfl, hb0, by rw [hk g rfl]; exact hg, rest⟩
/-- rows of numbers, each a block of its own or none -/
def folS : Shp (List Int) :=
  ⟨1, fun F w cs l => ∃ v, cs = [v] ∧ (∀ x ∈ l, kit.okI64 x) ∧ w.ownsRow 0 3 1 v l.length (l.map (Value.int .i64)) ∧ ∀ k, v.ownBlock = some k → F k, fun ⟨_, h, _⟩ => by rw [h]; rfl,
    fun ⟨v, h1, h2, h3, h4⟩ hk => ⟨v, h1, h2, ownsRow_stay h3 fun k h => hk k (h4 k h), h4⟩, fun ⟨v, h1, h2, h3, h4⟩ hk => ⟨v, h1, h2, h3, fun k h => hk k (h4 k h)⟩⟩
abbrev folR (v : Value) (vs : List Value) : Own := rowO 24 1 v vs.length (vs.flatMap one1)
abbrev folE (F : Nat → Prop) (vs : List Value) (fol : List (List Int)) : Own := elsO folS F (vs.map one1) fol
def mkC (vc vr vf vfol vl ve : Value) (rule : Int) : Array Value := #[vc, vr, vf, vfol, vl, ve, .int .i64 rule]
theorem els_set {α : Type} {s : Shp α} {F F2 : Nat → Prop} {css : List (List Value)} {cs : List Value} {l : List α} {a : α} {w : World} {k : Nat} (he : (elsO s F css l).holds w) (hs : s.is F2 w cs a) (h2 : ∀ k, F2 k → k < w.heap.size) :
    (elsO s (fun k => F k ∨ F2 k) (css.set k cs) (l.set k a)).holds w := by
  obtain ⟨⟨h1, h3⟩, h4⟩ := he
  refine ⟨⟨by simp [h1], fun i hi hi' => ?_⟩, fun k hk => hk.elim (h4 k) (h2 k)⟩
  rw [List.getElem_set, List.getElem_set]
  by_cases c : k = i
  · subst c
    rw [if_pos rfl, if_pos rfl]
    exact s.mono hs fun q hq => .inr hq
  · rw [if_neg c, if_neg c]
    exact s.mono (h3 i (by simpa using hi) (by simpa using hi')) fun q hq => .inl hq
theorem fol_sl {F : Nat → Prop} {vs : List Value} {fol : List (List Int)} {w : World} (he : (folE F vs fol).holds w) {k : Nat} (hk : k < fol.length) (hk' : k < vs.length) : Sl w vs[k] fol[k].length (fol[k].map (Value.int .i64)) := by
  obtain ⟨⟨h1, h3⟩, _⟩ := he
  obtain ⟨v, hv, _, hs, _⟩ := h3 k hk (by simpa using hk')
  rw [List.getElem_map] at hv
  unfold one1 at hv
  simp only [List.cons.injEq, and_true] at hv
  rw [hv]
  exact Sl.of_own hs
theorem fol_is {w : World} {v : Value} {l : List Int} (hp : ∀ x ∈ l, kit.okI64 x) (h : (intR v l).holds w) : folS.is (fun k => v.ownBlock = some k) w [v] l :=
  ⟨v, rfl, hp, h, fun _ h => h⟩
def behSp (g : Nat) (vc vr vf vfol vl ve : Value) (rule : Int) (va vb : Value) (fol : List (List Int)) (last first : List Int) : Spec (List Value × (Nat → Prop)) :=
  ⟨fun x => x.1.length = fol.length, fun _ => .tuple #[], fun x => [blkO g (mkC vc vr vf vfol vl ve rule) 82, folR vfol x.1, folE x.2 x.1 (behindF fol last first), intR va last, intR vb first]⟩
theorem behind_step (fol : List (List Int)) (last first : List Int) {k : Nat} (hk : k < last.length) : behindF fol (last.take (k + 1)) first = (behindF fol (last.take k) first).set last[k].toNat (uni ((behindF fol (last.take k) first).getD last[k].toNat []) first) := by
  unfold behindF
  rw [List.take_succ_eq_append_getElem hk, List.foldl_append]; rfl
set_option maxHeartbeats 8000000 in
theorem behind_calls (g : Nat) (vc vr vf vfol vl ve : Value) (rule : Int) (va vb : Value) (vs : List Value) (F : Nat → Prop) (fol : List (List Int)) (last first : List Int) (w : World) (B : Base)
    (hvs : vs.length = fol.length) (hn : fol.length ≤ 100000) (hfol : ∀ l ∈ fol, Ris fol.length l) (hla : Ris fol.length last) (hfi : Ris fol.length first)
    (hm : Mem B [blkO g (mkC vc vr vf vfol vl ve rule) 82, folR vfol vs, folE F vs fol, intR va last, intR vb first] w) :
    Calls Tryd.prog 34 #[.pointer (some ⟨g, 0, none⟩), va, vb] w (MeetsB (behSp g vc vr vf vfol vl ve rule va vb fol last first) B) := by
  have hlast := ris_len hla
  have hfirst := ris_len hfi
  have hva : ∃ a c, va = .slice a last.length c := by
    obtain ⟨base, cap, h, _⟩ := Sl.of_own (show w.ownsRow 0 3 1 va last.length (last.map (Value.int .i64)) from hm.get (i := 3) rfl)
    exact ⟨base, cap, h⟩
  obtain ⟨aa, ca, rfl⟩ := hva
  refine enterB hm (args := [.pointer (some ⟨g, 0, none⟩), .slice aa last.length ca, vb]) (n := 32) Tryd.func34 rfl rfl rfl ?_
  clear hm
  repeat (first
    | refine QV QP ?_ | refine QZ ?_ | refine qcT rfl ?_ | refine qcF rfl ?_ | refine E_blockX ?_ | refine E_blockO rfl ?_ | refine QV QL ?_
    | refine QV QA ?_ | refine QV (rr_nilc rfl) ?_ | refine QV QlT ?_ | refine QV QlF ?_ | refine QV QaA ?_)
  refine T_loop (ι := Nat × List Value × (Nat → Prop)) (fun (k, vs, F) => k ≤ last.length ∧ vs.length = fol.length) (fun (k, _, _) => [(0, .pointer (some ⟨g, 0, none⟩)), (2, vb), (8, .slice aa last.length ca), (9, .int .i64 last.length), (10, .int .i64 (k : Int))])
    (fun (k, vs, F) => [blkO g (mkC vc vr vf vfol vl ve rule) 82, folR vfol vs, folE F vs (behindF fol (last.take k) first), intR (.slice aa last.length ca) last, intR vb first]) (fun (k, _, _) => last.length - k) (0, vs, F) ⟨Nat.zero_le _, hvs⟩ (by repeat' (first | exact True.intro | refine And.intro rfl ?_)) rfl ?_
  clear hvs vs F
  rintro ⟨k, vs, F⟩ ⟨i1, i2⟩
  dsimp only at i1 i2 ⊢
  by_cases c6 : k < last.length
  · have hstep := behind_step fol last first c6
    have hris := behind_ris (n := fol.length) hfi.2 (last.take k) fol hfol
    have hlen := behind_len fol (last.take k) first
    have hx := hla.2 last[k] (List.getElem_mem c6)
    have hgx : last[k]? = some last[k] := List.getElem?_eq_getElem c6
    generalize behindF fol (last.take k) first = fo at *
    generalize last[k] = x at *
    obtain ⟨xn, rfl⟩ := Int.eq_ofNat_of_zero_le hx.1
    rw [Int.toNat_natCast] at hstep
    have hxn : xn < fo.length := by omega
    have hget : fo.getD xn [] = fo[xn] := by rw [List.getD_eq_getElem?_getD, List.getElem?_eq_getElem hxn]; rfl
    rw [hget] at hstep
    have hrx := hris fo[xn] (List.getElem_mem hxn)
    have hrl := ris_len hrx
    have hru := ris_uni hrx.2 hfi.2
    have hul := ris_len hru
    refine T_know (i := 1) (φ := ∃ gf cap, vfol = .slice (some ⟨gf, 0, none⟩) vs.length cap ∧ vs.length ≤ cap) rfl (fun w h => by
      obtain ⟨h1, h2⟩ := (show w.ownsRow 0 24 1 vfol vs.length (vs.flatMap one1) from h)
      rcases h2 with ⟨_, h0⟩ | ⟨gf, cap, cur, hv, _, _, hc, _⟩
      · omega
      · exact ⟨gf, cap, hv, hc⟩) fun hvf => ?_
    obtain ⟨gf, capf, rfl, hcf⟩ := hvf
    refine T_know (i := 3) (φ := ∃ ga, aa = some ⟨ga, 0, none⟩) rfl (fun w h => by
      obtain ⟨h1, h2⟩ := (show w.ownsRow 0 3 1 (.slice aa last.length ca) last.length (last.map (Value.int .i64)) from h)
      rcases h2 with ⟨_, h0⟩ | ⟨gf, cap, cur, hv, _, _, hc, _⟩
      · omega
      · cases hv; exact ⟨gf, rfl⟩) fun hva => ?_
    obtain ⟨ga, rfl⟩ := hva
    have hxv : xn < vs.length := by omega
    have hrow : ∀ (L : List Own) (hi : L[1]? = some (folR (.slice (some ⟨gf, 0, none⟩) vs.length capf) vs)), At B L ⟨gf, 0 + xn * 1 + 0, none⟩ vs[xn] := fun L hi => at_rowel one1_len hi hxv 0 _ rfl
    have hla3 : ∀ (L : List Own) (hi : L[3]? = some (intR (.slice (some ⟨ga, 0, none⟩) last.length ca) last)), At B L ⟨ga, 0 + k * 1, none⟩ (.int .i64 (xn : Int)) := fun L hi => at_row hi (by rw [List.getElem?_map, Nat.zero_add, Nat.mul_one, hgx]; rfl)
    repeat (first
      | refine QV QP ?_ | refine QZ ?_ | refine qcT rfl ?_ | refine qcF rfl ?_ | refine E_blockX ?_ | refine E_blockO rfl ?_
      | refine QV (rr_idxc Und.eq TyC.ty rfl rfl c6) ?_ | refine QV (rr_load1 (v := .int .i64 (xn : Int)) TyC.ty rfl (hla3 _ rfl)) ?_ | refine QV QL ?_
      | refine QV QA ?_ | refine QV (rr_nilc rfl) ?_ | refine QV QlT ?_ | refine QV QlF ?_ | refine QV QaA ?_)
    (repeat refine T_seq ?_)
    refine T_ord ([blkO g (mkC vc vr vf (.slice (some ⟨gf, 0, none⟩) vs.length capf) vl ve rule) 82]) (.calm 0 (.calm 1 (.calm 2 (.calm 3 (.calm 4 (.calm 5 (.calm 6 (.calm 7 (.calm 8 (.calm 9 (.calm 10 (.calm 11 (.calm 12 (.calm 14 (.one 13 (.one 15 (.calm 16 (.one 17 (.done))))))))))))))))))) (sub_pick [0] (by decide) rfl) (by kernel_rfl) (by kernel_rfl) (by intro c a d v w h; cases d <;> exact h) ?_
    repeat (first
      | ((first | refine TW_plain rfl rfl ?_ | refine TW_gmet rfl rfl rfl rfl ?_); first | refine QW QP ?_ | refine QW (rr_nilc rfl) ?_ | refine QW (rr_load1 (v := .slice (some ⟨gf, 0, none⟩) vs.length capf) TyC.ty rfl (at_blk (i := 0) rfl rfl)) ?_ | refine QW (rr_idxc Und.eq TyC.ty rfl rfl hxv) ?_ | refine QW QL ?_ | refine QW QA ?_ | refine QW (rr_nilc rfl) ?_ | refine QW QlT ?_ | refine QW QlF ?_ | refine QW QaA ?_)
      | refine TW_done ?_)
    refine TW_one rfl (TL_val (rr_load1 (v := vs[xn]) TyC.ty rfl (hrow _ rfl)) rfl rfl rfl (TW_on (sub_pick [0] (by decide) rfl) ?_))
    repeat (first
      | ((first | refine TW_plain rfl rfl ?_ | refine TW_gmet rfl rfl rfl rfl ?_); first | refine QW QP ?_ | refine QW (rr_nilc rfl) ?_ | refine QW QL ?_ | refine QW QA ?_ | refine QW (rr_nilc rfl) ?_ | refine QW QlT ?_ | refine QW QlF ?_ | refine QW QaA ?_)
      | refine TW_done ?_)
    refine TW_one rfl (TL_call (he2 EntersC.en rfl rfl rfl) (fun w' hm => union_calls vs[xn] vb fo[xn] first w' (fol_sl (hm.get (i := 2) rfl) hxn hxv) (Sl.of_own (hm.get (i := 4) rfl)) (by omega) (by omega)) rfl rfl rfl ?_)
    intro v _
    conv => arg 8; simp only [zA, zB, zC, zD, zE, zF, zG, zH, zI, rowS, ret, id_eq, intRS]
    refine TL_slv (i := 5) rfl fun hc1 ho1 => ?_
    refine TW_on (sub_pick [0] (by decide) rfl) ?_
    repeat (first
      | ((first | refine TW_plain rfl rfl ?_ | refine TW_gmet rfl rfl rfl rfl ?_); first | refine QW QP ?_ | refine QW (rr_idxc Und.eq TyC.ty rfl rfl hxv) ?_ | refine QW QL ?_ | refine QW QA ?_ | refine QW (rr_nilc rfl) ?_ | refine QW QlT ?_ | refine QW QlF ?_ | refine QW QaA ?_)
      | refine TW_done ?_)
    refine TW_one rfl (TL_setRow one1_len (i := 1) (k := xn) (l := vs) (a := v) TyC.ty rfl rfl (by omega) hxv rfl rfl hc1 (by simp only [one1, List.all_cons, List.all_nil, ho1]; rfl) (TW_on (sub_pick [0] (by decide) rfl) ?_))
    repeat (first
      | ((first | refine TW_plain rfl rfl ?_ | refine TW_gmet rfl rfl rfl rfl ?_); first | refine QW QP ?_ | refine QW QL ?_ | refine QW QA ?_ | refine QW (rr_nilc rfl) ?_ | refine QW QlT ?_ | refine QW QlF ?_ | refine QW QaA ?_)
      | refine TW_done ?_)
    repeat (first
      | refine QV QP ?_ | refine QZ ?_ | refine qcT rfl ?_ | refine qcF rfl ?_ | refine E_blockX ?_ | refine E_blockO rfl ?_ | refine QV QL ?_
      | refine QV QA ?_ | refine QV (rr_nilc rfl) ?_ | refine QV QlT ?_ | refine QV QlF ?_ | refine QV QaA ?_)
    refine E_merge (folE (fun k => F k ∨ v.ownBlock = some k) (vs.set xn v) (fo.set xn (uni fo[xn] first))) 5 2 [0, 1, 3, 4] (by decide) rfl rfl rfl (fun k hk => hk.elim (fun h => by cases h) fun h => h.elim (fun h => .inr (.inr h)) fun h => .inl (.inl h)) (fun w hr he => ?_) ?_
    · have := els_set (k := xn) he (fol_is (fun x hx => ⟨by have := hru.2 x hx; omega, by have := hru.2 x hx; omega⟩) hr) fun k hk => (intR v (uni fo[xn] first)).lt w hr k (.inl hk)
      rw [show ([v] : List Value) = one1 v from rfl, ← List.map_set] at this
      exact this
    refine E_pick [0, 1, 4, 2, 3] (by decide) rfl ?_
    exact E_round (k + 1, vs.set xn v, fun k => F k ∨ v.ownBlock = some k) ⟨by omega, by rw [List.length_set]; exact i2⟩ (by show last.length - (k + 1) < last.length - k; omega) (by repeat' (first | exact True.intro | refine And.intro rfl ?_)) (by dsimp only; rw [hstep]; show _ = [_, rowO _ _ _ (vs.set xn v).length _, _, _, _]; rw [List.length_set]; rfl)
  · obtain rfl : k = last.length := by omega
    rw [List.take_of_length_le (Nat.le_refl _)]
    repeat (first
      | refine QV QP ?_ | refine QZ ?_ | refine qcT rfl ?_ | refine qcF rfl ?_ | refine E_blockX ?_ | refine E_blockO rfl ?_ | refine QV QL ?_
      | refine QV QA ?_ | refine QV (rr_nilc rfl) ?_ | refine QV QlT ?_ | refine QV QlF ?_ | refine QV QaA ?_)
    exact E_end0 rfl fun w hm => hm.meetsB (S := behSp g vc vr vf vfol vl ve rule (.slice aa last.length ca) vb fol last first) (vs, F) i2 [0, 1, 2, 3, 4] (by decide) rfl
end Go.Proofs.YtkcnoompimohnaaDoor.eng

/- PlN -/
namespace Go.Proofs.YtkcnoompimohnaaDoor.eng
open Go.RowKit kit mix classL rexL placesL
/-- blocks that are there already, and stay -/
def OldB (B : Base) (k : Nat) : Prop := k < B.w.heap.size ∧ ¬ B.X k
theorem at_oldB {B : Base} {L : List Own} {b off : Nat} {cs : List Value} (hb : OldB B b) (h : Rd B.w b off cs) (j : Nat) (v : Value) (hj : cs[j]? = some v) : At B L ⟨b, off + j, none⟩ v := fun w hm =>
  rd_stay h (hm.low.block b hb.1 hb.2) j v hj
theorem old_on {B : Base} {Lx : List Own} {w : World} (hm : Mem B Lx w) {k : Nat} (hk : OldB B k) : OldB (Base.on w Lx) k := by
  refine ⟨Nat.lt_of_lt_of_le hk.1 hm.low.size, ?_⟩
  rintro ⟨o, ho, hf⟩
  obtain ⟨i, hi⟩ := List.mem_iff_getElem?.1 ho
  rcases (hm.owns.all i o hi).2 k hf with h | h
  · have := hk.1; omega
  · exact hk.2 h
theorem rex_on {B : Base} {Lx : List Own} {w : World} {v : Value} {r : Rx} (hm : Mem B Lx w) (h : RexR (OldB B) B.w v r) : RexR (OldB (Base.on w Lx)) w v r :=
  (h.stay fun k hk => hm.low.block k hk.1 hk.2).mono fun _ hk => old_on hm hk
/-- what the maker has -/
structure MIx where
  vc : Value
  vr : Value
  vfol : Value
  vl : Value
  vs : List Value
  F : Nat → Prop
def mkL (g : Nat) (vf ve : Value) (rule : Int) (x : MIx) (p : PS) : List Own :=
  [blkO g (mkC x.vc x.vr vf x.vfol x.vl ve rule) 82, rowO 31 4 x.vc p.classes.length (p.classes.flatMap clsL), intR x.vr p.rules, folR x.vfol x.vs, folE x.F x.vs p.follow, rowO 4 1 x.vl p.last.length (p.last.map Value.bool)]
def nodeSp (g : Nat) (vf ve : Value) (rule : Int) (R : Shape × PS) : Spec (MIx × Value × Value) :=
  ⟨fun x => x.1.vs.length = R.2.follow.length, fun x => .agg #[.bool R.1.empty, x.2.1, x.2.2], fun x => mkL g vf ve rule x.1 R.2 ++ [intR x.2.1 R.1.first, intR x.2.2 R.1.last]⟩
theorem build_shp0 (w : World) : (Instr.build 84 (#[] : Array (Nat × Value))).run Tryd.prog w = .ok (.agg #[.bool false, .slice none 0 0, .slice none 0 0]) w := by
  go_simp
theorem build_shpT (w : World) : (Instr.build 84 #[(0, .bool true)]).run Tryd.prog w = .ok (.agg #[.bool true, .slice none 0 0, .slice none 0 0]) w := by
  go_simp
/-- what a node's kids are called with -/
def NodeAt (M : Nat) : Prop := ∀ (e : Re), e.size ≤ M → ∀ (g : Nat) (vf ve : Value) (rule : Int) (p : PS) (x : MIx) (v : Value) (w : World) (B : Base), PSOk p → x.vs.length = p.follow.length → p.classes.length + e.size ≤ 100000 → kit.okI64 rule → RexR (OldB B) B.w v (emb e) → Mem B (mkL g vf ve rule x p) w →
  Calls Tryd.prog 27 #[.pointer (some ⟨g, 0, none⟩), v] w (MeetsB (nodeSp g vf ve rule (nodeF rule e p)) B)
set_option maxHeartbeats 8000000 in
theorem node_none (g : Nat) (vf ve : Value) (rule : Int) (p : PS) (x : MIx) (v : Value) (w : World) (B : Base) (hx : x.vs.length = p.follow.length) (hv : RexR (OldB B) B.w v (emb .none)) (hm : Mem B (mkL g vf ve rule x p) w) :
    Calls Tryd.prog 27 #[.pointer (some ⟨g, 0, none⟩), v] w (MeetsB (nodeSp g vf ve rule (nodeF rule .none p)) B) := by
  obtain ⟨vk, rfl, _, hks⟩ := hv
  obtain ⟨bk, ck, rfl, -⟩ := hks
  unfold mkL at hm
  refine enterB hm (args := [.pointer (some ⟨g, 0, none⟩), rexV (emb .none).kind (emb .none).cls (.slice bk (emb .none).kids.length ck)]) (n := 176) Tryd.func27 rfl rfl rfl ?_
  clear hm
  refine T_seq (T_region (TL_box rfl rfl rfl fun g3 => TL_new rfl fun g4 => ?_))
  conv => arg 8; simp only [zA, zB, zC, zD, zE, zF, zG, zH, zI, rowS, ret, id_eq]
  repeat (first
    | refine QV QP ?_ | refine QZ ?_ | refine qcT rfl ?_ | refine qcF rfl ?_ | refine qs rfl rfl rfl rfl rfl rfl ?_
    | ((try refine qg rfl rfl rfl ?_); first | refine QV QP ?_ | refine QV (rr_load1 (v := .int .i64 1) TyC.ty rfl (at_blk (i := 6) rfl rfl)) ?_ | refine QV (rr_build rfl build_shp0) ?_ | refine QV QL ?_ | refine QV QA ?_ | refine QV (rr_nilc rfl) ?_ | refine QV QeT ?_ | refine QV QeF ?_))
  refine TL_storeB (i := 7) rfl rfl rfl rfl rfl rfl ?_
  conv => arg 8; simp only [zA, zB, zC, zD, zE, zF, zG, zH, zI, rowS, ret, id_eq]
  repeat (first
    | refine QV QP ?_ | refine QZ ?_ | refine qcT rfl ?_ | refine qcF rfl ?_ | refine qs rfl rfl rfl rfl rfl rfl ?_
    | ((try refine qg rfl rfl rfl ?_); first | refine QV QP ?_ | refine QV QL ?_ | refine QV QA ?_ | refine QV (rr_nilc rfl) ?_ | refine QV QeT ?_ | refine QV QeF ?_))
  refine E_nilrow 3 1 (E_nilrow 3 1 ?_)
  exact E_retc1 (i := 7) rfl rfl rfl rfl fun w hm => hm.meetsB (S := nodeSp g vf ve rule (nodeF rule .none p)) (x, .slice none 0 0, .slice none 0 0) hx [0, 1, 2, 3, 4, 5, 8, 9] (by decide) rfl
set_option maxHeartbeats 8000000 in
theorem node_empty (g : Nat) (vf ve : Value) (rule : Int) (p : PS) (x : MIx) (v : Value) (w : World) (B : Base) (hx : x.vs.length = p.follow.length) (hv : RexR (OldB B) B.w v (emb .empty)) (hm : Mem B (mkL g vf ve rule x p) w) :
    Calls Tryd.prog 27 #[.pointer (some ⟨g, 0, none⟩), v] w (MeetsB (nodeSp g vf ve rule (nodeF rule .empty p)) B) := by
  obtain ⟨vk, rfl, _, hks⟩ := hv
  obtain ⟨bk, ck, rfl, -⟩ := hks
  unfold mkL at hm
  refine enterB hm (args := [.pointer (some ⟨g, 0, none⟩), rexV (emb .empty).kind (emb .empty).cls (.slice bk (emb .empty).kids.length ck)]) (n := 176) Tryd.func27 rfl rfl rfl ?_
  clear hm
  refine T_seq (T_region (TL_box rfl rfl rfl fun g3 => TL_new rfl fun g4 => ?_))
  conv => arg 8; simp only [zA, zB, zC, zD, zE, zF, zG, zH, zI, rowS, ret, id_eq]
  repeat (first
    | refine QV QP ?_ | refine QZ ?_ | refine qcT rfl ?_ | refine qcF rfl ?_ | refine qs rfl rfl rfl rfl rfl rfl ?_
    | ((try refine qg rfl rfl rfl ?_); first | refine QV QP ?_ | refine QV (rr_load1 (v := .int .i64 2) TyC.ty rfl (at_blk (i := 6) rfl rfl)) ?_ | refine QV (rr_build rfl build_shpT) ?_ | refine QV QL ?_ | refine QV QA ?_ | refine QV (rr_nilc rfl) ?_ | refine QV QeT ?_ | refine QV QeF ?_))
  refine TL_storeB (i := 7) rfl rfl rfl rfl rfl rfl ?_
  conv => arg 8; simp only [zA, zB, zC, zD, zE, zF, zG, zH, zI, rowS, ret, id_eq]
  repeat (first
    | refine QV QP ?_ | refine QZ ?_ | refine qcT rfl ?_ | refine qcF rfl ?_ | refine qs rfl rfl rfl rfl rfl rfl ?_
    | ((try refine qg rfl rfl rfl ?_); first | refine QV QP ?_ | refine QV QL ?_ | refine QV QA ?_ | refine QV (rr_nilc rfl) ?_ | refine QV QeT ?_ | refine QV QeF ?_))
  refine E_nilrow 3 1 (E_nilrow 3 1 ?_)
  exact E_retc1 (i := 7) rfl rfl rfl rfl fun w hm => hm.meetsB (S := nodeSp g vf ve rule (nodeF rule .empty p)) (x, .slice none 0 0, .slice none 0 0) hx [0, 1, 2, 3, 4, 5, 8, 9] (by decide) rfl
/-- the maker's rule, which nodes leave alone -/
def ruleO (g : Nat) (rule : Int) : Own :=
  ⟨some g, fun _ => False, fun w => ∃ vc vr vf vfol vl ve, w.heap[g]? = some (.cells (mkC vc vr vf vfol vl ve rule) 82 (0, 0)), fun w ⟨_, _, _, _, _, _, h⟩ k hk => by simp only [Option.some.injEq, or_false] at hk; subst hk; exact (Array.getElem?_eq_some_iff.1 h).1,
    fun w w' ⟨vc, vr, vf, vfol, vl, ve, h⟩ _ hb => ⟨vc, vr, vf, vfol, vl, ve, by rw [hb g (.inl rfl)]; exact h⟩⟩
theorem sub_rule {B : Base} {L : List Own} {g : Nat} {vc vr vf vfol vl ve : Value} {rule : Int} (h : L[0]? = some (blkO g (mkC vc vr vf vfol vl ve rule) 82)) : ∀ w, Mem B L w → Mem B [ruleO g rule] w := fun w hm => by
  have h1 := hm.pick (L' := [blkO g (mkC vc vr vf vfol vl ve rule) 82]) [0] (by decide) (by simp [h])
  exact h1.reownAt (i := 0) (ruleO g rule) rfl ⟨vc, vr, vf, vfol, vl, ve, h1.get (i := 0) rfl⟩ fun k hk => hk
theorem at_rule {B : Base} {L : List Own} {g i : Nat} {rule : Int} (h : L[i]? = some (ruleO g rule)) : At B L ⟨g, 6, none⟩ (.int .i64 rule) := fun w hm => by
  obtain ⟨vc, vr, vf, vfol, vl, ve, h⟩ := (hm.get h : (ruleO g rule).holds w)
  rw [cell_of_row w g 6 _ _ _ h]; rfl
theorem cls_one (c : C4) (u : Value) (h : u ∈ clsL c) : u.oneCell' = true := by
  simp only [clsL, List.mem_cons, List.not_mem_nil, or_false] at h
  rcases h with rfl | rfl | rfl | rfl <;> rfl
theorem rexcls_at (c : C4) {k : Int} {vk v : Value} {j : Nat} (hj : (clsL c)[j]? = some v) : ((rexC k c vk).toArray)[1 + j]? = some v := by
  match j, hj with
  | 0, hj => exact hj
  | 1, hj => exact hj
  | 2, hj => exact hj
  | 3, hj => exact hj
theorem build_shp2 (b b' : Option Addr) (m m' k k' : Nat) (w : World) : (Instr.build 84 #[(1, .slice b m k), (2, .slice b' m' k')]).run Tryd.prog w = .ok (.agg #[.bool false, .slice b m k, .slice b' m' k']) w := by
  go_simp
theorem intR_snoc (v : Value) (l : List Int) (x : Int) : rowO 3 1 v (l.length + 1) (l.map (Value.int .i64) ++ [.int .i64 x]) = intR v (l ++ [x]) := by
  show _ = rowO 3 1 v (l ++ [x]).length ((l ++ [x]).map (Value.int .i64))
  rw [List.length_append, List.map_append]; rfl
theorem fol_snoc (v : Value) (l : List Value) (x : Value) : rowO 24 1 v (l.length + 1) (l.flatMap one1 ++ [x]) = folR v (l ++ [x]) := by
  show _ = rowO 24 1 v (l ++ [x]).length ((l ++ [x]).flatMap one1)
  rw [List.length_append, List.flatMap_append]; rfl
theorem bool_snoc (v : Value) (l : List Bool) (x : Bool) : rowO 4 1 v (l.length + 1) (l.map Value.bool ++ [.bool x]) = rowO 4 1 v (l ++ [x]).length ((l ++ [x]).map Value.bool) := by
  rw [List.length_append, List.map_append]; rfl
theorem one_row {w : World} {g : Nat} {n : Int} (h : (blkO g #[.int .i64 n] 3).holds w) : (intR (.slice (some ⟨g, 0, none⟩) 1 1) [n]).holds w :=
  ⟨rfl, .inr ⟨g, 1, _, rfl, Nat.zero_le _, h, Nat.le_refl _, by decide, rfl, rfl⟩⟩
set_option maxHeartbeats 16000000 in
theorem node_byte (c : C4) (g : Nat) (vf ve : Value) (rule : Int) (p : PS) (x : MIx) (v : Value) (w : World) (B : Base) (hp : PSOk p) (hx : x.vs.length = p.follow.length) (hn : p.classes.length ≤ 100000) (hv : RexR (OldB B) B.w v (emb (.byte c))) (hm : Mem B (mkL g vf ve rule x p) w) :
    Calls Tryd.prog 27 #[.pointer (some ⟨g, 0, none⟩), v] w (MeetsB (nodeSp g vf ve rule (nodeF rule (.byte c) p)) B) := by
  obtain ⟨vk, rfl, _, hks⟩ := hv
  obtain ⟨bk, ck, rfl, -⟩ := hks
  obtain ⟨vc, vr, vfol, vl, vs, F⟩ := x
  unfold mkL at hm
  dsimp only at hx hm
  refine enterB hm (args := [.pointer (some ⟨g, 0, none⟩), rexV (emb (.byte c)).kind (emb (.byte c)).cls (.slice bk (emb (.byte c)).kids.length ck)]) (n := 176) Tryd.func27 rfl rfl rfl ?_
  clear hm
  refine T_seq (T_region (TL_box rfl rfl rfl fun g3 => TL_new rfl fun g4 => ?_))
  conv => arg 8; simp only [zA, zB, zC, zD, zE, zF, zG, zH, zI, rowS, ret, id_eq]
  refine TL_rowv (i := 1) rfl fun bc cc hvc hc1 hc2 => ?_
  subst hvc
  repeat (first
    | refine QV QP ?_ | refine QZ ?_ | refine qcT rfl ?_ | refine qcF rfl ?_ | refine qs rfl rfl rfl rfl rfl rfl ?_
    | ((try refine qg rfl rfl rfl ?_); first | refine QV QP ?_ | refine QV (rr_load1 (v := .int .i64 3) TyC.ty rfl (at_blk (i := 6) rfl rfl)) ?_ | refine QV (rr_nilc rfl) ?_ | refine QV (rr_load1 (v := .slice bc p.classes.length cc) TyC.ty rfl (at_blk (i := 0) rfl rfl)) ?_ | refine QV QL ?_ | refine QV QA ?_ | refine QV (rr_nilc rfl) ?_ | refine QV QeT ?_ | refine QV QeF ?_))
  (repeat refine T_seq ?_)
  refine T_midq (ι := Value) (fun _ => True) (fun _ => [(0, .pointer (some ⟨g, 0, none⟩)), (3, .pointer (some ⟨g3, 0, none⟩)), (4, .pointer (some ⟨g4, 0, none⟩)), (5, .int .i64 p.classes.length)])
    (fun vc' => [blkO g (mkC vc' vr vf vfol vl ve rule) 82, rowO 31 4 vc' (p.classes ++ [c]).length ((p.classes ++ [c]).flatMap clsL), intR vr p.rules, folR vfol vs, folE F vs p.follow, rowO 4 1 vl p.last.length (p.last.map Value.bool), blkO g4 #[.bool false, .slice none 0 0, .slice none 0 0] 84]) ?_ ?_
  · refine T_ord ([blkO g3 (rexC 3 c (.slice bk 0 ck)).toArray 33]) (.calm 0 (.calm 1 (.calm 2 (.calm 3 (.calm 4 (.calm 6 (.calm 7 (.two 5 (.one 8 (.one 9 (.calm 10 (.calm 11 (.calm 12 (.one 13 (.done))))))) 8 (.one 5 (.one 9 (.calm 10 (.calm 11 (.calm 12 (.one 13 (.done))))))))))))))) (sub_pick [6] (by decide) rfl) (by kernel_rfl) (by kernel_rfl) (by intro c a d v w h; cases d <;> exact h) ?_
    repeat (first
      | ((first | refine TW_plain rfl rfl ?_ | refine TW_gmet rfl rfl rfl rfl ?_); first | refine QW QP ?_ | refine QW (rr_nilc rfl) ?_ | refine QW (rr_loadN (cs := clsL c) TyC.ty rfl rfl (fun j v hj => at_blk (i := 0) rfl (rexcls_at c hj))) ?_ | refine QW QL ?_ | refine QW QA ?_ | refine QW (rr_nilc rfl) ?_ | refine QW QeT ?_ | refine QW QeF ?_)
      | refine TW_skip rfl rfl rfl rfl rfl rfl rfl ?_ | refine TW_done ?_)
    refine TW_two rfl rfl ?_ ?_
    · refine TL_val (rr_load1 (v := .slice bc p.classes.length cc) TyC.ty rfl (at_blk (i := 0) rfl rfl)) rfl rfl rfl (TW_on (sub_pick [6] (by decide) rfl) ?_)
      refine TW_one rfl (TL_litN (cs := (clsL c).toArray) [clsV c] rfl rfl rfl (by intro v hv; simp at hv; subst hv; rfl) rfl rfl rfl fun g33 => (TW_on (sub_pick [6] (by decide) rfl) ?_))
      refine TW_one rfl (TL_appSl (i := 1) (e := 31) (size := 4) (bytes := 32) (m := p.classes.length) (xs := p.classes.flatMap clsL) (k := 1) (ys := clsL c) rfl (sl_blk (i := 8) rfl (fun j u h => by simpa using h) (Nat.le_refl 1) (by decide)) rfl rfl rfl (fun u hu => cls_one c u hu) (by omega) (by omega) rfl fun vc' => (TW_on (sub_pick [6] (by decide) rfl) ?_))
      repeat (first
        | ((first | refine TW_plain rfl rfl ?_ | refine TW_gmet rfl rfl rfl rfl ?_); first | refine QW QP ?_ | refine QW (rr_nilc rfl) ?_ | refine QW QL ?_ | refine QW QA ?_ | refine QW (rr_nilc rfl) ?_ | refine QW QeT ?_ | refine QW QeF ?_)
        | refine TW_skip rfl rfl rfl rfl rfl rfl rfl ?_ | refine TW_done ?_)
      refine TW_one rfl (TL_slv (i := 1) rfl fun hv1 hv2 => TL_store1 (i := 0) rfl rfl rfl hv1 hv2 rfl (TW_on (sub_pick [6] (by decide) rfl) ?_))
      repeat (first
        | ((first | refine TW_plain rfl rfl ?_ | refine TW_gmet rfl rfl rfl rfl ?_); first | refine QW QP ?_ | refine QW QL ?_ | refine QW QA ?_ | refine QW (rr_nilc rfl) ?_ | refine QW QeT ?_ | refine QW QeF ?_)
        | refine TW_skip rfl rfl rfl rfl rfl rfl rfl ?_ | refine TW_done ?_)
      refine E_pick [0, 1, 2, 3, 4, 5, 7] (by decide) rfl ?_
      exact E_mid vc' trivial (by repeat' (first | exact True.intro | refine And.intro rfl ?_)) (by rw [List.length_append, List.flatMap_append]; rfl)
    · refine TL_litN (cs := (clsL c).toArray) [clsV c] rfl rfl rfl (by intro v hv; simp at hv; subst hv; rfl) rfl rfl rfl fun g33 => (TW_on (sub_pick [6] (by decide) rfl) ?_)
      refine TW_one rfl (TL_val (rr_load1 (v := .slice bc p.classes.length cc) TyC.ty rfl (at_blk (i := 0) rfl rfl)) rfl rfl rfl (TW_on (sub_pick [6] (by decide) rfl) ?_))
      refine TW_one rfl (TL_appSl (i := 1) (e := 31) (size := 4) (bytes := 32) (m := p.classes.length) (xs := p.classes.flatMap clsL) (k := 1) (ys := clsL c) rfl (sl_blk (i := 8) rfl (fun j u h => by simpa using h) (Nat.le_refl 1) (by decide)) rfl rfl rfl (fun u hu => cls_one c u hu) (by omega) (by omega) rfl fun vc' => (TW_on (sub_pick [6] (by decide) rfl) ?_))
      repeat (first
        | ((first | refine TW_plain rfl rfl ?_ | refine TW_gmet rfl rfl rfl rfl ?_); first | refine QW QP ?_ | refine QW (rr_nilc rfl) ?_ | refine QW QL ?_ | refine QW QA ?_ | refine QW (rr_nilc rfl) ?_ | refine QW QeT ?_ | refine QW QeF ?_)
        | refine TW_skip rfl rfl rfl rfl rfl rfl rfl ?_ | refine TW_done ?_)
      refine TW_one rfl (TL_slv (i := 1) rfl fun hv1 hv2 => TL_store1 (i := 0) rfl rfl rfl hv1 hv2 rfl (TW_on (sub_pick [6] (by decide) rfl) ?_))
      repeat (first
        | ((first | refine TW_plain rfl rfl ?_ | refine TW_gmet rfl rfl rfl rfl ?_); first | refine QW QP ?_ | refine QW QL ?_ | refine QW QA ?_ | refine QW (rr_nilc rfl) ?_ | refine QW QeT ?_ | refine QW QeF ?_)
        | refine TW_skip rfl rfl rfl rfl rfl rfl rfl ?_ | refine TW_done ?_)
      refine E_pick [0, 1, 2, 3, 4, 5, 7] (by decide) rfl ?_
      exact E_mid vc' trivial (by repeat' (first | exact True.intro | refine And.intro rfl ?_)) (by rw [List.length_append, List.flatMap_append]; rfl)
  clear hc1 hc2
  intro vc' _
  repeat (first
    | refine QV QP ?_ | refine QZ ?_ | refine qcT rfl ?_ | refine qcF rfl ?_ | refine qs rfl rfl rfl rfl rfl rfl ?_
    | ((try refine qg rfl rfl rfl ?_); first | refine QV QP ?_ | refine QV QL ?_ | refine QV QA ?_ | refine QV (rr_nilc rfl) ?_ | refine QV QeT ?_ | refine QV QeF ?_))
  (repeat refine T_seq ?_)
  have hrl := hp.rules
  refine T_midq (ι := Value) (fun _ => True) (fun _ => [(0, .pointer (some ⟨g, 0, none⟩)), (4, .pointer (some ⟨g4, 0, none⟩)), (5, .int .i64 p.classes.length)])
    (fun vr' => [blkO g (mkC vc' vr' vf vfol vl ve rule) 82, rowO 31 4 vc' (p.classes ++ [c]).length ((p.classes ++ [c]).flatMap clsL), intR vr' (p.rules ++ [rule]), folR vfol vs, folE F vs p.follow, rowO 4 1 vl p.last.length (p.last.map Value.bool), blkO g4 #[.bool false, .slice none 0 0, .slice none 0 0] 84]) ?_ ?_
  · refine T_ord ([ruleO g rule]) (.calm 0 (.calm 1 (.calm 2 (.calm 3 (.calm 4 (.calm 6 (.calm 7 (.calm 8 (.calm 9 (.two 5 (.one 10 (.one 11 (.calm 12 (.calm 13 (.calm 14 (.one 15 (.done))))))) 10 (.one 5 (.one 11 (.calm 12 (.calm 13 (.calm 14 (.one 15 (.done))))))))))))))))) (sub_rule rfl) (by kernel_rfl) (by kernel_rfl) (by intro c a d v w h; cases d <;> exact h) ?_
    repeat (first
      | ((first | refine TW_plain rfl rfl ?_ | refine TW_gmet rfl rfl rfl rfl ?_); first | refine QW QP ?_ | refine QW (rr_nilc rfl) ?_ | refine QW (rr_load1 (v := .int .i64 rule) TyC.ty rfl (at_rule (i := 0) rfl)) ?_ | refine QW QL ?_ | refine QW QA ?_ | refine QW (rr_nilc rfl) ?_ | refine QW QeT ?_ | refine QW QeF ?_)
      | refine TW_skip rfl rfl rfl rfl rfl rfl rfl ?_ | refine TW_done ?_)
    refine TW_two rfl rfl ?_ ?_
    · refine TL_val (rr_load1 (v := vr) TyC.ty rfl (at_blk (i := 0) rfl rfl)) rfl rfl rfl (TW_on (sub_rule rfl) ?_)
      refine TW_one rfl (TL_litN (cs := #[.int .i64 rule]) [.int .i64 rule] rfl rfl rfl (by intro v hv; simp at hv; subst hv; rfl) rfl rfl rfl fun g48 => (TW_on (sub_rule rfl) ?_))
      refine TW_one rfl (TL_appSl (i := 2) (e := 3) (size := 1) (bytes := 8) (m := p.rules.length) (xs := p.rules.map (Value.int .i64)) (k := 1) (ys := [.int .i64 rule]) rfl (sl_blk (i := 7) rfl (fun j u h => by simpa using h) (Nat.le_refl 1) (by decide)) rfl rfl rfl (fun u hu => by rw [List.mem_singleton.1 hu]; rfl) (by omega) (by omega) rfl fun vr' => (TW_on (sub_rule rfl) ?_))
      repeat (first
        | ((first | refine TW_plain rfl rfl ?_ | refine TW_gmet rfl rfl rfl rfl ?_); first | refine QW QP ?_ | refine QW (rr_nilc rfl) ?_ | refine QW QL ?_ | refine QW QA ?_ | refine QW (rr_nilc rfl) ?_ | refine QW QeT ?_ | refine QW QeF ?_)
        | refine TW_skip rfl rfl rfl rfl rfl rfl rfl ?_ | refine TW_done ?_)
      refine TW_one rfl (TL_slv (i := 2) rfl fun hv1 hv2 => TL_store1 (i := 0) rfl rfl rfl hv1 hv2 rfl (TW_on (sub_rule (vc := vc') (vr := vr') (vf := vf) (vfol := vfol) (vl := vl) (ve := ve) rfl) ?_))
      repeat (first
        | ((first | refine TW_plain rfl rfl ?_ | refine TW_gmet rfl rfl rfl rfl ?_); first | refine QW QP ?_ | refine QW QL ?_ | refine QW QA ?_ | refine QW (rr_nilc rfl) ?_ | refine QW QeT ?_ | refine QW QeF ?_)
        | refine TW_skip rfl rfl rfl rfl rfl rfl rfl ?_ | refine TW_done ?_)
      refine E_pick [0, 1, 2, 3, 4, 5, 6] (by decide) rfl ?_
      exact E_mid vr' trivial (by repeat' (first | exact True.intro | refine And.intro rfl ?_)) (by rw [← intR_snoc vr' p.rules rule]; rfl)
    · refine TL_litN (cs := #[.int .i64 rule]) [.int .i64 rule] rfl rfl rfl (by intro v hv; simp at hv; subst hv; rfl) rfl rfl rfl fun g48 => (TW_on (sub_rule rfl) ?_)
      refine TW_one rfl (TL_val (rr_load1 (v := vr) TyC.ty rfl (at_blk (i := 0) rfl rfl)) rfl rfl rfl (TW_on (sub_rule rfl) ?_))
      refine TW_one rfl (TL_appSl (i := 2) (e := 3) (size := 1) (bytes := 8) (m := p.rules.length) (xs := p.rules.map (Value.int .i64)) (k := 1) (ys := [.int .i64 rule]) rfl (sl_blk (i := 7) rfl (fun j u h => by simpa using h) (Nat.le_refl 1) (by decide)) rfl rfl rfl (fun u hu => by rw [List.mem_singleton.1 hu]; rfl) (by omega) (by omega) rfl fun vr' => (TW_on (sub_rule rfl) ?_))
      repeat (first
        | ((first | refine TW_plain rfl rfl ?_ | refine TW_gmet rfl rfl rfl rfl ?_); first | refine QW QP ?_ | refine QW (rr_nilc rfl) ?_ | refine QW QL ?_ | refine QW QA ?_ | refine QW (rr_nilc rfl) ?_ | refine QW QeT ?_ | refine QW QeF ?_)
        | refine TW_skip rfl rfl rfl rfl rfl rfl rfl ?_ | refine TW_done ?_)
      refine TW_one rfl (TL_slv (i := 2) rfl fun hv1 hv2 => TL_store1 (i := 0) rfl rfl rfl hv1 hv2 rfl (TW_on (sub_rule (vc := vc') (vr := vr') (vf := vf) (vfol := vfol) (vl := vl) (ve := ve) rfl) ?_))
      repeat (first
        | ((first | refine TW_plain rfl rfl ?_ | refine TW_gmet rfl rfl rfl rfl ?_); first | refine QW QP ?_ | refine QW QL ?_ | refine QW QA ?_ | refine QW (rr_nilc rfl) ?_ | refine QW QeT ?_ | refine QW QeF ?_)
        | refine TW_skip rfl rfl rfl rfl rfl rfl rfl ?_ | refine TW_done ?_)
      refine E_pick [0, 1, 2, 3, 4, 5, 6] (by decide) rfl ?_
      exact E_mid vr' trivial (by repeat' (first | exact True.intro | refine And.intro rfl ?_)) (by rw [← intR_snoc vr' p.rules rule]; rfl)
  intro vr' _
  have hfl := hp.follow
  have hll := hp.last
  repeat (first
    | refine QV QP ?_ | refine QZ ?_ | refine qcT rfl ?_ | refine qcF rfl ?_ | refine qs rfl rfl rfl rfl rfl rfl ?_
    | ((try refine qg rfl rfl rfl ?_); first | refine QV QP ?_ | refine QV (rr_nilc rfl) ?_ | refine QV (rr_load1 (v := vfol) TyC.ty rfl (at_blk (i := 0) rfl rfl)) ?_ | refine QV QL ?_ | refine QV QA ?_ | refine QV (rr_nilc rfl) ?_ | refine QV QeT ?_ | refine QV QeF ?_))
  refine TL_push1 (i := 3) (bytes := 24) rfl rfl rfl rfl rfl rfl (fun z h => by cases h; rfl) (by omega) (by omega) rfl fun z1 vfol' => ?_
  conv => arg 8; simp only [zA, zB, zC, zD, zE, zF, zG, zH, zI, rowS, ret, id_eq]
  repeat (first
    | refine QV QP ?_ | refine QZ ?_ | refine qcT rfl ?_ | refine qcF rfl ?_ | refine qs rfl rfl rfl rfl rfl rfl ?_
    | ((try refine qg rfl rfl rfl ?_); first | refine QV QP ?_ | refine QV (rr_nilc rfl) ?_ | refine QV QL ?_ | refine QV QA ?_ | refine QV (rr_nilc rfl) ?_ | refine QV QeT ?_ | refine QV QeF ?_))
  refine TL_slv (i := 3) rfl fun hv1 hv2 => TL_store1 (i := 0) rfl rfl rfl hv1 hv2 rfl ?_
  conv => arg 8; simp only [zA, zB, zC, zD, zE, zF, zG, zH, zI, rowS, ret, id_eq]
  repeat (first
    | refine QV QP ?_ | refine QZ ?_ | refine qcT rfl ?_ | refine qcF rfl ?_ | refine qs rfl rfl rfl rfl rfl rfl ?_
    | ((try refine qg rfl rfl rfl ?_); first | refine QV QP ?_ | refine QV (rr_nilc rfl) ?_ | refine QV (rr_load1 (v := vl) TyC.ty rfl (at_blk (i := 0) rfl rfl)) ?_ | refine QV QL ?_ | refine QV QA ?_ | refine QV (rr_nilc rfl) ?_ | refine QV QeT ?_ | refine QV QeF ?_))
  refine TL_push1 (i := 5) (bytes := 1) rfl rfl rfl rfl rfl rfl (fun z h => by cases h; rfl) (by omega) (by omega) rfl fun z2 vl' => ?_
  conv => arg 8; simp only [zA, zB, zC, zD, zE, zF, zG, zH, zI, rowS, ret, id_eq]
  repeat (first
    | refine QV QP ?_ | refine QZ ?_ | refine qcT rfl ?_ | refine qcF rfl ?_ | refine qs rfl rfl rfl rfl rfl rfl ?_
    | ((try refine qg rfl rfl rfl ?_); first | refine QV QP ?_ | refine QV (rr_nilc rfl) ?_ | refine QV QL ?_ | refine QV QA ?_ | refine QV (rr_nilc rfl) ?_ | refine QV QeT ?_ | refine QV QeF ?_))
  refine TL_slv (i := 5) rfl fun hv1 hv2 => TL_store1 (i := 0) rfl rfl rfl hv1 hv2 rfl ?_
  conv => arg 8; simp only [zA, zB, zC, zD, zE, zF, zG, zH, zI, rowS, ret, id_eq]
  repeat (first
    | refine QV QP ?_ | refine QZ ?_ | refine qcT rfl ?_ | refine qcF rfl ?_ | refine qs rfl rfl rfl rfl rfl rfl ?_
    | ((try refine qg rfl rfl rfl ?_); first | refine QV QP ?_ | refine QV QL ?_ | refine QV QA ?_ | refine QV (rr_nilc rfl) ?_ | refine QV QeT ?_ | refine QV QeF ?_))
  refine TL_litN (cs := #[.int .i64 p.classes.length]) [.int .i64 p.classes.length] rfl rfl rfl (by intro v hv; simp at hv; subst hv; rfl) rfl rfl rfl fun g76 => ?_
  conv => arg 8; simp only [zA, zB, zC, zD, zE, zF, zG, zH, zI, rowS, ret, id_eq]
  repeat (first
    | refine QV QP ?_ | refine QZ ?_ | refine qcT rfl ?_ | refine qcF rfl ?_ | refine qs rfl rfl rfl rfl rfl rfl ?_
    | ((try refine qg rfl rfl rfl ?_); first | refine QV QP ?_ | refine QV QL ?_ | refine QV QA ?_ | refine QV (rr_nilc rfl) ?_ | refine QV QeT ?_ | refine QV QeF ?_))
  refine TL_litN (cs := #[.int .i64 p.classes.length]) [.int .i64 p.classes.length] rfl rfl rfl (by intro v hv; simp at hv; subst hv; rfl) rfl rfl rfl fun g78 => ?_
  conv => arg 8; simp only [zA, zB, zC, zD, zE, zF, zG, zH, zI, rowS, ret, id_eq]
  repeat (first
    | refine QV QP ?_ | refine QZ ?_ | refine qcT rfl ?_ | refine qcF rfl ?_ | refine qs rfl rfl rfl rfl rfl rfl ?_
    | ((try refine qg rfl rfl rfl ?_); first | refine QV QP ?_ | refine QV (rr_build rfl (build_shp2 _ _ _ _ _ _)) ?_ | refine QV QL ?_ | refine QV QA ?_ | refine QV (rr_nilc rfl) ?_ | refine QV QeT ?_ | refine QV QeF ?_))
  refine TL_storeB (i := 6) (cs' := #[.bool false, .slice (some ⟨g76, 0, none⟩) 1 1, .slice (some ⟨g78, 0, none⟩) 1 1]) rfl rfl rfl rfl rfl rfl ?_
  conv => arg 8; simp only [zA, zB, zC, zD, zE, zF, zG, zH, zI, rowS, ret, id_eq]
  repeat (first
    | refine QV QP ?_ | refine QZ ?_ | refine qcT rfl ?_ | refine qcF rfl ?_ | refine qs rfl rfl rfl rfl rfl rfl ?_
    | ((try refine qg rfl rfl rfl ?_); first | refine QV QP ?_ | refine QV QL ?_ | refine QV QA ?_ | refine QV (rr_nilc rfl) ?_ | refine QV QeT ?_ | refine QV QeF ?_))
  refine E_reown (i := 7) (intR (.slice (some ⟨g76, 0, none⟩) 1 1) [(p.classes.length : Int)]) rfl (fun w h => one_row h) (fun k hk => hk) ?_
  refine E_reown (i := 8) (intR (.slice (some ⟨g78, 0, none⟩) 1 1) [(p.classes.length : Int)]) rfl (fun w h => one_row h) (fun k hk => hk) ?_
  refine E_reown (i := 4) (folE (fun k => F k ∨ False) (vs ++ [.slice none 0 0]) (p.follow ++ [[]])) rfl (fun w h => by
    have := els_snoc (F2 := fun _ => False) h (show folS.is (fun _ => False) w [.slice none 0 0] [] from ⟨_, rfl, fun _ h => (by cases h), ⟨rfl, .inl ⟨rfl, rfl⟩⟩, fun _ h => (by cases h)⟩) (fun k hk => hk.elim)
    rw [show vs.map one1 ++ [[Value.slice none 0 0]] = (vs ++ [Value.slice none 0 0]).map one1 by rw [List.map_append]; rfl] at this
    exact this) (fun k hk => hk.elim (fun h => by cases h) fun h => h.elim (fun h => .inr h) False.elim) ?_
  refine E_retc1 (i := 6) rfl rfl rfl rfl fun w hm => ?_
  refine hm.meetsB (S := nodeSp g vf ve rule (nodeF rule (.byte c) p)) (⟨vc', vr', vfol', vl', vs ++ [.slice none 0 0], fun k => F k ∨ False⟩, .slice (some ⟨g76, 0, none⟩) 1 1, .slice (some ⟨g78, 0, none⟩) 1 1) (by show (vs ++ [_]).length = (p.follow ++ [[]]).length; rw [List.length_append, List.length_append, hx]; rfl) [0, 1, 2, 3, 4, 5, 7, 8] (by decide) ?_
  show [_, _, _, folR vfol' (vs ++ [Value.slice none 0 0]), _, rowO 4 1 vl' (p.last ++ [false]).length ((p.last ++ [false]).map Value.bool), _, _] = _
  rw [← fol_snoc, ← bool_snoc]; rfl
end Go.Proofs.YtkcnoompimohnaaDoor.eng

/- PlS -/
namespace Go.Proofs.YtkcnoompimohnaaDoor.eng
open Go.RowKit kit mix classL rexL placesL
set_option maxHeartbeats 16000000 in
theorem node_star {M : Nat} (IH : NodeAt M) (a : Re) (ha : a.size ≤ M) (g : Nat) (vf ve : Value) (rule : Int) (p : PS) (x : MIx) (v : Value) (w : World) (B : Base) (hp : PSOk p) (hx : x.vs.length = p.follow.length) (hn : p.classes.length + (a.size + 1) ≤ 100000) (hr64 : kit.okI64 rule) (hv : RexR (OldB B) B.w v (emb (.star a))) (hm : Mem B (mkL g vf ve rule x p) w) :
    Calls Tryd.prog 27 #[.pointer (some ⟨g, 0, none⟩), v] w (MeetsB (nodeSp g vf ve rule (nodeF rule (.star a) p)) B) := by
  obtain ⟨vk, rfl, _, hks⟩ := hv
  obtain ⟨bk, ck, rfl, h1, h2, h3⟩ := hks
  obtain ⟨b, off, rfl, hF, hrd⟩ := h3 (by show 0 < 1; decide)
  obtain ⟨kb, kc, hr, hkid⟩ := rkid_at (k := 0) hrd (by show 0 < 1; decide)
  have hat := fun (L : List Own) (j : Nat) (v : Value) hj => at_oldB (L := L) hF hr j v hj
  clear h3 hrd hr
  obtain ⟨hp1, hp2, hp3, hp4, hp5⟩ := node_ok rule a p hp
  have hspec : nodeF rule (.star a) p = (⟨true, (nodeF rule a p).1.first, (nodeF rule a p).1.last⟩, { (nodeF rule a p).2 with follow := behindF (nodeF rule a p).2.follow (nodeF rule a p).1.last (nodeF rule a p).1.first }) := rfl
  have hIH := fun w B hv hm => IH a ha g vf ve rule p x (rexV (emb a).kind (emb a).cls (.slice kb (emb a).kids.length kc)) w B hp hx (by omega) hr64 hv hm
  rw [hspec]
  generalize nodeF rule a p = R at *
  obtain ⟨⟨e, first, last⟩, p'⟩ := R
  dsimp only at hp1 hp2 hp3 hp4 hp5 ⊢
  clear hspec
  unfold mkL at hm
  refine enterB hm (args := [.pointer (some ⟨g, 0, none⟩), rexV 6 C4.zero (.slice (some ⟨b, off, none⟩) 1 ck)]) (n := 176) Tryd.func27 rfl rfl rfl ?_
  clear hm
  refine T_seq (T_region (TL_box rfl rfl rfl fun g3 => TL_new rfl fun g4 => ?_))
  conv => arg 8; simp only [zA, zB, zC, zD, zE, zF, zG, zH, zI, rowS, ret, id_eq]
  repeat (first
    | refine QV QP ?_ | refine QZ ?_ | refine qcT rfl ?_ | refine qcF rfl ?_ | refine qs rfl rfl rfl rfl rfl rfl ?_
    | ((try refine qg rfl rfl rfl ?_); first | refine QV QP ?_ | refine QV (rr_load1 (v := .int .i64 6) TyC.ty rfl (at_blk (i := 6) rfl rfl)) ?_ | refine QV (rr_load1 (v := .slice (some ⟨b, off, none⟩) 1 ck) TyC.ty rfl (at_blk (i := 6) rfl rfl)) ?_ | refine QV (rr_idxc (j := 0) Und.eq TyC.ty rfl rfl (by decide)) ?_ | refine QV (rr_loadN TyC.ty rfl rfl (hat _)) ?_ | refine QV QL ?_ | refine QV QA ?_ | refine QV (rr_nilc rfl) ?_ | refine QV QeT ?_ | refine QV QeF ?_))
  refine TL_callB [0, 1, 2, 3, 4, 5] [6, 7] (by decide) rfl rfl (he2 EntersC.en rfl rfl rfl) (fun w hm hb => hIH w _ (rex_on (hm.pick [0, 1, 2, 3, 4, 5] (by decide) rfl) hkid) hb) rfl rfl rfl ?_
  rintro ⟨⟨vc, vr, vfol, vl, vs, F⟩, va, vb⟩ hx'
  have hx' : vs.length = p'.follow.length := hx'
  conv => arg 8; simp only [zA, zB, zC, zD, zE, zF, zG, zH, zI, rowS, ret, id_eq, nodeSp, mkL]
  conv => arg 7; simp only [nodeSp]
  refine TL_slv (i := 8) rfl fun hva1 hva2 => ?_
  refine TL_slv (i := 9) rfl fun hvb1 hvb2 => ?_
  refine TL_new rfl fun g6 => ?_
  conv => arg 8; simp only [zA, zB, zC, zD, zE, zF, zG, zH, zI, rowS, ret, id_eq]
  refine TL_storeB (i := 10) (cs' := #[.bool e, va, vb]) rfl rfl rfl rfl (by simp only [List.all_cons, List.all_nil, hva2, hvb2]; rfl) rfl ?_
  conv => arg 8; simp only [zA, zB, zC, zD, zE, zF, zG, zH, zI, rowS, ret, id_eq]
  repeat (first
    | refine QV QP ?_ | refine QZ ?_ | refine qcT rfl ?_ | refine qcF rfl ?_ | refine qs rfl rfl rfl rfl rfl rfl ?_
    | ((try refine qg rfl rfl rfl ?_); first | refine QV QP ?_ | refine QV (rr_load1 (v := vb) TyC.ty rfl (at_blk (i := 10) rfl rfl)) ?_ | refine QV (rr_load1 (v := va) TyC.ty rfl (at_blk (i := 10) rfl rfl)) ?_ | refine QV QL ?_ | refine QV QA ?_ | refine QV (rr_nilc rfl) ?_ | refine QV QeT ?_ | refine QV QeF ?_))
  refine TL_callB [2, 5, 6, 9, 8] [0, 1, 3, 4, 7, 10] (by decide) rfl rfl (he3 EntersC.en rfl rfl rfl rfl) (fun w hm hb => behind_calls g vc vr vf vfol vl ve rule vb va vs F p'.follow last first w _ hx' (by rw [hp1.follow]; omega) (by rw [hp1.follow]; exact hp1.ris) (by rw [hp1.follow]; exact hp5) (by rw [hp1.follow]; exact hp4) hb) rfl rfl rfl ?_
  rintro ⟨vs', F'⟩ hx2
  have hx2 : vs'.length = p'.follow.length := hx2
  conv => arg 8; simp only [zA, zB, zC, zD, zE, zF, zG, zH, zI, rowS, ret, id_eq, behSp]
  repeat (first
    | refine QV QP ?_ | refine QZ ?_ | refine qcT rfl ?_ | refine qcF rfl ?_ | refine qs rfl rfl rfl rfl rfl rfl ?_
    | ((try refine qg rfl rfl rfl ?_); first | refine QV QP ?_ | refine QV QL ?_ | refine QV QA ?_ | refine QV (rr_nilc rfl) ?_ | refine QV QeT ?_ | refine QV QeF ?_))
  refine TL_store1 (i := 5) rfl rfl rfl rfl rfl rfl ?_
  conv => arg 8; simp only [zA, zB, zC, zD, zE, zF, zG, zH, zI, rowS, ret, id_eq]
  repeat (first
    | refine QV QP ?_ | refine QZ ?_ | refine qcT rfl ?_ | refine qcF rfl ?_ | refine qs rfl rfl rfl rfl rfl rfl ?_
    | ((try refine qg rfl rfl rfl ?_); first | refine QV QP ?_ | refine QV (rr_loadB (i := 5) TyC.ty rfl rfl rfl) ?_ | refine QV QL ?_ | refine QV QA ?_ | refine QV (rr_nilc rfl) ?_ | refine QV QeT ?_ | refine QV QeF ?_))
  refine TL_storeB (i := 1) (cs' := #[.bool true, va, vb]) rfl rfl rfl rfl (by simp only [List.all_cons, List.all_nil, hva2, hvb2]; rfl) rfl ?_
  conv => arg 8; simp only [zA, zB, zC, zD, zE, zF, zG, zH, zI, rowS, ret, id_eq]
  repeat (first
    | refine QV QP ?_ | refine QZ ?_ | refine qcT rfl ?_ | refine qcF rfl ?_ | refine qs rfl rfl rfl rfl rfl rfl ?_
    | ((try refine qg rfl rfl rfl ?_); first | refine QV QP ?_ | refine QV QL ?_ | refine QV QA ?_ | refine QV (rr_nilc rfl) ?_ | refine QV QeT ?_ | refine QV QeF ?_))
  refine E_retc1 (i := 1) rfl rfl rfl rfl fun w hm => ?_
  exact hm.meetsB (S := nodeSp g vf ve rule (⟨true, first, last⟩, { p' with follow := behindF p'.follow last first })) (⟨vc, vr, vfol, vl, vs', F'⟩, va, vb) (by show vs'.length = (behindF p'.follow last first).length; rw [behind_len]; exact hx2) [6, 2, 3, 7, 8, 4, 10, 9] (by decide) rfl
end Go.Proofs.YtkcnoompimohnaaDoor.eng

/- PlA -/
namespace Go.Proofs.YtkcnoompimohnaaDoor.eng
open Go.RowKit kit mix classL rexL placesL
theorem build_shpA (e : Bool) (b b' : Option Addr) (m m' k k' : Nat) (w : World) : (Instr.build 84 #[(0, .bool e), (1, .slice b m k), (2, .slice b' m' k')]).run Tryd.prog w = .ok (.agg #[.bool e, .slice b m k, .slice b' m' k']) w := by
  go_simp
set_option maxHeartbeats 32000000 in
set_option maxRecDepth 100000 in
theorem node_alt {M : Nat} (IH : NodeAt M) (a b1 : Re) (ha : a.size ≤ M) (hb1 : b1.size ≤ M) (g : Nat) (vf ve : Value) (rule : Int) (p : PS) (x : MIx) (v : Value) (w : World) (B : Base) (hp : PSOk p) (hx : x.vs.length = p.follow.length) (hn : p.classes.length + (a.size + b1.size + 1) ≤ 100000) (hr64 : kit.okI64 rule) (hv : RexR (OldB B) B.w v (emb (.alt a b1))) (hm : Mem B (mkL g vf ve rule x p) w) :
    Calls Tryd.prog 27 #[.pointer (some ⟨g, 0, none⟩), v] w (MeetsB (nodeSp g vf ve rule (nodeF rule (.alt a b1) p)) B) := by
  obtain ⟨vk, rfl, _, hks⟩ := hv
  obtain ⟨bk, ck, rfl, h1, h2, h3⟩ := hks
  obtain ⟨b, off, rfl, hF, hrd⟩ := h3 (by show 0 < 2; decide)
  obtain ⟨kb, kc, hr, hkid1⟩ := rkid_at (k := 0) hrd (by show 0 < 2; decide)
  obtain ⟨kb2, kc2, hr2, hkid2⟩ := rkid_at (k := 1) hrd (by show 1 < 2; decide)
  have hat1 := fun (L : List Own) (j : Nat) (v : Value) hj => at_oldB (L := L) hF hr j v hj
  have hat2 := fun (L : List Own) (j : Nat) (v : Value) hj => at_oldB (L := L) hF hr2 j v hj
  clear h3 hrd hr hr2
  obtain ⟨hp1, hp2, hp3, hp4, hp5⟩ := node_ok rule a p hp
  obtain ⟨kp1, kp2, kp3, kp4, kp5⟩ := node_ok rule b1 _ hp1
  have hI1 := fun w B hv hm => IH a ha g vf ve rule p x (rexV (emb a).kind (emb a).cls (.slice kb (emb a).kids.length kc)) w B hp hx (by omega) hr64 hv hm
  have hI2 := fun x1 hx1 w B hv hm => IH b1 hb1 g vf ve rule (nodeF rule a p).2 x1 (rexV (emb b1).kind (emb b1).cls (.slice kb2 (emb b1).kids.length kc2)) w B hp1 hx1 (by omega) hr64 hv hm
  rw [show nodeF rule (.alt a b1) p = (⟨(nodeF rule a p).1.empty || (nodeF rule b1 (nodeF rule a p).2).1.empty, uni (nodeF rule a p).1.first (nodeF rule b1 (nodeF rule a p).2).1.first, uni (nodeF rule a p).1.last (nodeF rule b1 (nodeF rule a p).2).1.last⟩, (nodeF rule b1 (nodeF rule a p).2).2) from rfl]
  generalize nodeF rule b1 (nodeF rule a p).2 = R2 at *
  generalize nodeF rule a p = R1 at *
  obtain ⟨⟨e1, first1, last1⟩, p1⟩ := R1
  obtain ⟨⟨e2, first2, last2⟩, p2⟩ := R2
  dsimp only at hp1 hp2 hp3 hp4 hp5 kp1 kp2 kp3 kp4 kp5 hI2 ⊢
  unfold mkL at hm
  refine enterB hm (args := [.pointer (some ⟨g, 0, none⟩), rexV 5 C4.zero (.slice (some ⟨b, off, none⟩) 2 ck)]) (n := 176) Tryd.func27 rfl rfl rfl ?_
  clear hm
  refine T_seq (T_region (TL_box rfl rfl rfl fun g3 => TL_new rfl fun g4 => ?_))
  conv => arg 8; simp only [zA, zB, zC, zD, zE, zF, zG, zH, zI, rowS, ret, id_eq]
  repeat (first
    | refine QV QP ?_ | refine QZ ?_ | refine qcT rfl ?_ | refine qcF rfl ?_ | refine qs rfl rfl rfl rfl rfl rfl ?_
    | ((try refine qg rfl rfl rfl ?_); first | refine QV QP ?_ | refine QV (rr_load1 (v := .int .i64 5) TyC.ty rfl (at_blk (i := 6) rfl rfl)) ?_ | refine QV QL ?_ | refine QV QA ?_ | refine QV (rr_nilc rfl) ?_ | refine QV QeT ?_ | refine QV QeF ?_))
  (repeat refine T_seq ?_)
  refine T_midq (ι := MIx × Value × Value × Value × Value × Nat × Nat) (fun y => y.1.vs.length = p2.follow.length) (fun y => [(0, .pointer (some ⟨g, 0, none⟩)), (4, .pointer (some ⟨g4, 0, none⟩)), (7, .pointer (some ⟨y.2.2.2.2.2.1, 0, none⟩)), (8, .pointer (some ⟨y.2.2.2.2.2.2, 0, none⟩))])
    (fun y => mkL g vf ve rule y.1 p2 ++ [intR y.2.1 first1, intR y.2.2.1 last1, intR y.2.2.2.1 first2, intR y.2.2.2.2.1 last2, blkO g4 #[.bool false, .slice none 0 0, .slice none 0 0] 84, blkO y.2.2.2.2.2.1 #[.bool e1, y.2.1, y.2.2.1] 84, blkO y.2.2.2.2.2.2 #[.bool e2, y.2.2.2.1, y.2.2.2.2.1] 84]) ?_ ?_
  · refine T_ord ([blkO g3 (rexC 5 C4.zero (.slice (some ⟨b, off, none⟩) 2 ck)).toArray 33]) (.calm 0 (.calm 1 (.calm 2 (.calm 3 (.calm 4 (.calm 6 (.calm 7 (.calm 8 (.calm 9 (.calm 10 (.three 5 (.three 11 (.two 12 (.one 13 (.one 14 (.one 15 (.done)))) 13 (.one 12 (.one 14 (.one 15 (.done))))) 12 (.two 11 (.one 13 (.one 14 (.one 15 (.done)))) 13 (.one 11 (.one 14 (.one 15 (.done))))) 13 (.two 11 (.one 12 (.one 14 (.one 15 (.done)))) 12 (.one 11 (.one 14 (.one 15 (.done)))))) 12 (.two 5 (.two 11 (.one 13 (.one 14 (.one 15 (.done)))) 13 (.one 11 (.one 14 (.one 15 (.done))))) 13 (.one 5 (.one 11 (.one 14 (.one 15 (.done)))))) 13 (.two 5 (.two 11 (.one 12 (.one 14 (.one 15 (.done)))) 12 (.one 11 (.one 14 (.one 15 (.done))))) 12 (.one 5 (.one 11 (.one 14 (.one 15 (.done))))))))))))))))) (sub_pick [6] (by decide) rfl) (by kernel_rfl) (by kernel_rfl) (by intro c a d v w h; cases d <;> exact h) ?_
    repeat (first
      | ((first | refine TW_plain rfl rfl ?_ | refine TW_gmet rfl rfl rfl rfl ?_); first | refine QW QP ?_ | refine QW (rr_load1 (v := .slice (some ⟨b, off, none⟩) 2 ck) TyC.ty rfl (at_blk (i := 0) rfl rfl)) ?_ | refine QW (rr_idxc (j := 0) Und.eq TyC.ty rfl rfl (by decide)) ?_ | refine QW (rr_idxc (j := 1) Und.eq TyC.ty rfl rfl (by decide)) ?_ | refine QW (rr_loadN TyC.ty rfl rfl (hat1 _)) ?_ | refine QW (rr_loadN TyC.ty rfl rfl (hat2 _)) ?_ | refine QW QL ?_ | refine QW QA ?_ | refine QW (rr_nilc rfl) ?_ | refine QW QeT ?_ | refine QW QeF ?_)
      | refine TW_skip rfl rfl rfl rfl rfl rfl rfl ?_ | refine TW_done ?_)
    refine TW_three rfl rfl rfl ?_ ?_ ?_
    · refine TL_callB [0, 1, 2, 3, 4, 5] [6, 7] (by decide) rfl rfl (he2 EntersC.en rfl rfl rfl) (fun w hm hb => hI1 w _ (rex_on (hm.pick [0, 1, 2, 3, 4, 5] (by decide) rfl) hkid1) hb) rfl rfl rfl ?_
      rintro ⟨⟨vc1, vr1, vfol1, vl1, vs1, F1⟩, va1, vb1⟩ hx1
      have hx1 : vs1.length = p1.follow.length := hx1
      conv => arg 8; simp only [zA, zB, zC, zD, zE, zF, zG, zH, zI, rowS, ret, id_eq, nodeSp, mkL]
      conv => arg 7; simp only [nodeSp]
      refine TW_on (sub_pick [0] (by decide) rfl) ?_
      refine TW_three rfl rfl rfl ?_ ?_ ?_
      · refine TL_callB [2, 3, 4, 5, 6, 7] [0, 1, 8, 9] (by decide) rfl rfl (he2 EntersC.en rfl rfl rfl) (fun w hm hb => hI2 ⟨vc1, vr1, vfol1, vl1, vs1, F1⟩ hx1 w _ (rex_on (hm.pick [2, 3, 4, 5, 6, 7] (by decide) rfl) hkid2) hb) rfl rfl rfl ?_
        rintro ⟨⟨vc2, vr2, vfol2, vl2, vs2, F2⟩, va2, vb2⟩ hx2
        have hx2 : vs2.length = p2.follow.length := hx2
        conv => arg 8; simp only [zA, zB, zC, zD, zE, zF, zG, zH, zI, rowS, ret, id_eq, nodeSp, mkL]
        conv => arg 7; simp only [nodeSp]
        refine TW_on (sub_pick [0] (by decide) rfl) ?_
        refine TW_two rfl rfl ?_ ?_
        · refine TL_new rfl fun g7 => (TW_on (sub_pick [0] (by decide) rfl) ?_)
          refine TW_one rfl (TL_new rfl fun g8 => (TW_on (sub_pick [0] (by decide) rfl) ?_))
          refine TW_one rfl (TL_slv (i := 2) rfl fun _ qa1 => TL_slv (i := 3) rfl fun _ qb1 => TL_storeB (i := 12) (cs' := #[.bool e1, va1, vb1]) rfl rfl rfl rfl (by simp only [List.all_cons, List.all_nil, qa1, qb1]; rfl) rfl (TW_on (sub_pick [0] (by decide) rfl) ?_))
          repeat (first
            | ((first | refine TW_plain rfl rfl ?_ | refine TW_gmet rfl rfl rfl rfl ?_); first | refine QW QP ?_ | refine QW QL ?_ | refine QW QA ?_ | refine QW (rr_nilc rfl) ?_ | refine QW QeT ?_ | refine QW QeF ?_)
            | refine TW_skip rfl rfl rfl rfl rfl rfl rfl ?_ | refine TW_done ?_)
          refine TW_one rfl (TL_slv (i := 10) rfl fun _ qa2 => TL_slv (i := 11) rfl fun _ qb2 => TL_storeB (i := 13) (cs' := #[.bool e2, va2, vb2]) rfl rfl rfl rfl (by simp only [List.all_cons, List.all_nil, qa2, qb2]; rfl) rfl (TW_on (sub_pick [0] (by decide) rfl) ?_))
          repeat (first
            | ((first | refine TW_plain rfl rfl ?_ | refine TW_gmet rfl rfl rfl rfl ?_); first | refine QW QP ?_ | refine QW QL ?_ | refine QW QA ?_ | refine QW (rr_nilc rfl) ?_ | refine QW QeT ?_ | refine QW QeF ?_)
            | refine TW_skip rfl rfl rfl rfl rfl rfl rfl ?_ | refine TW_done ?_)
          refine E_pick [4, 5, 6, 7, 8, 9, 2, 3, 10, 11, 1, 12, 13] (by decide) rfl ?_
          exact E_mid (⟨vc2, vr2, vfol2, vl2, vs2, F2⟩, va1, vb1, va2, vb2, g7, g8) hx2 (by repeat' (first | exact True.intro | refine And.intro rfl ?_)) rfl
        · refine TL_new rfl fun g8 => (TW_on (sub_pick [0] (by decide) rfl) ?_)
          refine TW_one rfl (TL_new rfl fun g7 => (TW_on (sub_pick [0] (by decide) rfl) ?_))
          refine TW_one rfl (TL_slv (i := 2) rfl fun _ qa1 => TL_slv (i := 3) rfl fun _ qb1 => TL_storeB (i := 13) (cs' := #[.bool e1, va1, vb1]) rfl rfl rfl rfl (by simp only [List.all_cons, List.all_nil, qa1, qb1]; rfl) rfl (TW_on (sub_pick [0] (by decide) rfl) ?_))
          repeat (first
            | ((first | refine TW_plain rfl rfl ?_ | refine TW_gmet rfl rfl rfl rfl ?_); first | refine QW QP ?_ | refine QW QL ?_ | refine QW QA ?_ | refine QW (rr_nilc rfl) ?_ | refine QW QeT ?_ | refine QW QeF ?_)
            | refine TW_skip rfl rfl rfl rfl rfl rfl rfl ?_ | refine TW_done ?_)
          refine TW_one rfl (TL_slv (i := 10) rfl fun _ qa2 => TL_slv (i := 11) rfl fun _ qb2 => TL_storeB (i := 12) (cs' := #[.bool e2, va2, vb2]) rfl rfl rfl rfl (by simp only [List.all_cons, List.all_nil, qa2, qb2]; rfl) rfl (TW_on (sub_pick [0] (by decide) rfl) ?_))
          repeat (first
            | ((first | refine TW_plain rfl rfl ?_ | refine TW_gmet rfl rfl rfl rfl ?_); first | refine QW QP ?_ | refine QW QL ?_ | refine QW QA ?_ | refine QW (rr_nilc rfl) ?_ | refine QW QeT ?_ | refine QW QeF ?_)
            | refine TW_skip rfl rfl rfl rfl rfl rfl rfl ?_ | refine TW_done ?_)
          refine E_pick [4, 5, 6, 7, 8, 9, 2, 3, 10, 11, 1, 13, 12] (by decide) rfl ?_
          exact E_mid (⟨vc2, vr2, vfol2, vl2, vs2, F2⟩, va1, vb1, va2, vb2, g7, g8) hx2 (by repeat' (first | exact True.intro | refine And.intro rfl ?_)) rfl
      · refine TL_new rfl fun g7 => (TW_on (sub_pick [0] (by decide) rfl) ?_)
        refine TW_two rfl rfl ?_ ?_
        · refine TL_callB [2, 3, 4, 5, 6, 7] [0, 1, 8, 9, 10] (by decide) rfl rfl (he2 EntersC.en rfl rfl rfl) (fun w hm hb => hI2 ⟨vc1, vr1, vfol1, vl1, vs1, F1⟩ hx1 w _ (rex_on (hm.pick [2, 3, 4, 5, 6, 7] (by decide) rfl) hkid2) hb) rfl rfl rfl ?_
          rintro ⟨⟨vc2, vr2, vfol2, vl2, vs2, F2⟩, va2, vb2⟩ hx2
          have hx2 : vs2.length = p2.follow.length := hx2
          conv => arg 8; simp only [zA, zB, zC, zD, zE, zF, zG, zH, zI, rowS, ret, id_eq, nodeSp, mkL]
          conv => arg 7; simp only [nodeSp]
          refine TW_on (sub_pick [0] (by decide) rfl) ?_
          refine TW_one rfl (TL_new rfl fun g8 => (TW_on (sub_pick [0] (by decide) rfl) ?_))
          refine TW_one rfl (TL_slv (i := 2) rfl fun _ qa1 => TL_slv (i := 3) rfl fun _ qb1 => TL_storeB (i := 4) (cs' := #[.bool e1, va1, vb1]) rfl rfl rfl rfl (by simp only [List.all_cons, List.all_nil, qa1, qb1]; rfl) rfl (TW_on (sub_pick [0] (by decide) rfl) ?_))
          repeat (first
            | ((first | refine TW_plain rfl rfl ?_ | refine TW_gmet rfl rfl rfl rfl ?_); first | refine QW QP ?_ | refine QW QL ?_ | refine QW QA ?_ | refine QW (rr_nilc rfl) ?_ | refine QW QeT ?_ | refine QW QeF ?_)
            | refine TW_skip rfl rfl rfl rfl rfl rfl rfl ?_ | refine TW_done ?_)
          refine TW_one rfl (TL_slv (i := 11) rfl fun _ qa2 => TL_slv (i := 12) rfl fun _ qb2 => TL_storeB (i := 13) (cs' := #[.bool e2, va2, vb2]) rfl rfl rfl rfl (by simp only [List.all_cons, List.all_nil, qa2, qb2]; rfl) rfl (TW_on (sub_pick [0] (by decide) rfl) ?_))
          repeat (first
            | ((first | refine TW_plain rfl rfl ?_ | refine TW_gmet rfl rfl rfl rfl ?_); first | refine QW QP ?_ | refine QW QL ?_ | refine QW QA ?_ | refine QW (rr_nilc rfl) ?_ | refine QW QeT ?_ | refine QW QeF ?_)
            | refine TW_skip rfl rfl rfl rfl rfl rfl rfl ?_ | refine TW_done ?_)
          refine E_pick [5, 6, 7, 8, 9, 10, 2, 3, 11, 12, 1, 4, 13] (by decide) rfl ?_
          exact E_mid (⟨vc2, vr2, vfol2, vl2, vs2, F2⟩, va1, vb1, va2, vb2, g7, g8) hx2 (by repeat' (first | exact True.intro | refine And.intro rfl ?_)) rfl
        · refine TL_new rfl fun g8 => (TW_on (sub_pick [0] (by decide) rfl) ?_)
          refine TW_one rfl (TL_callB [2, 3, 4, 5, 6, 7] [0, 1, 8, 9, 10, 11] (by decide) rfl rfl (he2 EntersC.en rfl rfl rfl) (fun w hm hb => hI2 ⟨vc1, vr1, vfol1, vl1, vs1, F1⟩ hx1 w _ (rex_on (hm.pick [2, 3, 4, 5, 6, 7] (by decide) rfl) hkid2) hb) rfl rfl rfl ?_)
          rintro ⟨⟨vc2, vr2, vfol2, vl2, vs2, F2⟩, va2, vb2⟩ hx2
          have hx2 : vs2.length = p2.follow.length := hx2
          conv => arg 8; simp only [zA, zB, zC, zD, zE, zF, zG, zH, zI, rowS, ret, id_eq, nodeSp, mkL]
          conv => arg 7; simp only [nodeSp]
          refine TW_on (sub_pick [0] (by decide) rfl) ?_
          refine TW_one rfl (TL_slv (i := 2) rfl fun _ qa1 => TL_slv (i := 3) rfl fun _ qb1 => TL_storeB (i := 4) (cs' := #[.bool e1, va1, vb1]) rfl rfl rfl rfl (by simp only [List.all_cons, List.all_nil, qa1, qb1]; rfl) rfl (TW_on (sub_pick [0] (by decide) rfl) ?_))
          repeat (first
            | ((first | refine TW_plain rfl rfl ?_ | refine TW_gmet rfl rfl rfl rfl ?_); first | refine QW QP ?_ | refine QW QL ?_ | refine QW QA ?_ | refine QW (rr_nilc rfl) ?_ | refine QW QeT ?_ | refine QW QeF ?_)
            | refine TW_skip rfl rfl rfl rfl rfl rfl rfl ?_ | refine TW_done ?_)
          refine TW_one rfl (TL_slv (i := 12) rfl fun _ qa2 => TL_slv (i := 13) rfl fun _ qb2 => TL_storeB (i := 5) (cs' := #[.bool e2, va2, vb2]) rfl rfl rfl rfl (by simp only [List.all_cons, List.all_nil, qa2, qb2]; rfl) rfl (TW_on (sub_pick [0] (by decide) rfl) ?_))
          repeat (first
            | ((first | refine TW_plain rfl rfl ?_ | refine TW_gmet rfl rfl rfl rfl ?_); first | refine QW QP ?_ | refine QW QL ?_ | refine QW QA ?_ | refine QW (rr_nilc rfl) ?_ | refine QW QeT ?_ | refine QW QeF ?_)
            | refine TW_skip rfl rfl rfl rfl rfl rfl rfl ?_ | refine TW_done ?_)
          refine E_pick [6, 7, 8, 9, 10, 11, 2, 3, 12, 13, 1, 4, 5] (by decide) rfl ?_
          exact E_mid (⟨vc2, vr2, vfol2, vl2, vs2, F2⟩, va1, vb1, va2, vb2, g7, g8) hx2 (by repeat' (first | exact True.intro | refine And.intro rfl ?_)) rfl
      · refine TL_new rfl fun g8 => (TW_on (sub_pick [0] (by decide) rfl) ?_)
        refine TW_two rfl rfl ?_ ?_
        · refine TL_callB [2, 3, 4, 5, 6, 7] [0, 1, 8, 9, 10] (by decide) rfl rfl (he2 EntersC.en rfl rfl rfl) (fun w hm hb => hI2 ⟨vc1, vr1, vfol1, vl1, vs1, F1⟩ hx1 w _ (rex_on (hm.pick [2, 3, 4, 5, 6, 7] (by decide) rfl) hkid2) hb) rfl rfl rfl ?_
          rintro ⟨⟨vc2, vr2, vfol2, vl2, vs2, F2⟩, va2, vb2⟩ hx2
          have hx2 : vs2.length = p2.follow.length := hx2
          conv => arg 8; simp only [zA, zB, zC, zD, zE, zF, zG, zH, zI, rowS, ret, id_eq, nodeSp, mkL]
          conv => arg 7; simp only [nodeSp]
          refine TW_on (sub_pick [0] (by decide) rfl) ?_
          refine TW_one rfl (TL_new rfl fun g7 => (TW_on (sub_pick [0] (by decide) rfl) ?_))
          refine TW_one rfl (TL_slv (i := 2) rfl fun _ qa1 => TL_slv (i := 3) rfl fun _ qb1 => TL_storeB (i := 13) (cs' := #[.bool e1, va1, vb1]) rfl rfl rfl rfl (by simp only [List.all_cons, List.all_nil, qa1, qb1]; rfl) rfl (TW_on (sub_pick [0] (by decide) rfl) ?_))
          repeat (first
            | ((first | refine TW_plain rfl rfl ?_ | refine TW_gmet rfl rfl rfl rfl ?_); first | refine QW QP ?_ | refine QW QL ?_ | refine QW QA ?_ | refine QW (rr_nilc rfl) ?_ | refine QW QeT ?_ | refine QW QeF ?_)
            | refine TW_skip rfl rfl rfl rfl rfl rfl rfl ?_ | refine TW_done ?_)
          refine TW_one rfl (TL_slv (i := 11) rfl fun _ qa2 => TL_slv (i := 12) rfl fun _ qb2 => TL_storeB (i := 4) (cs' := #[.bool e2, va2, vb2]) rfl rfl rfl rfl (by simp only [List.all_cons, List.all_nil, qa2, qb2]; rfl) rfl (TW_on (sub_pick [0] (by decide) rfl) ?_))
          repeat (first
            | ((first | refine TW_plain rfl rfl ?_ | refine TW_gmet rfl rfl rfl rfl ?_); first | refine QW QP ?_ | refine QW QL ?_ | refine QW QA ?_ | refine QW (rr_nilc rfl) ?_ | refine QW QeT ?_ | refine QW QeF ?_)
            | refine TW_skip rfl rfl rfl rfl rfl rfl rfl ?_ | refine TW_done ?_)
          refine E_pick [5, 6, 7, 8, 9, 10, 2, 3, 11, 12, 1, 13, 4] (by decide) rfl ?_
          exact E_mid (⟨vc2, vr2, vfol2, vl2, vs2, F2⟩, va1, vb1, va2, vb2, g7, g8) hx2 (by repeat' (first | exact True.intro | refine And.intro rfl ?_)) rfl
        · refine TL_new rfl fun g7 => (TW_on (sub_pick [0] (by decide) rfl) ?_)
          refine TW_one rfl (TL_callB [2, 3, 4, 5, 6, 7] [0, 1, 8, 9, 10, 11] (by decide) rfl rfl (he2 EntersC.en rfl rfl rfl) (fun w hm hb => hI2 ⟨vc1, vr1, vfol1, vl1, vs1, F1⟩ hx1 w _ (rex_on (hm.pick [2, 3, 4, 5, 6, 7] (by decide) rfl) hkid2) hb) rfl rfl rfl ?_)
          rintro ⟨⟨vc2, vr2, vfol2, vl2, vs2, F2⟩, va2, vb2⟩ hx2
          have hx2 : vs2.length = p2.follow.length := hx2
          conv => arg 8; simp only [zA, zB, zC, zD, zE, zF, zG, zH, zI, rowS, ret, id_eq, nodeSp, mkL]
          conv => arg 7; simp only [nodeSp]
          refine TW_on (sub_pick [0] (by decide) rfl) ?_
          refine TW_one rfl (TL_slv (i := 2) rfl fun _ qa1 => TL_slv (i := 3) rfl fun _ qb1 => TL_storeB (i := 5) (cs' := #[.bool e1, va1, vb1]) rfl rfl rfl rfl (by simp only [List.all_cons, List.all_nil, qa1, qb1]; rfl) rfl (TW_on (sub_pick [0] (by decide) rfl) ?_))
          repeat (first
            | ((first | refine TW_plain rfl rfl ?_ | refine TW_gmet rfl rfl rfl rfl ?_); first | refine QW QP ?_ | refine QW QL ?_ | refine QW QA ?_ | refine QW (rr_nilc rfl) ?_ | refine QW QeT ?_ | refine QW QeF ?_)
            | refine TW_skip rfl rfl rfl rfl rfl rfl rfl ?_ | refine TW_done ?_)
          refine TW_one rfl (TL_slv (i := 12) rfl fun _ qa2 => TL_slv (i := 13) rfl fun _ qb2 => TL_storeB (i := 4) (cs' := #[.bool e2, va2, vb2]) rfl rfl rfl rfl (by simp only [List.all_cons, List.all_nil, qa2, qb2]; rfl) rfl (TW_on (sub_pick [0] (by decide) rfl) ?_))
          repeat (first
            | ((first | refine TW_plain rfl rfl ?_ | refine TW_gmet rfl rfl rfl rfl ?_); first | refine QW QP ?_ | refine QW QL ?_ | refine QW QA ?_ | refine QW (rr_nilc rfl) ?_ | refine QW QeT ?_ | refine QW QeF ?_)
            | refine TW_skip rfl rfl rfl rfl rfl rfl rfl ?_ | refine TW_done ?_)
          refine E_pick [6, 7, 8, 9, 10, 11, 2, 3, 12, 13, 1, 5, 4] (by decide) rfl ?_
          exact E_mid (⟨vc2, vr2, vfol2, vl2, vs2, F2⟩, va1, vb1, va2, vb2, g7, g8) hx2 (by repeat' (first | exact True.intro | refine And.intro rfl ?_)) rfl
    · refine TL_new rfl fun g7 => (TW_on (sub_pick [6] (by decide) rfl) ?_)
      refine TW_two rfl rfl ?_ ?_
      · refine TL_callB [0, 1, 2, 3, 4, 5] [6, 7, 8] (by decide) rfl rfl (he2 EntersC.en rfl rfl rfl) (fun w hm hb => hI1 w _ (rex_on (hm.pick [0, 1, 2, 3, 4, 5] (by decide) rfl) hkid1) hb) rfl rfl rfl ?_
        rintro ⟨⟨vc1, vr1, vfol1, vl1, vs1, F1⟩, va1, vb1⟩ hx1
        have hx1 : vs1.length = p1.follow.length := hx1
        conv => arg 8; simp only [zA, zB, zC, zD, zE, zF, zG, zH, zI, rowS, ret, id_eq, nodeSp, mkL]
        conv => arg 7; simp only [nodeSp]
        refine TW_on (sub_pick [0] (by decide) rfl) ?_
        refine TW_two rfl rfl ?_ ?_
        · refine TL_callB [3, 4, 5, 6, 7, 8] [0, 1, 2, 9, 10] (by decide) rfl rfl (he2 EntersC.en rfl rfl rfl) (fun w hm hb => hI2 ⟨vc1, vr1, vfol1, vl1, vs1, F1⟩ hx1 w _ (rex_on (hm.pick [3, 4, 5, 6, 7, 8] (by decide) rfl) hkid2) hb) rfl rfl rfl ?_
          rintro ⟨⟨vc2, vr2, vfol2, vl2, vs2, F2⟩, va2, vb2⟩ hx2
          have hx2 : vs2.length = p2.follow.length := hx2
          conv => arg 8; simp only [zA, zB, zC, zD, zE, zF, zG, zH, zI, rowS, ret, id_eq, nodeSp, mkL]
          conv => arg 7; simp only [nodeSp]
          refine TW_on (sub_pick [0] (by decide) rfl) ?_
          refine TW_one rfl (TL_new rfl fun g8 => (TW_on (sub_pick [0] (by decide) rfl) ?_))
          refine TW_one rfl (TL_slv (i := 3) rfl fun _ qa1 => TL_slv (i := 4) rfl fun _ qb1 => TL_storeB (i := 2) (cs' := #[.bool e1, va1, vb1]) rfl rfl rfl rfl (by simp only [List.all_cons, List.all_nil, qa1, qb1]; rfl) rfl (TW_on (sub_pick [0] (by decide) rfl) ?_))
          repeat (first
            | ((first | refine TW_plain rfl rfl ?_ | refine TW_gmet rfl rfl rfl rfl ?_); first | refine QW QP ?_ | refine QW QL ?_ | refine QW QA ?_ | refine QW (rr_nilc rfl) ?_ | refine QW QeT ?_ | refine QW QeF ?_)
            | refine TW_skip rfl rfl rfl rfl rfl rfl rfl ?_ | refine TW_done ?_)
          refine TW_one rfl (TL_slv (i := 11) rfl fun _ qa2 => TL_slv (i := 12) rfl fun _ qb2 => TL_storeB (i := 13) (cs' := #[.bool e2, va2, vb2]) rfl rfl rfl rfl (by simp only [List.all_cons, List.all_nil, qa2, qb2]; rfl) rfl (TW_on (sub_pick [0] (by decide) rfl) ?_))
          repeat (first
            | ((first | refine TW_plain rfl rfl ?_ | refine TW_gmet rfl rfl rfl rfl ?_); first | refine QW QP ?_ | refine QW QL ?_ | refine QW QA ?_ | refine QW (rr_nilc rfl) ?_ | refine QW QeT ?_ | refine QW QeF ?_)
            | refine TW_skip rfl rfl rfl rfl rfl rfl rfl ?_ | refine TW_done ?_)
          refine E_pick [5, 6, 7, 8, 9, 10, 3, 4, 11, 12, 1, 2, 13] (by decide) rfl ?_
          exact E_mid (⟨vc2, vr2, vfol2, vl2, vs2, F2⟩, va1, vb1, va2, vb2, g7, g8) hx2 (by repeat' (first | exact True.intro | refine And.intro rfl ?_)) rfl
        · refine TL_new rfl fun g8 => (TW_on (sub_pick [0] (by decide) rfl) ?_)
          refine TW_one rfl (TL_callB [3, 4, 5, 6, 7, 8] [0, 1, 2, 9, 10, 11] (by decide) rfl rfl (he2 EntersC.en rfl rfl rfl) (fun w hm hb => hI2 ⟨vc1, vr1, vfol1, vl1, vs1, F1⟩ hx1 w _ (rex_on (hm.pick [3, 4, 5, 6, 7, 8] (by decide) rfl) hkid2) hb) rfl rfl rfl ?_)
          rintro ⟨⟨vc2, vr2, vfol2, vl2, vs2, F2⟩, va2, vb2⟩ hx2
          have hx2 : vs2.length = p2.follow.length := hx2
          conv => arg 8; simp only [zA, zB, zC, zD, zE, zF, zG, zH, zI, rowS, ret, id_eq, nodeSp, mkL]
          conv => arg 7; simp only [nodeSp]
          refine TW_on (sub_pick [0] (by decide) rfl) ?_
          refine TW_one rfl (TL_slv (i := 3) rfl fun _ qa1 => TL_slv (i := 4) rfl fun _ qb1 => TL_storeB (i := 2) (cs' := #[.bool e1, va1, vb1]) rfl rfl rfl rfl (by simp only [List.all_cons, List.all_nil, qa1, qb1]; rfl) rfl (TW_on (sub_pick [0] (by decide) rfl) ?_))
          repeat (first
            | ((first | refine TW_plain rfl rfl ?_ | refine TW_gmet rfl rfl rfl rfl ?_); first | refine QW QP ?_ | refine QW QL ?_ | refine QW QA ?_ | refine QW (rr_nilc rfl) ?_ | refine QW QeT ?_ | refine QW QeF ?_)
            | refine TW_skip rfl rfl rfl rfl rfl rfl rfl ?_ | refine TW_done ?_)
          refine TW_one rfl (TL_slv (i := 12) rfl fun _ qa2 => TL_slv (i := 13) rfl fun _ qb2 => TL_storeB (i := 5) (cs' := #[.bool e2, va2, vb2]) rfl rfl rfl rfl (by simp only [List.all_cons, List.all_nil, qa2, qb2]; rfl) rfl (TW_on (sub_pick [0] (by decide) rfl) ?_))
          repeat (first
            | ((first | refine TW_plain rfl rfl ?_ | refine TW_gmet rfl rfl rfl rfl ?_); first | refine QW QP ?_ | refine QW QL ?_ | refine QW QA ?_ | refine QW (rr_nilc rfl) ?_ | refine QW QeT ?_ | refine QW QeF ?_)
            | refine TW_skip rfl rfl rfl rfl rfl rfl rfl ?_ | refine TW_done ?_)
          refine E_pick [6, 7, 8, 9, 10, 11, 3, 4, 12, 13, 1, 2, 5] (by decide) rfl ?_
          exact E_mid (⟨vc2, vr2, vfol2, vl2, vs2, F2⟩, va1, vb1, va2, vb2, g7, g8) hx2 (by repeat' (first | exact True.intro | refine And.intro rfl ?_)) rfl
      · refine TL_new rfl fun g8 => (TW_on (sub_pick [6] (by decide) rfl) ?_)
        refine TW_one rfl (TL_callB [0, 1, 2, 3, 4, 5] [6, 7, 8, 9] (by decide) rfl rfl (he2 EntersC.en rfl rfl rfl) (fun w hm hb => hI1 w _ (rex_on (hm.pick [0, 1, 2, 3, 4, 5] (by decide) rfl) hkid1) hb) rfl rfl rfl ?_)
        rintro ⟨⟨vc1, vr1, vfol1, vl1, vs1, F1⟩, va1, vb1⟩ hx1
        have hx1 : vs1.length = p1.follow.length := hx1
        conv => arg 8; simp only [zA, zB, zC, zD, zE, zF, zG, zH, zI, rowS, ret, id_eq, nodeSp, mkL]
        conv => arg 7; simp only [nodeSp]
        refine TW_on (sub_pick [0] (by decide) rfl) ?_
        refine TW_one rfl (TL_callB [4, 5, 6, 7, 8, 9] [0, 1, 2, 3, 10, 11] (by decide) rfl rfl (he2 EntersC.en rfl rfl rfl) (fun w hm hb => hI2 ⟨vc1, vr1, vfol1, vl1, vs1, F1⟩ hx1 w _ (rex_on (hm.pick [4, 5, 6, 7, 8, 9] (by decide) rfl) hkid2) hb) rfl rfl rfl ?_)
        rintro ⟨⟨vc2, vr2, vfol2, vl2, vs2, F2⟩, va2, vb2⟩ hx2
        have hx2 : vs2.length = p2.follow.length := hx2
        conv => arg 8; simp only [zA, zB, zC, zD, zE, zF, zG, zH, zI, rowS, ret, id_eq, nodeSp, mkL]
        conv => arg 7; simp only [nodeSp]
        refine TW_on (sub_pick [0] (by decide) rfl) ?_
        refine TW_one rfl (TL_slv (i := 4) rfl fun _ qa1 => TL_slv (i := 5) rfl fun _ qb1 => TL_storeB (i := 2) (cs' := #[.bool e1, va1, vb1]) rfl rfl rfl rfl (by simp only [List.all_cons, List.all_nil, qa1, qb1]; rfl) rfl (TW_on (sub_pick [0] (by decide) rfl) ?_))
        repeat (first
          | ((first | refine TW_plain rfl rfl ?_ | refine TW_gmet rfl rfl rfl rfl ?_); first | refine QW QP ?_ | refine QW QL ?_ | refine QW QA ?_ | refine QW (rr_nilc rfl) ?_ | refine QW QeT ?_ | refine QW QeF ?_)
          | refine TW_skip rfl rfl rfl rfl rfl rfl rfl ?_ | refine TW_done ?_)
        refine TW_one rfl (TL_slv (i := 12) rfl fun _ qa2 => TL_slv (i := 13) rfl fun _ qb2 => TL_storeB (i := 3) (cs' := #[.bool e2, va2, vb2]) rfl rfl rfl rfl (by simp only [List.all_cons, List.all_nil, qa2, qb2]; rfl) rfl (TW_on (sub_pick [0] (by decide) rfl) ?_))
        repeat (first
          | ((first | refine TW_plain rfl rfl ?_ | refine TW_gmet rfl rfl rfl rfl ?_); first | refine QW QP ?_ | refine QW QL ?_ | refine QW QA ?_ | refine QW (rr_nilc rfl) ?_ | refine QW QeT ?_ | refine QW QeF ?_)
          | refine TW_skip rfl rfl rfl rfl rfl rfl rfl ?_ | refine TW_done ?_)
        refine E_pick [6, 7, 8, 9, 10, 11, 4, 5, 12, 13, 1, 2, 3] (by decide) rfl ?_
        exact E_mid (⟨vc2, vr2, vfol2, vl2, vs2, F2⟩, va1, vb1, va2, vb2, g7, g8) hx2 (by repeat' (first | exact True.intro | refine And.intro rfl ?_)) rfl
    · refine TL_new rfl fun g8 => (TW_on (sub_pick [6] (by decide) rfl) ?_)
      refine TW_two rfl rfl ?_ ?_
      · refine TL_callB [0, 1, 2, 3, 4, 5] [6, 7, 8] (by decide) rfl rfl (he2 EntersC.en rfl rfl rfl) (fun w hm hb => hI1 w _ (rex_on (hm.pick [0, 1, 2, 3, 4, 5] (by decide) rfl) hkid1) hb) rfl rfl rfl ?_
        rintro ⟨⟨vc1, vr1, vfol1, vl1, vs1, F1⟩, va1, vb1⟩ hx1
        have hx1 : vs1.length = p1.follow.length := hx1
        conv => arg 8; simp only [zA, zB, zC, zD, zE, zF, zG, zH, zI, rowS, ret, id_eq, nodeSp, mkL]
        conv => arg 7; simp only [nodeSp]
        refine TW_on (sub_pick [0] (by decide) rfl) ?_
        refine TW_two rfl rfl ?_ ?_
        · refine TL_callB [3, 4, 5, 6, 7, 8] [0, 1, 2, 9, 10] (by decide) rfl rfl (he2 EntersC.en rfl rfl rfl) (fun w hm hb => hI2 ⟨vc1, vr1, vfol1, vl1, vs1, F1⟩ hx1 w _ (rex_on (hm.pick [3, 4, 5, 6, 7, 8] (by decide) rfl) hkid2) hb) rfl rfl rfl ?_
          rintro ⟨⟨vc2, vr2, vfol2, vl2, vs2, F2⟩, va2, vb2⟩ hx2
          have hx2 : vs2.length = p2.follow.length := hx2
          conv => arg 8; simp only [zA, zB, zC, zD, zE, zF, zG, zH, zI, rowS, ret, id_eq, nodeSp, mkL]
          conv => arg 7; simp only [nodeSp]
          refine TW_on (sub_pick [0] (by decide) rfl) ?_
          refine TW_one rfl (TL_new rfl fun g7 => (TW_on (sub_pick [0] (by decide) rfl) ?_))
          refine TW_one rfl (TL_slv (i := 3) rfl fun _ qa1 => TL_slv (i := 4) rfl fun _ qb1 => TL_storeB (i := 13) (cs' := #[.bool e1, va1, vb1]) rfl rfl rfl rfl (by simp only [List.all_cons, List.all_nil, qa1, qb1]; rfl) rfl (TW_on (sub_pick [0] (by decide) rfl) ?_))
          repeat (first
            | ((first | refine TW_plain rfl rfl ?_ | refine TW_gmet rfl rfl rfl rfl ?_); first | refine QW QP ?_ | refine QW QL ?_ | refine QW QA ?_ | refine QW (rr_nilc rfl) ?_ | refine QW QeT ?_ | refine QW QeF ?_)
            | refine TW_skip rfl rfl rfl rfl rfl rfl rfl ?_ | refine TW_done ?_)
          refine TW_one rfl (TL_slv (i := 11) rfl fun _ qa2 => TL_slv (i := 12) rfl fun _ qb2 => TL_storeB (i := 2) (cs' := #[.bool e2, va2, vb2]) rfl rfl rfl rfl (by simp only [List.all_cons, List.all_nil, qa2, qb2]; rfl) rfl (TW_on (sub_pick [0] (by decide) rfl) ?_))
          repeat (first
            | ((first | refine TW_plain rfl rfl ?_ | refine TW_gmet rfl rfl rfl rfl ?_); first | refine QW QP ?_ | refine QW QL ?_ | refine QW QA ?_ | refine QW (rr_nilc rfl) ?_ | refine QW QeT ?_ | refine QW QeF ?_)
            | refine TW_skip rfl rfl rfl rfl rfl rfl rfl ?_ | refine TW_done ?_)
          refine E_pick [5, 6, 7, 8, 9, 10, 3, 4, 11, 12, 1, 13, 2] (by decide) rfl ?_
          exact E_mid (⟨vc2, vr2, vfol2, vl2, vs2, F2⟩, va1, vb1, va2, vb2, g7, g8) hx2 (by repeat' (first | exact True.intro | refine And.intro rfl ?_)) rfl
        · refine TL_new rfl fun g7 => (TW_on (sub_pick [0] (by decide) rfl) ?_)
          refine TW_one rfl (TL_callB [3, 4, 5, 6, 7, 8] [0, 1, 2, 9, 10, 11] (by decide) rfl rfl (he2 EntersC.en rfl rfl rfl) (fun w hm hb => hI2 ⟨vc1, vr1, vfol1, vl1, vs1, F1⟩ hx1 w _ (rex_on (hm.pick [3, 4, 5, 6, 7, 8] (by decide) rfl) hkid2) hb) rfl rfl rfl ?_)
          rintro ⟨⟨vc2, vr2, vfol2, vl2, vs2, F2⟩, va2, vb2⟩ hx2
          have hx2 : vs2.length = p2.follow.length := hx2
          conv => arg 8; simp only [zA, zB, zC, zD, zE, zF, zG, zH, zI, rowS, ret, id_eq, nodeSp, mkL]
          conv => arg 7; simp only [nodeSp]
          refine TW_on (sub_pick [0] (by decide) rfl) ?_
          refine TW_one rfl (TL_slv (i := 3) rfl fun _ qa1 => TL_slv (i := 4) rfl fun _ qb1 => TL_storeB (i := 5) (cs' := #[.bool e1, va1, vb1]) rfl rfl rfl rfl (by simp only [List.all_cons, List.all_nil, qa1, qb1]; rfl) rfl (TW_on (sub_pick [0] (by decide) rfl) ?_))
          repeat (first
            | ((first | refine TW_plain rfl rfl ?_ | refine TW_gmet rfl rfl rfl rfl ?_); first | refine QW QP ?_ | refine QW QL ?_ | refine QW QA ?_ | refine QW (rr_nilc rfl) ?_ | refine QW QeT ?_ | refine QW QeF ?_)
            | refine TW_skip rfl rfl rfl rfl rfl rfl rfl ?_ | refine TW_done ?_)
          refine TW_one rfl (TL_slv (i := 12) rfl fun _ qa2 => TL_slv (i := 13) rfl fun _ qb2 => TL_storeB (i := 2) (cs' := #[.bool e2, va2, vb2]) rfl rfl rfl rfl (by simp only [List.all_cons, List.all_nil, qa2, qb2]; rfl) rfl (TW_on (sub_pick [0] (by decide) rfl) ?_))
          repeat (first
            | ((first | refine TW_plain rfl rfl ?_ | refine TW_gmet rfl rfl rfl rfl ?_); first | refine QW QP ?_ | refine QW QL ?_ | refine QW QA ?_ | refine QW (rr_nilc rfl) ?_ | refine QW QeT ?_ | refine QW QeF ?_)
            | refine TW_skip rfl rfl rfl rfl rfl rfl rfl ?_ | refine TW_done ?_)
          refine E_pick [6, 7, 8, 9, 10, 11, 3, 4, 12, 13, 1, 5, 2] (by decide) rfl ?_
          exact E_mid (⟨vc2, vr2, vfol2, vl2, vs2, F2⟩, va1, vb1, va2, vb2, g7, g8) hx2 (by repeat' (first | exact True.intro | refine And.intro rfl ?_)) rfl
      · refine TL_new rfl fun g7 => (TW_on (sub_pick [6] (by decide) rfl) ?_)
        refine TW_one rfl (TL_callB [0, 1, 2, 3, 4, 5] [6, 7, 8, 9] (by decide) rfl rfl (he2 EntersC.en rfl rfl rfl) (fun w hm hb => hI1 w _ (rex_on (hm.pick [0, 1, 2, 3, 4, 5] (by decide) rfl) hkid1) hb) rfl rfl rfl ?_)
        rintro ⟨⟨vc1, vr1, vfol1, vl1, vs1, F1⟩, va1, vb1⟩ hx1
        have hx1 : vs1.length = p1.follow.length := hx1
        conv => arg 8; simp only [zA, zB, zC, zD, zE, zF, zG, zH, zI, rowS, ret, id_eq, nodeSp, mkL]
        conv => arg 7; simp only [nodeSp]
        refine TW_on (sub_pick [0] (by decide) rfl) ?_
        refine TW_one rfl (TL_callB [4, 5, 6, 7, 8, 9] [0, 1, 2, 3, 10, 11] (by decide) rfl rfl (he2 EntersC.en rfl rfl rfl) (fun w hm hb => hI2 ⟨vc1, vr1, vfol1, vl1, vs1, F1⟩ hx1 w _ (rex_on (hm.pick [4, 5, 6, 7, 8, 9] (by decide) rfl) hkid2) hb) rfl rfl rfl ?_)
        rintro ⟨⟨vc2, vr2, vfol2, vl2, vs2, F2⟩, va2, vb2⟩ hx2
        have hx2 : vs2.length = p2.follow.length := hx2
        conv => arg 8; simp only [zA, zB, zC, zD, zE, zF, zG, zH, zI, rowS, ret, id_eq, nodeSp, mkL]
        conv => arg 7; simp only [nodeSp]
        refine TW_on (sub_pick [0] (by decide) rfl) ?_
        refine TW_one rfl (TL_slv (i := 4) rfl fun _ qa1 => TL_slv (i := 5) rfl fun _ qb1 => TL_storeB (i := 3) (cs' := #[.bool e1, va1, vb1]) rfl rfl rfl rfl (by simp only [List.all_cons, List.all_nil, qa1, qb1]; rfl) rfl (TW_on (sub_pick [0] (by decide) rfl) ?_))
        repeat (first
          | ((first | refine TW_plain rfl rfl ?_ | refine TW_gmet rfl rfl rfl rfl ?_); first | refine QW QP ?_ | refine QW QL ?_ | refine QW QA ?_ | refine QW (rr_nilc rfl) ?_ | refine QW QeT ?_ | refine QW QeF ?_)
          | refine TW_skip rfl rfl rfl rfl rfl rfl rfl ?_ | refine TW_done ?_)
        refine TW_one rfl (TL_slv (i := 12) rfl fun _ qa2 => TL_slv (i := 13) rfl fun _ qb2 => TL_storeB (i := 2) (cs' := #[.bool e2, va2, vb2]) rfl rfl rfl rfl (by simp only [List.all_cons, List.all_nil, qa2, qb2]; rfl) rfl (TW_on (sub_pick [0] (by decide) rfl) ?_))
        repeat (first
          | ((first | refine TW_plain rfl rfl ?_ | refine TW_gmet rfl rfl rfl rfl ?_); first | refine QW QP ?_ | refine QW QL ?_ | refine QW QA ?_ | refine QW (rr_nilc rfl) ?_ | refine QW QeT ?_ | refine QW QeF ?_)
          | refine TW_skip rfl rfl rfl rfl rfl rfl rfl ?_ | refine TW_done ?_)
        refine E_pick [6, 7, 8, 9, 10, 11, 4, 5, 12, 13, 1, 3, 2] (by decide) rfl ?_
        exact E_mid (⟨vc2, vr2, vfol2, vl2, vs2, F2⟩, va1, vb1, va2, vb2, g7, g8) hx2 (by repeat' (first | exact True.intro | refine And.intro rfl ?_)) rfl
  clear hI1 hI2 hat1 hat2
  rintro ⟨⟨vc, vr, vfol, vl, vs, F⟩, va1, vb1, va2, vb2, g7, g8⟩ hx2
  have hx2 : vs.length = p2.follow.length := hx2
  dsimp only
  conv => arg 7; simp only [zA, zB, zC, zD, zE, zF, zG, zH, zI, rowS, ret, id_eq, mkL]
  have hl1 := ris_len hp4
  have hl2 := ris_len hp5
  have hl3 := ris_len kp4
  have hl4 := ris_len kp5
  cases e1 with
  | true =>
    (repeat refine T_seq ?_)
    refine T_ord ([blkO g7 #[.bool true, va1, vb1] 84, blkO g8 #[.bool e2, va2, vb2] 84]) (.calm 0 (.calm 1 (.calm 2 (.calm 3 (.calm 4 (.calm 5 (.calm 6 (.calm 7 (.calm 8 (.calm 9 (.calm 11 (.calm 12 (.calm 13 (.calm 14 (.one 10 (.one 15 (.calm 16 (.one 17 (.done))))))))))))))))))) (sub_pick [11, 12] (by decide) rfl) (by kernel_rfl) (by kernel_rfl) (by intro c a d v w h; cases d <;> exact h) ?_
    repeat (first
      | ((first | refine TW_plain rfl rfl ?_ | refine TW_gmet rfl rfl rfl rfl ?_); first | refine QW QP ?_ | refine QW (rr_load1 TyC.ty rfl (at_blk (i := 0) rfl rfl)) ?_ | refine QW (rr_load1 TyC.ty rfl (at_blk (i := 1) rfl rfl)) ?_ | refine QW QL ?_ | refine QW QA ?_ | refine QW (rr_nilc rfl) ?_ | refine QW QeT ?_ | refine QW QeF ?_)
      | refine TW_skip rfl rfl rfl rfl rfl rfl rfl ?_ | refine TW_done ?_)
    refine TW_one rfl (TL_call (he2 EntersC.en rfl rfl rfl) (fun w' hm => union_calls va1 va2 first1 first2 w' (Sl.of_own (hm.get (i := 6) rfl)) (Sl.of_own (hm.get (i := 8) rfl)) (by omega) (by omega)) rfl rfl rfl ?_)
    intro vu _
    conv => arg 8; simp only [zA, zB, zC, zD, zE, zF, zG, zH, zI, rowS, ret, id_eq, intRS]
    refine TW_on (sub_pick [11, 12] (by decide) rfl) ?_
    repeat (first
      | ((first | refine TW_plain rfl rfl ?_ | refine TW_gmet rfl rfl rfl rfl ?_); first | refine QW QP ?_ | refine QW QL ?_ | refine QW QA ?_ | refine QW (rr_nilc rfl) ?_ | refine QW QeT ?_ | refine QW QeF ?_)
      | refine TW_skip rfl rfl rfl rfl rfl rfl rfl ?_ | refine TW_done ?_)
    refine TW_one rfl (TL_call (he2 EntersC.en rfl rfl rfl) (fun w' hm => union_calls vb1 vb2 last1 last2 w' (Sl.of_own (hm.get (i := 7) rfl)) (Sl.of_own (hm.get (i := 9) rfl)) (by omega) (by omega)) rfl rfl rfl ?_)
    intro vu2 _
    conv => arg 8; simp only [zA, zB, zC, zD, zE, zF, zG, zH, zI, rowS, ret, id_eq, intRS]
    refine TL_rowv (i := 13) rfl fun bu cu hu _ _ => ?_
    refine TL_rowv (i := 14) rfl fun bu2 cu2 hu2 _ _ => ?_
    subst hu hu2
    refine TW_on (sub_pick [11, 12] (by decide) rfl) ?_
    repeat (first
      | ((first | refine TW_plain rfl rfl ?_ | refine TW_gmet rfl rfl rfl rfl ?_); first | refine QW QP ?_ | refine QW (rr_build rfl (build_shpA _ _ _ _ _ _ _)) ?_ | refine QW QL ?_ | refine QW QA ?_ | refine QW (rr_nilc rfl) ?_ | refine QW QeT ?_ | refine QW QeF ?_)
      | refine TW_skip rfl rfl rfl rfl rfl rfl rfl ?_ | refine TW_done ?_)
    refine TW_one rfl (TL_storeB (i := 10) (cs' := #[.bool true, .slice bu (uni first1 first2).length cu, .slice bu2 (uni last1 last2).length cu2]) rfl rfl rfl rfl rfl rfl (TW_on (sub_pick [11, 12] (by decide) rfl) ?_))
    repeat (first
      | ((first | refine TW_plain rfl rfl ?_ | refine TW_gmet rfl rfl rfl rfl ?_); first | refine QW QP ?_ | refine QW QL ?_ | refine QW QA ?_ | refine QW (rr_nilc rfl) ?_ | refine QW QeT ?_ | refine QW QeF ?_)
      | refine TW_skip rfl rfl rfl rfl rfl rfl rfl ?_ | refine TW_done ?_)
    repeat (first
      | refine QV QP ?_ | refine QZ ?_ | refine qcT rfl ?_ | refine qcF rfl ?_ | refine qs rfl rfl rfl rfl rfl rfl ?_
      | ((try refine qg rfl rfl rfl ?_); first | refine QV QP ?_ | refine QV QL ?_ | refine QV QA ?_ | refine QV (rr_nilc rfl) ?_ | refine QV QeT ?_ | refine QV QeF ?_))
    refine E_retc1 (i := 10) rfl rfl rfl rfl fun w hm => ?_
    exact hm.meetsB (S := nodeSp g vf ve rule (⟨true || e2, uni first1 first2, uni last1 last2⟩, p2)) (⟨vc, vr, vfol, vl, vs, F⟩, .slice bu (uni first1 first2).length cu, .slice bu2 (uni last1 last2).length cu2) hx2 [0, 1, 2, 3, 4, 5, 13, 14] (by decide) rfl
  | false =>
    (repeat refine T_seq ?_)
    refine T_ord ([blkO g7 #[.bool false, va1, vb1] 84, blkO g8 #[.bool e2, va2, vb2] 84]) (.calm 0 (.calm 1 (.calm 2 (.calm 3 (.calm 4 (.calm 5 (.calm 6 (.calm 7 (.calm 8 (.calm 9 (.calm 11 (.calm 12 (.calm 13 (.calm 14 (.one 10 (.one 15 (.calm 16 (.one 17 (.done))))))))))))))))))) (sub_pick [11, 12] (by decide) rfl) (by kernel_rfl) (by kernel_rfl) (by intro c a d v w h; cases d <;> exact h) ?_
    repeat (first
      | ((first | refine TW_plain rfl rfl ?_ | refine TW_gmet rfl rfl rfl rfl ?_); first | refine QW QP ?_ | refine QW (rr_load1 TyC.ty rfl (at_blk (i := 0) rfl rfl)) ?_ | refine QW (rr_load1 TyC.ty rfl (at_blk (i := 1) rfl rfl)) ?_ | refine QW QL ?_ | refine QW QA ?_ | refine QW (rr_nilc rfl) ?_ | refine QW QeT ?_ | refine QW QeF ?_)
      | refine TW_skip rfl rfl rfl rfl rfl rfl rfl ?_ | refine TW_done ?_)
    refine TW_one rfl (TL_call (he2 EntersC.en rfl rfl rfl) (fun w' hm => union_calls va1 va2 first1 first2 w' (Sl.of_own (hm.get (i := 6) rfl)) (Sl.of_own (hm.get (i := 8) rfl)) (by omega) (by omega)) rfl rfl rfl ?_)
    intro vu _
    conv => arg 8; simp only [zA, zB, zC, zD, zE, zF, zG, zH, zI, rowS, ret, id_eq, intRS]
    refine TW_on (sub_pick [11, 12] (by decide) rfl) ?_
    repeat (first
      | ((first | refine TW_plain rfl rfl ?_ | refine TW_gmet rfl rfl rfl rfl ?_); first | refine QW QP ?_ | refine QW QL ?_ | refine QW QA ?_ | refine QW (rr_nilc rfl) ?_ | refine QW QeT ?_ | refine QW QeF ?_)
      | refine TW_skip rfl rfl rfl rfl rfl rfl rfl ?_ | refine TW_done ?_)
    refine TW_one rfl (TL_call (he2 EntersC.en rfl rfl rfl) (fun w' hm => union_calls vb1 vb2 last1 last2 w' (Sl.of_own (hm.get (i := 7) rfl)) (Sl.of_own (hm.get (i := 9) rfl)) (by omega) (by omega)) rfl rfl rfl ?_)
    intro vu2 _
    conv => arg 8; simp only [zA, zB, zC, zD, zE, zF, zG, zH, zI, rowS, ret, id_eq, intRS]
    refine TL_rowv (i := 13) rfl fun bu cu hu _ _ => ?_
    refine TL_rowv (i := 14) rfl fun bu2 cu2 hu2 _ _ => ?_
    subst hu hu2
    refine TW_on (sub_pick [11, 12] (by decide) rfl) ?_
    repeat (first
      | ((first | refine TW_plain rfl rfl ?_ | refine TW_gmet rfl rfl rfl rfl ?_); first | refine QW QP ?_ | refine QW (rr_build rfl (build_shpA _ _ _ _ _ _ _)) ?_ | refine QW QL ?_ | refine QW QA ?_ | refine QW (rr_nilc rfl) ?_ | refine QW QeT ?_ | refine QW QeF ?_)
      | refine TW_skip rfl rfl rfl rfl rfl rfl rfl ?_ | refine TW_done ?_)
    refine TW_one rfl (TL_storeB (i := 10) (cs' := #[.bool e2, .slice bu (uni first1 first2).length cu, .slice bu2 (uni last1 last2).length cu2]) rfl rfl rfl rfl rfl rfl (TW_on (sub_pick [11, 12] (by decide) rfl) ?_))
    repeat (first
      | ((first | refine TW_plain rfl rfl ?_ | refine TW_gmet rfl rfl rfl rfl ?_); first | refine QW QP ?_ | refine QW QL ?_ | refine QW QA ?_ | refine QW (rr_nilc rfl) ?_ | refine QW QeT ?_ | refine QW QeF ?_)
      | refine TW_skip rfl rfl rfl rfl rfl rfl rfl ?_ | refine TW_done ?_)
    repeat (first
      | refine QV QP ?_ | refine QZ ?_ | refine qcT rfl ?_ | refine qcF rfl ?_ | refine qs rfl rfl rfl rfl rfl rfl ?_
      | ((try refine qg rfl rfl rfl ?_); first | refine QV QP ?_ | refine QV QL ?_ | refine QV QA ?_ | refine QV (rr_nilc rfl) ?_ | refine QV QeT ?_ | refine QV QeF ?_))
    refine E_retc1 (i := 10) rfl rfl rfl rfl fun w hm => ?_
    exact hm.meetsB (S := nodeSp g vf ve rule (⟨false || e2, uni first1 first2, uni last1 last2⟩, p2)) (⟨vc, vr, vfol, vl, vs, F⟩, .slice bu (uni first1 first2).length cu, .slice bu2 (uni last1 last2).length cu2) hx2 [0, 1, 2, 3, 4, 5, 13, 14] (by decide) rfl
end Go.Proofs.YtkcnoompimohnaaDoor.eng

/- PlC -/
namespace Go.Proofs.YtkcnoompimohnaaDoor.eng
open Go.RowKit kit mix classL rexL placesL
set_option maxHeartbeats 32000000 in
set_option maxRecDepth 100000 in
theorem node_cat {M : Nat} (IH : NodeAt M) (a b1 : Re) (ha : a.size ≤ M) (hb1 : b1.size ≤ M) (g : Nat) (vf ve : Value) (rule : Int) (p : PS) (x : MIx) (v : Value) (w : World) (B : Base) (hp : PSOk p) (hx : x.vs.length = p.follow.length) (hn : p.classes.length + (a.size + b1.size + 1) ≤ 100000) (hr64 : kit.okI64 rule) (hv : RexR (OldB B) B.w v (emb (.cat a b1))) (hm : Mem B (mkL g vf ve rule x p) w) :
    Calls Tryd.prog 27 #[.pointer (some ⟨g, 0, none⟩), v] w (MeetsB (nodeSp g vf ve rule (nodeF rule (.cat a b1) p)) B) := by
  obtain ⟨vk, rfl, _, hks⟩ := hv
  obtain ⟨bk, ck, rfl, h1, h2, h3⟩ := hks
  obtain ⟨b, off, rfl, hF, hrd⟩ := h3 (by show 0 < 2; decide)
  obtain ⟨kb, kc, hr, hkid1⟩ := rkid_at (k := 0) hrd (by show 0 < 2; decide)
  obtain ⟨kb2, kc2, hr2, hkid2⟩ := rkid_at (k := 1) hrd (by show 1 < 2; decide)
  have hat1 := fun (L : List Own) (j : Nat) (v : Value) hj => at_oldB (L := L) hF hr j v hj
  have hat2 := fun (L : List Own) (j : Nat) (v : Value) hj => at_oldB (L := L) hF hr2 j v hj
  clear h3 hrd hr hr2
  obtain ⟨hp1, hp2, hp3, hp4, hp5⟩ := node_ok rule a p hp
  obtain ⟨kp1, kp2, kp3, kp4, kp5⟩ := node_ok rule b1 _ hp1
  have hI1 := fun w B hv hm => IH a ha g vf ve rule p x (rexV (emb a).kind (emb a).cls (.slice kb (emb a).kids.length kc)) w B hp hx (by omega) hr64 hv hm
  have hI2 := fun x1 hx1 w B hv hm => IH b1 hb1 g vf ve rule (nodeF rule a p).2 x1 (rexV (emb b1).kind (emb b1).cls (.slice kb2 (emb b1).kids.length kc2)) w B hp1 hx1 (by omega) hr64 hv hm
  rw [show nodeF rule (.cat a b1) p = (⟨(nodeF rule a p).1.empty && (nodeF rule b1 (nodeF rule a p).2).1.empty, if (nodeF rule a p).1.empty then uni (nodeF rule a p).1.first (nodeF rule b1 (nodeF rule a p).2).1.first else (nodeF rule a p).1.first, if (nodeF rule b1 (nodeF rule a p).2).1.empty then uni (nodeF rule a p).1.last (nodeF rule b1 (nodeF rule a p).2).1.last else (nodeF rule b1 (nodeF rule a p).2).1.last⟩, { (nodeF rule b1 (nodeF rule a p).2).2 with follow := behindF (nodeF rule b1 (nodeF rule a p).2).2.follow (nodeF rule a p).1.last (nodeF rule b1 (nodeF rule a p).2).1.first }) from rfl]
  generalize nodeF rule b1 (nodeF rule a p).2 = R2 at *
  generalize nodeF rule a p = R1 at *
  obtain ⟨⟨e1, first1, last1⟩, p1⟩ := R1
  obtain ⟨⟨e2, first2, last2⟩, p2⟩ := R2
  dsimp only at hp1 hp2 hp3 hp4 hp5 kp1 kp2 kp3 kp4 kp5 hI2 ⊢
  unfold mkL at hm
  refine enterB hm (args := [.pointer (some ⟨g, 0, none⟩), rexV 4 C4.zero (.slice (some ⟨b, off, none⟩) 2 ck)]) (n := 176) Tryd.func27 rfl rfl rfl ?_
  clear hm
  refine T_seq (T_region (TL_box rfl rfl rfl fun g3 => TL_new rfl fun g4 => ?_))
  conv => arg 8; simp only [zA, zB, zC, zD, zE, zF, zG, zH, zI, rowS, ret, id_eq]
  repeat (first
    | refine QV QP ?_ | refine QZ ?_ | refine qcT rfl ?_ | refine qcF rfl ?_ | refine qs rfl rfl rfl rfl rfl rfl ?_
    | ((try refine qg rfl rfl rfl ?_); first | refine QV QP ?_ | refine QV (rr_load1 (v := .int .i64 4) TyC.ty rfl (at_blk (i := 6) rfl rfl)) ?_ | refine QV QL ?_ | refine QV QA ?_ | refine QV (rr_nilc rfl) ?_ | refine QV QeT ?_ | refine QV QeF ?_))
  (repeat refine T_seq ?_)
  refine T_midq (ι := MIx × Value × Value × Value × Value × Nat × Nat) (fun y => y.1.vs.length = p2.follow.length) (fun y => [(0, .pointer (some ⟨g, 0, none⟩)), (4, .pointer (some ⟨g4, 0, none⟩)), (9, .pointer (some ⟨y.2.2.2.2.2.1, 0, none⟩)), (10, .pointer (some ⟨y.2.2.2.2.2.2, 0, none⟩))])
    (fun y => mkL g vf ve rule y.1 p2 ++ [intR y.2.1 first1, intR y.2.2.1 last1, intR y.2.2.2.1 first2, intR y.2.2.2.2.1 last2, blkO g4 #[.bool false, .slice none 0 0, .slice none 0 0] 84, blkO y.2.2.2.2.2.1 #[.bool e1, y.2.1, y.2.2.1] 84, blkO y.2.2.2.2.2.2 #[.bool e2, y.2.2.2.1, y.2.2.2.2.1] 84]) ?_ ?_
  · refine T_ord ([blkO g3 (rexC 4 C4.zero (.slice (some ⟨b, off, none⟩) 2 ck)).toArray 33]) (.calm 0 (.calm 1 (.calm 2 (.calm 3 (.calm 4 (.calm 6 (.calm 7 (.calm 8 (.calm 9 (.calm 10 (.three 5 (.three 11 (.two 12 (.one 13 (.one 14 (.one 15 (.done)))) 13 (.one 12 (.one 14 (.one 15 (.done))))) 12 (.two 11 (.one 13 (.one 14 (.one 15 (.done)))) 13 (.one 11 (.one 14 (.one 15 (.done))))) 13 (.two 11 (.one 12 (.one 14 (.one 15 (.done)))) 12 (.one 11 (.one 14 (.one 15 (.done)))))) 12 (.two 5 (.two 11 (.one 13 (.one 14 (.one 15 (.done)))) 13 (.one 11 (.one 14 (.one 15 (.done))))) 13 (.one 5 (.one 11 (.one 14 (.one 15 (.done)))))) 13 (.two 5 (.two 11 (.one 12 (.one 14 (.one 15 (.done)))) 12 (.one 11 (.one 14 (.one 15 (.done))))) 12 (.one 5 (.one 11 (.one 14 (.one 15 (.done))))))))))))))))) (sub_pick [6] (by decide) rfl) (by kernel_rfl) (by kernel_rfl) (by intro c a d v w h; cases d <;> exact h) ?_
    repeat (first
      | ((first | refine TW_plain rfl rfl ?_ | refine TW_gmet rfl rfl rfl rfl ?_); first | refine QW QP ?_ | refine QW (rr_load1 (v := .slice (some ⟨b, off, none⟩) 2 ck) TyC.ty rfl (at_blk (i := 0) rfl rfl)) ?_ | refine QW (rr_idxc (j := 0) Und.eq TyC.ty rfl rfl (by decide)) ?_ | refine QW (rr_idxc (j := 1) Und.eq TyC.ty rfl rfl (by decide)) ?_ | refine QW (rr_loadN TyC.ty rfl rfl (hat1 _)) ?_ | refine QW (rr_loadN TyC.ty rfl rfl (hat2 _)) ?_ | refine QW QL ?_ | refine QW QA ?_ | refine QW (rr_nilc rfl) ?_ | refine QW QeT ?_ | refine QW QeF ?_)
      | refine TW_skip rfl rfl rfl rfl rfl rfl rfl ?_ | refine TW_done ?_)
    refine TW_three rfl rfl rfl ?_ ?_ ?_
    · refine TL_callB [0, 1, 2, 3, 4, 5] [6, 7] (by decide) rfl rfl (he2 EntersC.en rfl rfl rfl) (fun w hm hb => hI1 w _ (rex_on (hm.pick [0, 1, 2, 3, 4, 5] (by decide) rfl) hkid1) hb) rfl rfl rfl ?_
      rintro ⟨⟨vc1, vr1, vfol1, vl1, vs1, F1⟩, va1, vb1⟩ hx1
      have hx1 : vs1.length = p1.follow.length := hx1
      conv => arg 8; simp only [zA, zB, zC, zD, zE, zF, zG, zH, zI, rowS, ret, id_eq, nodeSp, mkL]
      conv => arg 7; simp only [nodeSp]
      refine TW_on (sub_pick [0] (by decide) rfl) ?_
      refine TW_three rfl rfl rfl ?_ ?_ ?_
      · refine TL_callB [2, 3, 4, 5, 6, 7] [0, 1, 8, 9] (by decide) rfl rfl (he2 EntersC.en rfl rfl rfl) (fun w hm hb => hI2 ⟨vc1, vr1, vfol1, vl1, vs1, F1⟩ hx1 w _ (rex_on (hm.pick [2, 3, 4, 5, 6, 7] (by decide) rfl) hkid2) hb) rfl rfl rfl ?_
        rintro ⟨⟨vc2, vr2, vfol2, vl2, vs2, F2⟩, va2, vb2⟩ hx2
        have hx2 : vs2.length = p2.follow.length := hx2
        conv => arg 8; simp only [zA, zB, zC, zD, zE, zF, zG, zH, zI, rowS, ret, id_eq, nodeSp, mkL]
        conv => arg 7; simp only [nodeSp]
        refine TW_on (sub_pick [0] (by decide) rfl) ?_
        refine TW_two rfl rfl ?_ ?_
        · refine TL_new rfl fun g7 => (TW_on (sub_pick [0] (by decide) rfl) ?_)
          refine TW_one rfl (TL_new rfl fun g8 => (TW_on (sub_pick [0] (by decide) rfl) ?_))
          refine TW_one rfl (TL_slv (i := 2) rfl fun _ qa1 => TL_slv (i := 3) rfl fun _ qb1 => TL_storeB (i := 12) (cs' := #[.bool e1, va1, vb1]) rfl rfl rfl rfl (by simp only [List.all_cons, List.all_nil, qa1, qb1]; rfl) rfl (TW_on (sub_pick [0] (by decide) rfl) ?_))
          repeat (first
            | ((first | refine TW_plain rfl rfl ?_ | refine TW_gmet rfl rfl rfl rfl ?_); first | refine QW QP ?_ | refine QW QL ?_ | refine QW QA ?_ | refine QW (rr_nilc rfl) ?_ | refine QW QeT ?_ | refine QW QeF ?_)
            | refine TW_skip rfl rfl rfl rfl rfl rfl rfl ?_ | refine TW_done ?_)
          refine TW_one rfl (TL_slv (i := 10) rfl fun _ qa2 => TL_slv (i := 11) rfl fun _ qb2 => TL_storeB (i := 13) (cs' := #[.bool e2, va2, vb2]) rfl rfl rfl rfl (by simp only [List.all_cons, List.all_nil, qa2, qb2]; rfl) rfl (TW_on (sub_pick [0] (by decide) rfl) ?_))
          repeat (first
            | ((first | refine TW_plain rfl rfl ?_ | refine TW_gmet rfl rfl rfl rfl ?_); first | refine QW QP ?_ | refine QW QL ?_ | refine QW QA ?_ | refine QW (rr_nilc rfl) ?_ | refine QW QeT ?_ | refine QW QeF ?_)
            | refine TW_skip rfl rfl rfl rfl rfl rfl rfl ?_ | refine TW_done ?_)
          refine E_pick [4, 5, 6, 7, 8, 9, 2, 3, 10, 11, 1, 12, 13] (by decide) rfl ?_
          exact E_mid (⟨vc2, vr2, vfol2, vl2, vs2, F2⟩, va1, vb1, va2, vb2, g7, g8) hx2 (by repeat' (first | exact True.intro | refine And.intro rfl ?_)) rfl
        · refine TL_new rfl fun g8 => (TW_on (sub_pick [0] (by decide) rfl) ?_)
          refine TW_one rfl (TL_new rfl fun g7 => (TW_on (sub_pick [0] (by decide) rfl) ?_))
          refine TW_one rfl (TL_slv (i := 2) rfl fun _ qa1 => TL_slv (i := 3) rfl fun _ qb1 => TL_storeB (i := 13) (cs' := #[.bool e1, va1, vb1]) rfl rfl rfl rfl (by simp only [List.all_cons, List.all_nil, qa1, qb1]; rfl) rfl (TW_on (sub_pick [0] (by decide) rfl) ?_))
          repeat (first
            | ((first | refine TW_plain rfl rfl ?_ | refine TW_gmet rfl rfl rfl rfl ?_); first | refine QW QP ?_ | refine QW QL ?_ | refine QW QA ?_ | refine QW (rr_nilc rfl) ?_ | refine QW QeT ?_ | refine QW QeF ?_)
            | refine TW_skip rfl rfl rfl rfl rfl rfl rfl ?_ | refine TW_done ?_)
          refine TW_one rfl (TL_slv (i := 10) rfl fun _ qa2 => TL_slv (i := 11) rfl fun _ qb2 => TL_storeB (i := 12) (cs' := #[.bool e2, va2, vb2]) rfl rfl rfl rfl (by simp only [List.all_cons, List.all_nil, qa2, qb2]; rfl) rfl (TW_on (sub_pick [0] (by decide) rfl) ?_))
          repeat (first
            | ((first | refine TW_plain rfl rfl ?_ | refine TW_gmet rfl rfl rfl rfl ?_); first | refine QW QP ?_ | refine QW QL ?_ | refine QW QA ?_ | refine QW (rr_nilc rfl) ?_ | refine QW QeT ?_ | refine QW QeF ?_)
            | refine TW_skip rfl rfl rfl rfl rfl rfl rfl ?_ | refine TW_done ?_)
          refine E_pick [4, 5, 6, 7, 8, 9, 2, 3, 10, 11, 1, 13, 12] (by decide) rfl ?_
          exact E_mid (⟨vc2, vr2, vfol2, vl2, vs2, F2⟩, va1, vb1, va2, vb2, g7, g8) hx2 (by repeat' (first | exact True.intro | refine And.intro rfl ?_)) rfl
      · refine TL_new rfl fun g7 => (TW_on (sub_pick [0] (by decide) rfl) ?_)
        refine TW_two rfl rfl ?_ ?_
        · refine TL_callB [2, 3, 4, 5, 6, 7] [0, 1, 8, 9, 10] (by decide) rfl rfl (he2 EntersC.en rfl rfl rfl) (fun w hm hb => hI2 ⟨vc1, vr1, vfol1, vl1, vs1, F1⟩ hx1 w _ (rex_on (hm.pick [2, 3, 4, 5, 6, 7] (by decide) rfl) hkid2) hb) rfl rfl rfl ?_
          rintro ⟨⟨vc2, vr2, vfol2, vl2, vs2, F2⟩, va2, vb2⟩ hx2
          have hx2 : vs2.length = p2.follow.length := hx2
          conv => arg 8; simp only [zA, zB, zC, zD, zE, zF, zG, zH, zI, rowS, ret, id_eq, nodeSp, mkL]
          conv => arg 7; simp only [nodeSp]
          refine TW_on (sub_pick [0] (by decide) rfl) ?_
          refine TW_one rfl (TL_new rfl fun g8 => (TW_on (sub_pick [0] (by decide) rfl) ?_))
          refine TW_one rfl (TL_slv (i := 2) rfl fun _ qa1 => TL_slv (i := 3) rfl fun _ qb1 => TL_storeB (i := 4) (cs' := #[.bool e1, va1, vb1]) rfl rfl rfl rfl (by simp only [List.all_cons, List.all_nil, qa1, qb1]; rfl) rfl (TW_on (sub_pick [0] (by decide) rfl) ?_))
          repeat (first
            | ((first | refine TW_plain rfl rfl ?_ | refine TW_gmet rfl rfl rfl rfl ?_); first | refine QW QP ?_ | refine QW QL ?_ | refine QW QA ?_ | refine QW (rr_nilc rfl) ?_ | refine QW QeT ?_ | refine QW QeF ?_)
            | refine TW_skip rfl rfl rfl rfl rfl rfl rfl ?_ | refine TW_done ?_)
          refine TW_one rfl (TL_slv (i := 11) rfl fun _ qa2 => TL_slv (i := 12) rfl fun _ qb2 => TL_storeB (i := 13) (cs' := #[.bool e2, va2, vb2]) rfl rfl rfl rfl (by simp only [List.all_cons, List.all_nil, qa2, qb2]; rfl) rfl (TW_on (sub_pick [0] (by decide) rfl) ?_))
          repeat (first
            | ((first | refine TW_plain rfl rfl ?_ | refine TW_gmet rfl rfl rfl rfl ?_); first | refine QW QP ?_ | refine QW QL ?_ | refine QW QA ?_ | refine QW (rr_nilc rfl) ?_ | refine QW QeT ?_ | refine QW QeF ?_)
            | refine TW_skip rfl rfl rfl rfl rfl rfl rfl ?_ | refine TW_done ?_)
          refine E_pick [5, 6, 7, 8, 9, 10, 2, 3, 11, 12, 1, 4, 13] (by decide) rfl ?_
          exact E_mid (⟨vc2, vr2, vfol2, vl2, vs2, F2⟩, va1, vb1, va2, vb2, g7, g8) hx2 (by repeat' (first | exact True.intro | refine And.intro rfl ?_)) rfl
        · refine TL_new rfl fun g8 => (TW_on (sub_pick [0] (by decide) rfl) ?_)
          refine TW_one rfl (TL_callB [2, 3, 4, 5, 6, 7] [0, 1, 8, 9, 10, 11] (by decide) rfl rfl (he2 EntersC.en rfl rfl rfl) (fun w hm hb => hI2 ⟨vc1, vr1, vfol1, vl1, vs1, F1⟩ hx1 w _ (rex_on (hm.pick [2, 3, 4, 5, 6, 7] (by decide) rfl) hkid2) hb) rfl rfl rfl ?_)
          rintro ⟨⟨vc2, vr2, vfol2, vl2, vs2, F2⟩, va2, vb2⟩ hx2
          have hx2 : vs2.length = p2.follow.length := hx2
          conv => arg 8; simp only [zA, zB, zC, zD, zE, zF, zG, zH, zI, rowS, ret, id_eq, nodeSp, mkL]
          conv => arg 7; simp only [nodeSp]
          refine TW_on (sub_pick [0] (by decide) rfl) ?_
          refine TW_one rfl (TL_slv (i := 2) rfl fun _ qa1 => TL_slv (i := 3) rfl fun _ qb1 => TL_storeB (i := 4) (cs' := #[.bool e1, va1, vb1]) rfl rfl rfl rfl (by simp only [List.all_cons, List.all_nil, qa1, qb1]; rfl) rfl (TW_on (sub_pick [0] (by decide) rfl) ?_))
          repeat (first
            | ((first | refine TW_plain rfl rfl ?_ | refine TW_gmet rfl rfl rfl rfl ?_); first | refine QW QP ?_ | refine QW QL ?_ | refine QW QA ?_ | refine QW (rr_nilc rfl) ?_ | refine QW QeT ?_ | refine QW QeF ?_)
            | refine TW_skip rfl rfl rfl rfl rfl rfl rfl ?_ | refine TW_done ?_)
          refine TW_one rfl (TL_slv (i := 12) rfl fun _ qa2 => TL_slv (i := 13) rfl fun _ qb2 => TL_storeB (i := 5) (cs' := #[.bool e2, va2, vb2]) rfl rfl rfl rfl (by simp only [List.all_cons, List.all_nil, qa2, qb2]; rfl) rfl (TW_on (sub_pick [0] (by decide) rfl) ?_))
          repeat (first
            | ((first | refine TW_plain rfl rfl ?_ | refine TW_gmet rfl rfl rfl rfl ?_); first | refine QW QP ?_ | refine QW QL ?_ | refine QW QA ?_ | refine QW (rr_nilc rfl) ?_ | refine QW QeT ?_ | refine QW QeF ?_)
            | refine TW_skip rfl rfl rfl rfl rfl rfl rfl ?_ | refine TW_done ?_)
          refine E_pick [6, 7, 8, 9, 10, 11, 2, 3, 12, 13, 1, 4, 5] (by decide) rfl ?_
          exact E_mid (⟨vc2, vr2, vfol2, vl2, vs2, F2⟩, va1, vb1, va2, vb2, g7, g8) hx2 (by repeat' (first | exact True.intro | refine And.intro rfl ?_)) rfl
      · refine TL_new rfl fun g8 => (TW_on (sub_pick [0] (by decide) rfl) ?_)
        refine TW_two rfl rfl ?_ ?_
        · refine TL_callB [2, 3, 4, 5, 6, 7] [0, 1, 8, 9, 10] (by decide) rfl rfl (he2 EntersC.en rfl rfl rfl) (fun w hm hb => hI2 ⟨vc1, vr1, vfol1, vl1, vs1, F1⟩ hx1 w _ (rex_on (hm.pick [2, 3, 4, 5, 6, 7] (by decide) rfl) hkid2) hb) rfl rfl rfl ?_
          rintro ⟨⟨vc2, vr2, vfol2, vl2, vs2, F2⟩, va2, vb2⟩ hx2
          have hx2 : vs2.length = p2.follow.length := hx2
          conv => arg 8; simp only [zA, zB, zC, zD, zE, zF, zG, zH, zI, rowS, ret, id_eq, nodeSp, mkL]
          conv => arg 7; simp only [nodeSp]
          refine TW_on (sub_pick [0] (by decide) rfl) ?_
          refine TW_one rfl (TL_new rfl fun g7 => (TW_on (sub_pick [0] (by decide) rfl) ?_))
          refine TW_one rfl (TL_slv (i := 2) rfl fun _ qa1 => TL_slv (i := 3) rfl fun _ qb1 => TL_storeB (i := 13) (cs' := #[.bool e1, va1, vb1]) rfl rfl rfl rfl (by simp only [List.all_cons, List.all_nil, qa1, qb1]; rfl) rfl (TW_on (sub_pick [0] (by decide) rfl) ?_))
          repeat (first
            | ((first | refine TW_plain rfl rfl ?_ | refine TW_gmet rfl rfl rfl rfl ?_); first | refine QW QP ?_ | refine QW QL ?_ | refine QW QA ?_ | refine QW (rr_nilc rfl) ?_ | refine QW QeT ?_ | refine QW QeF ?_)
            | refine TW_skip rfl rfl rfl rfl rfl rfl rfl ?_ | refine TW_done ?_)
          refine TW_one rfl (TL_slv (i := 11) rfl fun _ qa2 => TL_slv (i := 12) rfl fun _ qb2 => TL_storeB (i := 4) (cs' := #[.bool e2, va2, vb2]) rfl rfl rfl rfl (by simp only [List.all_cons, List.all_nil, qa2, qb2]; rfl) rfl (TW_on (sub_pick [0] (by decide) rfl) ?_))
          repeat (first
            | ((first | refine TW_plain rfl rfl ?_ | refine TW_gmet rfl rfl rfl rfl ?_); first | refine QW QP ?_ | refine QW QL ?_ | refine QW QA ?_ | refine QW (rr_nilc rfl) ?_ | refine QW QeT ?_ | refine QW QeF ?_)
            | refine TW_skip rfl rfl rfl rfl rfl rfl rfl ?_ | refine TW_done ?_)
          refine E_pick [5, 6, 7, 8, 9, 10, 2, 3, 11, 12, 1, 13, 4] (by decide) rfl ?_
          exact E_mid (⟨vc2, vr2, vfol2, vl2, vs2, F2⟩, va1, vb1, va2, vb2, g7, g8) hx2 (by repeat' (first | exact True.intro | refine And.intro rfl ?_)) rfl
        · refine TL_new rfl fun g7 => (TW_on (sub_pick [0] (by decide) rfl) ?_)
          refine TW_one rfl (TL_callB [2, 3, 4, 5, 6, 7] [0, 1, 8, 9, 10, 11] (by decide) rfl rfl (he2 EntersC.en rfl rfl rfl) (fun w hm hb => hI2 ⟨vc1, vr1, vfol1, vl1, vs1, F1⟩ hx1 w _ (rex_on (hm.pick [2, 3, 4, 5, 6, 7] (by decide) rfl) hkid2) hb) rfl rfl rfl ?_)
          rintro ⟨⟨vc2, vr2, vfol2, vl2, vs2, F2⟩, va2, vb2⟩ hx2
          have hx2 : vs2.length = p2.follow.length := hx2
          conv => arg 8; simp only [zA, zB, zC, zD, zE, zF, zG, zH, zI, rowS, ret, id_eq, nodeSp, mkL]
          conv => arg 7; simp only [nodeSp]
          refine TW_on (sub_pick [0] (by decide) rfl) ?_
          refine TW_one rfl (TL_slv (i := 2) rfl fun _ qa1 => TL_slv (i := 3) rfl fun _ qb1 => TL_storeB (i := 5) (cs' := #[.bool e1, va1, vb1]) rfl rfl rfl rfl (by simp only [List.all_cons, List.all_nil, qa1, qb1]; rfl) rfl (TW_on (sub_pick [0] (by decide) rfl) ?_))
          repeat (first
            | ((first | refine TW_plain rfl rfl ?_ | refine TW_gmet rfl rfl rfl rfl ?_); first | refine QW QP ?_ | refine QW QL ?_ | refine QW QA ?_ | refine QW (rr_nilc rfl) ?_ | refine QW QeT ?_ | refine QW QeF ?_)
            | refine TW_skip rfl rfl rfl rfl rfl rfl rfl ?_ | refine TW_done ?_)
          refine TW_one rfl (TL_slv (i := 12) rfl fun _ qa2 => TL_slv (i := 13) rfl fun _ qb2 => TL_storeB (i := 4) (cs' := #[.bool e2, va2, vb2]) rfl rfl rfl rfl (by simp only [List.all_cons, List.all_nil, qa2, qb2]; rfl) rfl (TW_on (sub_pick [0] (by decide) rfl) ?_))
          repeat (first
            | ((first | refine TW_plain rfl rfl ?_ | refine TW_gmet rfl rfl rfl rfl ?_); first | refine QW QP ?_ | refine QW QL ?_ | refine QW QA ?_ | refine QW (rr_nilc rfl) ?_ | refine QW QeT ?_ | refine QW QeF ?_)
            | refine TW_skip rfl rfl rfl rfl rfl rfl rfl ?_ | refine TW_done ?_)
          refine E_pick [6, 7, 8, 9, 10, 11, 2, 3, 12, 13, 1, 5, 4] (by decide) rfl ?_
          exact E_mid (⟨vc2, vr2, vfol2, vl2, vs2, F2⟩, va1, vb1, va2, vb2, g7, g8) hx2 (by repeat' (first | exact True.intro | refine And.intro rfl ?_)) rfl
    · refine TL_new rfl fun g7 => (TW_on (sub_pick [6] (by decide) rfl) ?_)
      refine TW_two rfl rfl ?_ ?_
      · refine TL_callB [0, 1, 2, 3, 4, 5] [6, 7, 8] (by decide) rfl rfl (he2 EntersC.en rfl rfl rfl) (fun w hm hb => hI1 w _ (rex_on (hm.pick [0, 1, 2, 3, 4, 5] (by decide) rfl) hkid1) hb) rfl rfl rfl ?_
        rintro ⟨⟨vc1, vr1, vfol1, vl1, vs1, F1⟩, va1, vb1⟩ hx1
        have hx1 : vs1.length = p1.follow.length := hx1
        conv => arg 8; simp only [zA, zB, zC, zD, zE, zF, zG, zH, zI, rowS, ret, id_eq, nodeSp, mkL]
        conv => arg 7; simp only [nodeSp]
        refine TW_on (sub_pick [0] (by decide) rfl) ?_
        refine TW_two rfl rfl ?_ ?_
        · refine TL_callB [3, 4, 5, 6, 7, 8] [0, 1, 2, 9, 10] (by decide) rfl rfl (he2 EntersC.en rfl rfl rfl) (fun w hm hb => hI2 ⟨vc1, vr1, vfol1, vl1, vs1, F1⟩ hx1 w _ (rex_on (hm.pick [3, 4, 5, 6, 7, 8] (by decide) rfl) hkid2) hb) rfl rfl rfl ?_
          rintro ⟨⟨vc2, vr2, vfol2, vl2, vs2, F2⟩, va2, vb2⟩ hx2
          have hx2 : vs2.length = p2.follow.length := hx2
          conv => arg 8; simp only [zA, zB, zC, zD, zE, zF, zG, zH, zI, rowS, ret, id_eq, nodeSp, mkL]
          conv => arg 7; simp only [nodeSp]
          refine TW_on (sub_pick [0] (by decide) rfl) ?_
          refine TW_one rfl (TL_new rfl fun g8 => (TW_on (sub_pick [0] (by decide) rfl) ?_))
          refine TW_one rfl (TL_slv (i := 3) rfl fun _ qa1 => TL_slv (i := 4) rfl fun _ qb1 => TL_storeB (i := 2) (cs' := #[.bool e1, va1, vb1]) rfl rfl rfl rfl (by simp only [List.all_cons, List.all_nil, qa1, qb1]; rfl) rfl (TW_on (sub_pick [0] (by decide) rfl) ?_))
          repeat (first
            | ((first | refine TW_plain rfl rfl ?_ | refine TW_gmet rfl rfl rfl rfl ?_); first | refine QW QP ?_ | refine QW QL ?_ | refine QW QA ?_ | refine QW (rr_nilc rfl) ?_ | refine QW QeT ?_ | refine QW QeF ?_)
            | refine TW_skip rfl rfl rfl rfl rfl rfl rfl ?_ | refine TW_done ?_)
          refine TW_one rfl (TL_slv (i := 11) rfl fun _ qa2 => TL_slv (i := 12) rfl fun _ qb2 => TL_storeB (i := 13) (cs' := #[.bool e2, va2, vb2]) rfl rfl rfl rfl (by simp only [List.all_cons, List.all_nil, qa2, qb2]; rfl) rfl (TW_on (sub_pick [0] (by decide) rfl) ?_))
          repeat (first
            | ((first | refine TW_plain rfl rfl ?_ | refine TW_gmet rfl rfl rfl rfl ?_); first | refine QW QP ?_ | refine QW QL ?_ | refine QW QA ?_ | refine QW (rr_nilc rfl) ?_ | refine QW QeT ?_ | refine QW QeF ?_)
            | refine TW_skip rfl rfl rfl rfl rfl rfl rfl ?_ | refine TW_done ?_)
          refine E_pick [5, 6, 7, 8, 9, 10, 3, 4, 11, 12, 1, 2, 13] (by decide) rfl ?_
          exact E_mid (⟨vc2, vr2, vfol2, vl2, vs2, F2⟩, va1, vb1, va2, vb2, g7, g8) hx2 (by repeat' (first | exact True.intro | refine And.intro rfl ?_)) rfl
        · refine TL_new rfl fun g8 => (TW_on (sub_pick [0] (by decide) rfl) ?_)
          refine TW_one rfl (TL_callB [3, 4, 5, 6, 7, 8] [0, 1, 2, 9, 10, 11] (by decide) rfl rfl (he2 EntersC.en rfl rfl rfl) (fun w hm hb => hI2 ⟨vc1, vr1, vfol1, vl1, vs1, F1⟩ hx1 w _ (rex_on (hm.pick [3, 4, 5, 6, 7, 8] (by decide) rfl) hkid2) hb) rfl rfl rfl ?_)
          rintro ⟨⟨vc2, vr2, vfol2, vl2, vs2, F2⟩, va2, vb2⟩ hx2
          have hx2 : vs2.length = p2.follow.length := hx2
          conv => arg 8; simp only [zA, zB, zC, zD, zE, zF, zG, zH, zI, rowS, ret, id_eq, nodeSp, mkL]
          conv => arg 7; simp only [nodeSp]
          refine TW_on (sub_pick [0] (by decide) rfl) ?_
          refine TW_one rfl (TL_slv (i := 3) rfl fun _ qa1 => TL_slv (i := 4) rfl fun _ qb1 => TL_storeB (i := 2) (cs' := #[.bool e1, va1, vb1]) rfl rfl rfl rfl (by simp only [List.all_cons, List.all_nil, qa1, qb1]; rfl) rfl (TW_on (sub_pick [0] (by decide) rfl) ?_))
          repeat (first
            | ((first | refine TW_plain rfl rfl ?_ | refine TW_gmet rfl rfl rfl rfl ?_); first | refine QW QP ?_ | refine QW QL ?_ | refine QW QA ?_ | refine QW (rr_nilc rfl) ?_ | refine QW QeT ?_ | refine QW QeF ?_)
            | refine TW_skip rfl rfl rfl rfl rfl rfl rfl ?_ | refine TW_done ?_)
          refine TW_one rfl (TL_slv (i := 12) rfl fun _ qa2 => TL_slv (i := 13) rfl fun _ qb2 => TL_storeB (i := 5) (cs' := #[.bool e2, va2, vb2]) rfl rfl rfl rfl (by simp only [List.all_cons, List.all_nil, qa2, qb2]; rfl) rfl (TW_on (sub_pick [0] (by decide) rfl) ?_))
          repeat (first
            | ((first | refine TW_plain rfl rfl ?_ | refine TW_gmet rfl rfl rfl rfl ?_); first | refine QW QP ?_ | refine QW QL ?_ | refine QW QA ?_ | refine QW (rr_nilc rfl) ?_ | refine QW QeT ?_ | refine QW QeF ?_)
            | refine TW_skip rfl rfl rfl rfl rfl rfl rfl ?_ | refine TW_done ?_)
          refine E_pick [6, 7, 8, 9, 10, 11, 3, 4, 12, 13, 1, 2, 5] (by decide) rfl ?_
          exact E_mid (⟨vc2, vr2, vfol2, vl2, vs2, F2⟩, va1, vb1, va2, vb2, g7, g8) hx2 (by repeat' (first | exact True.intro | refine And.intro rfl ?_)) rfl
      · refine TL_new rfl fun g8 => (TW_on (sub_pick [6] (by decide) rfl) ?_)
        refine TW_one rfl (TL_callB [0, 1, 2, 3, 4, 5] [6, 7, 8, 9] (by decide) rfl rfl (he2 EntersC.en rfl rfl rfl) (fun w hm hb => hI1 w _ (rex_on (hm.pick [0, 1, 2, 3, 4, 5] (by decide) rfl) hkid1) hb) rfl rfl rfl ?_)
        rintro ⟨⟨vc1, vr1, vfol1, vl1, vs1, F1⟩, va1, vb1⟩ hx1
        have hx1 : vs1.length = p1.follow.length := hx1
        conv => arg 8; simp only [zA, zB, zC, zD, zE, zF, zG, zH, zI, rowS, ret, id_eq, nodeSp, mkL]
        conv => arg 7; simp only [nodeSp]
        refine TW_on (sub_pick [0] (by decide) rfl) ?_
        refine TW_one rfl (TL_callB [4, 5, 6, 7, 8, 9] [0, 1, 2, 3, 10, 11] (by decide) rfl rfl (he2 EntersC.en rfl rfl rfl) (fun w hm hb => hI2 ⟨vc1, vr1, vfol1, vl1, vs1, F1⟩ hx1 w _ (rex_on (hm.pick [4, 5, 6, 7, 8, 9] (by decide) rfl) hkid2) hb) rfl rfl rfl ?_)
        rintro ⟨⟨vc2, vr2, vfol2, vl2, vs2, F2⟩, va2, vb2⟩ hx2
        have hx2 : vs2.length = p2.follow.length := hx2
        conv => arg 8; simp only [zA, zB, zC, zD, zE, zF, zG, zH, zI, rowS, ret, id_eq, nodeSp, mkL]
        conv => arg 7; simp only [nodeSp]
        refine TW_on (sub_pick [0] (by decide) rfl) ?_
        refine TW_one rfl (TL_slv (i := 4) rfl fun _ qa1 => TL_slv (i := 5) rfl fun _ qb1 => TL_storeB (i := 2) (cs' := #[.bool e1, va1, vb1]) rfl rfl rfl rfl (by simp only [List.all_cons, List.all_nil, qa1, qb1]; rfl) rfl (TW_on (sub_pick [0] (by decide) rfl) ?_))
        repeat (first
          | ((first | refine TW_plain rfl rfl ?_ | refine TW_gmet rfl rfl rfl rfl ?_); first | refine QW QP ?_ | refine QW QL ?_ | refine QW QA ?_ | refine QW (rr_nilc rfl) ?_ | refine QW QeT ?_ | refine QW QeF ?_)
          | refine TW_skip rfl rfl rfl rfl rfl rfl rfl ?_ | refine TW_done ?_)
        refine TW_one rfl (TL_slv (i := 12) rfl fun _ qa2 => TL_slv (i := 13) rfl fun _ qb2 => TL_storeB (i := 3) (cs' := #[.bool e2, va2, vb2]) rfl rfl rfl rfl (by simp only [List.all_cons, List.all_nil, qa2, qb2]; rfl) rfl (TW_on (sub_pick [0] (by decide) rfl) ?_))
        repeat (first
          | ((first | refine TW_plain rfl rfl ?_ | refine TW_gmet rfl rfl rfl rfl ?_); first | refine QW QP ?_ | refine QW QL ?_ | refine QW QA ?_ | refine QW (rr_nilc rfl) ?_ | refine QW QeT ?_ | refine QW QeF ?_)
          | refine TW_skip rfl rfl rfl rfl rfl rfl rfl ?_ | refine TW_done ?_)
        refine E_pick [6, 7, 8, 9, 10, 11, 4, 5, 12, 13, 1, 2, 3] (by decide) rfl ?_
        exact E_mid (⟨vc2, vr2, vfol2, vl2, vs2, F2⟩, va1, vb1, va2, vb2, g7, g8) hx2 (by repeat' (first | exact True.intro | refine And.intro rfl ?_)) rfl
    · refine TL_new rfl fun g8 => (TW_on (sub_pick [6] (by decide) rfl) ?_)
      refine TW_two rfl rfl ?_ ?_
      · refine TL_callB [0, 1, 2, 3, 4, 5] [6, 7, 8] (by decide) rfl rfl (he2 EntersC.en rfl rfl rfl) (fun w hm hb => hI1 w _ (rex_on (hm.pick [0, 1, 2, 3, 4, 5] (by decide) rfl) hkid1) hb) rfl rfl rfl ?_
        rintro ⟨⟨vc1, vr1, vfol1, vl1, vs1, F1⟩, va1, vb1⟩ hx1
        have hx1 : vs1.length = p1.follow.length := hx1
        conv => arg 8; simp only [zA, zB, zC, zD, zE, zF, zG, zH, zI, rowS, ret, id_eq, nodeSp, mkL]
        conv => arg 7; simp only [nodeSp]
        refine TW_on (sub_pick [0] (by decide) rfl) ?_
        refine TW_two rfl rfl ?_ ?_
        · refine TL_callB [3, 4, 5, 6, 7, 8] [0, 1, 2, 9, 10] (by decide) rfl rfl (he2 EntersC.en rfl rfl rfl) (fun w hm hb => hI2 ⟨vc1, vr1, vfol1, vl1, vs1, F1⟩ hx1 w _ (rex_on (hm.pick [3, 4, 5, 6, 7, 8] (by decide) rfl) hkid2) hb) rfl rfl rfl ?_
          rintro ⟨⟨vc2, vr2, vfol2, vl2, vs2, F2⟩, va2, vb2⟩ hx2
          have hx2 : vs2.length = p2.follow.length := hx2
          conv => arg 8; simp only [zA, zB, zC, zD, zE, zF, zG, zH, zI, rowS, ret, id_eq, nodeSp, mkL]
          conv => arg 7; simp only [nodeSp]
          refine TW_on (sub_pick [0] (by decide) rfl) ?_
          refine TW_one rfl (TL_new rfl fun g7 => (TW_on (sub_pick [0] (by decide) rfl) ?_))
          refine TW_one rfl (TL_slv (i := 3) rfl fun _ qa1 => TL_slv (i := 4) rfl fun _ qb1 => TL_storeB (i := 13) (cs' := #[.bool e1, va1, vb1]) rfl rfl rfl rfl (by simp only [List.all_cons, List.all_nil, qa1, qb1]; rfl) rfl (TW_on (sub_pick [0] (by decide) rfl) ?_))
          repeat (first
            | ((first | refine TW_plain rfl rfl ?_ | refine TW_gmet rfl rfl rfl rfl ?_); first | refine QW QP ?_ | refine QW QL ?_ | refine QW QA ?_ | refine QW (rr_nilc rfl) ?_ | refine QW QeT ?_ | refine QW QeF ?_)
            | refine TW_skip rfl rfl rfl rfl rfl rfl rfl ?_ | refine TW_done ?_)
          refine TW_one rfl (TL_slv (i := 11) rfl fun _ qa2 => TL_slv (i := 12) rfl fun _ qb2 => TL_storeB (i := 2) (cs' := #[.bool e2, va2, vb2]) rfl rfl rfl rfl (by simp only [List.all_cons, List.all_nil, qa2, qb2]; rfl) rfl (TW_on (sub_pick [0] (by decide) rfl) ?_))
          repeat (first
            | ((first | refine TW_plain rfl rfl ?_ | refine TW_gmet rfl rfl rfl rfl ?_); first | refine QW QP ?_ | refine QW QL ?_ | refine QW QA ?_ | refine QW (rr_nilc rfl) ?_ | refine QW QeT ?_ | refine QW QeF ?_)
            | refine TW_skip rfl rfl rfl rfl rfl rfl rfl ?_ | refine TW_done ?_)
          refine E_pick [5, 6, 7, 8, 9, 10, 3, 4, 11, 12, 1, 13, 2] (by decide) rfl ?_
          exact E_mid (⟨vc2, vr2, vfol2, vl2, vs2, F2⟩, va1, vb1, va2, vb2, g7, g8) hx2 (by repeat' (first | exact True.intro | refine And.intro rfl ?_)) rfl
        · refine TL_new rfl fun g7 => (TW_on (sub_pick [0] (by decide) rfl) ?_)
          refine TW_one rfl (TL_callB [3, 4, 5, 6, 7, 8] [0, 1, 2, 9, 10, 11] (by decide) rfl rfl (he2 EntersC.en rfl rfl rfl) (fun w hm hb => hI2 ⟨vc1, vr1, vfol1, vl1, vs1, F1⟩ hx1 w _ (rex_on (hm.pick [3, 4, 5, 6, 7, 8] (by decide) rfl) hkid2) hb) rfl rfl rfl ?_)
          rintro ⟨⟨vc2, vr2, vfol2, vl2, vs2, F2⟩, va2, vb2⟩ hx2
          have hx2 : vs2.length = p2.follow.length := hx2
          conv => arg 8; simp only [zA, zB, zC, zD, zE, zF, zG, zH, zI, rowS, ret, id_eq, nodeSp, mkL]
          conv => arg 7; simp only [nodeSp]
          refine TW_on (sub_pick [0] (by decide) rfl) ?_
          refine TW_one rfl (TL_slv (i := 3) rfl fun _ qa1 => TL_slv (i := 4) rfl fun _ qb1 => TL_storeB (i := 5) (cs' := #[.bool e1, va1, vb1]) rfl rfl rfl rfl (by simp only [List.all_cons, List.all_nil, qa1, qb1]; rfl) rfl (TW_on (sub_pick [0] (by decide) rfl) ?_))
          repeat (first
            | ((first | refine TW_plain rfl rfl ?_ | refine TW_gmet rfl rfl rfl rfl ?_); first | refine QW QP ?_ | refine QW QL ?_ | refine QW QA ?_ | refine QW (rr_nilc rfl) ?_ | refine QW QeT ?_ | refine QW QeF ?_)
            | refine TW_skip rfl rfl rfl rfl rfl rfl rfl ?_ | refine TW_done ?_)
          refine TW_one rfl (TL_slv (i := 12) rfl fun _ qa2 => TL_slv (i := 13) rfl fun _ qb2 => TL_storeB (i := 2) (cs' := #[.bool e2, va2, vb2]) rfl rfl rfl rfl (by simp only [List.all_cons, List.all_nil, qa2, qb2]; rfl) rfl (TW_on (sub_pick [0] (by decide) rfl) ?_))
          repeat (first
            | ((first | refine TW_plain rfl rfl ?_ | refine TW_gmet rfl rfl rfl rfl ?_); first | refine QW QP ?_ | refine QW QL ?_ | refine QW QA ?_ | refine QW (rr_nilc rfl) ?_ | refine QW QeT ?_ | refine QW QeF ?_)
            | refine TW_skip rfl rfl rfl rfl rfl rfl rfl ?_ | refine TW_done ?_)
          refine E_pick [6, 7, 8, 9, 10, 11, 3, 4, 12, 13, 1, 5, 2] (by decide) rfl ?_
          exact E_mid (⟨vc2, vr2, vfol2, vl2, vs2, F2⟩, va1, vb1, va2, vb2, g7, g8) hx2 (by repeat' (first | exact True.intro | refine And.intro rfl ?_)) rfl
      · refine TL_new rfl fun g7 => (TW_on (sub_pick [6] (by decide) rfl) ?_)
        refine TW_one rfl (TL_callB [0, 1, 2, 3, 4, 5] [6, 7, 8, 9] (by decide) rfl rfl (he2 EntersC.en rfl rfl rfl) (fun w hm hb => hI1 w _ (rex_on (hm.pick [0, 1, 2, 3, 4, 5] (by decide) rfl) hkid1) hb) rfl rfl rfl ?_)
        rintro ⟨⟨vc1, vr1, vfol1, vl1, vs1, F1⟩, va1, vb1⟩ hx1
        have hx1 : vs1.length = p1.follow.length := hx1
        conv => arg 8; simp only [zA, zB, zC, zD, zE, zF, zG, zH, zI, rowS, ret, id_eq, nodeSp, mkL]
        conv => arg 7; simp only [nodeSp]
        refine TW_on (sub_pick [0] (by decide) rfl) ?_
        refine TW_one rfl (TL_callB [4, 5, 6, 7, 8, 9] [0, 1, 2, 3, 10, 11] (by decide) rfl rfl (he2 EntersC.en rfl rfl rfl) (fun w hm hb => hI2 ⟨vc1, vr1, vfol1, vl1, vs1, F1⟩ hx1 w _ (rex_on (hm.pick [4, 5, 6, 7, 8, 9] (by decide) rfl) hkid2) hb) rfl rfl rfl ?_)
        rintro ⟨⟨vc2, vr2, vfol2, vl2, vs2, F2⟩, va2, vb2⟩ hx2
        have hx2 : vs2.length = p2.follow.length := hx2
        conv => arg 8; simp only [zA, zB, zC, zD, zE, zF, zG, zH, zI, rowS, ret, id_eq, nodeSp, mkL]
        conv => arg 7; simp only [nodeSp]
        refine TW_on (sub_pick [0] (by decide) rfl) ?_
        refine TW_one rfl (TL_slv (i := 4) rfl fun _ qa1 => TL_slv (i := 5) rfl fun _ qb1 => TL_storeB (i := 3) (cs' := #[.bool e1, va1, vb1]) rfl rfl rfl rfl (by simp only [List.all_cons, List.all_nil, qa1, qb1]; rfl) rfl (TW_on (sub_pick [0] (by decide) rfl) ?_))
        repeat (first
          | ((first | refine TW_plain rfl rfl ?_ | refine TW_gmet rfl rfl rfl rfl ?_); first | refine QW QP ?_ | refine QW QL ?_ | refine QW QA ?_ | refine QW (rr_nilc rfl) ?_ | refine QW QeT ?_ | refine QW QeF ?_)
          | refine TW_skip rfl rfl rfl rfl rfl rfl rfl ?_ | refine TW_done ?_)
        refine TW_one rfl (TL_slv (i := 12) rfl fun _ qa2 => TL_slv (i := 13) rfl fun _ qb2 => TL_storeB (i := 2) (cs' := #[.bool e2, va2, vb2]) rfl rfl rfl rfl (by simp only [List.all_cons, List.all_nil, qa2, qb2]; rfl) rfl (TW_on (sub_pick [0] (by decide) rfl) ?_))
        repeat (first
          | ((first | refine TW_plain rfl rfl ?_ | refine TW_gmet rfl rfl rfl rfl ?_); first | refine QW QP ?_ | refine QW QL ?_ | refine QW QA ?_ | refine QW (rr_nilc rfl) ?_ | refine QW QeT ?_ | refine QW QeF ?_)
          | refine TW_skip rfl rfl rfl rfl rfl rfl rfl ?_ | refine TW_done ?_)
        refine E_pick [6, 7, 8, 9, 10, 11, 4, 5, 12, 13, 1, 3, 2] (by decide) rfl ?_
        exact E_mid (⟨vc2, vr2, vfol2, vl2, vs2, F2⟩, va1, vb1, va2, vb2, g7, g8) hx2 (by repeat' (first | exact True.intro | refine And.intro rfl ?_)) rfl
  clear hI1 hI2 hat1 hat2
  rintro ⟨⟨vc, vr, vfol, vl, vs, F⟩, va1, vb1, va2, vb2, g7, g8⟩ hx2
  have hx2 : vs.length = p2.follow.length := hx2
  dsimp only
  conv => arg 7; simp only [zA, zB, zC, zD, zE, zF, zG, zH, zI, rowS, ret, id_eq, mkL]
  have hl1 := ris_len hp4
  have hl2 := ris_len hp5
  have hl3 := ris_len kp4
  have hl4 := ris_len kp5
  repeat (first
    | refine QV QP ?_ | refine QZ ?_ | refine qcT rfl ?_ | refine qcF rfl ?_ | refine qs rfl rfl rfl rfl rfl rfl ?_
    | ((try refine qg rfl rfl rfl ?_); first | refine QV QP ?_ | refine QV (rr_load1 (v := vb1) TyC.ty rfl (at_blk (i := 11) rfl rfl)) ?_ | refine QV (rr_load1 (v := va2) TyC.ty rfl (at_blk (i := 12) rfl rfl)) ?_ | refine QV QL ?_ | refine QV QA ?_ | refine QV (rr_nilc rfl) ?_ | refine QV QeT ?_ | refine QV QeF ?_))
  refine TL_callB [0, 3, 4, 7, 8] [1, 2, 5, 6, 9, 10, 11, 12] (by decide) rfl rfl (he3 EntersC.en rfl rfl rfl rfl) (fun w hm hb => behind_calls g vc vr vf vfol vl ve rule vb1 va2 vs F p2.follow last1 first2 w _ hx2 (by rw [kp1.follow]; omega) (by rw [kp1.follow]; exact kp1.ris) (by rw [kp1.follow]; exact ris_mono hp5 kp2) (by rw [kp1.follow]; exact kp4) hb) rfl rfl rfl ?_
  rintro ⟨vs', F'⟩ hx3
  have hx3 : vs'.length = p2.follow.length := hx3
  conv => arg 8; simp only [zA, zB, zC, zD, zE, zF, zG, zH, zI, rowS, ret, id_eq, behSp]
  refine TL_rowv (i := 3) rfl fun ba ca hva _ _ => ?_
  refine TL_rowv (i := 4) rfl fun bb cb hvb _ _ => ?_
  subst hva hvb
  cases e1 with
  | true =>
    cases e2 with
    | true =>
      repeat (first
        | refine QV QP ?_ | refine QZ ?_ | refine qcT rfl ?_ | refine qcF rfl ?_ | refine qs rfl rfl rfl rfl rfl rfl ?_
        | ((try refine qg rfl rfl rfl ?_); first | refine QV QP ?_ | refine QV (rr_load1 TyC.ty rfl (at_blk (i := 6) rfl rfl)) ?_ | refine QV (rr_load1 TyC.ty rfl (at_blk (i := 7) rfl rfl)) ?_ | refine QV (rr_build rfl (build_shpA _ _ _ _ _ _ _)) ?_ | refine QV QL ?_ | refine QV QA ?_ | refine QV (rr_nilc rfl) ?_ | refine QV QeT ?_ | refine QV QeF ?_))
      refine TL_new rfl fun g11 => ?_
      conv => arg 8; simp only [zA, zB, zC, zD, zE, zF, zG, zH, zI, rowS, ret, id_eq]
      refine TL_storeB (i := 13) (cs' := #[.bool true, .slice ba first1.length ca, .slice bb last2.length cb]) rfl rfl rfl rfl rfl rfl ?_
      conv => arg 8; simp only [zA, zB, zC, zD, zE, zF, zG, zH, zI, rowS, ret, id_eq]
      repeat (first
        | refine QV QP ?_ | refine QZ ?_ | refine qcT rfl ?_ | refine qcF rfl ?_ | refine qs rfl rfl rfl rfl rfl rfl ?_
        | ((try refine qg rfl rfl rfl ?_); first | refine QV QP ?_ | refine QV (rr_load1 TyC.ty rfl (at_blk (i := 6) rfl rfl)) ?_ | refine QV (rr_load1 TyC.ty rfl (at_blk (i := 7) rfl rfl)) ?_ | refine QV QL ?_ | refine QV QA ?_ | refine QV (rr_nilc rfl) ?_ | refine QV QeT ?_ | refine QV QeF ?_))
      refine TL_call (he2 EntersC.en rfl rfl rfl) (fun w' hm => union_calls _ va2 first1 first2 w' (Sl.of_own (hm.get (i := 3) rfl)) (Sl.of_own (hm.get (i := 12) rfl)) (by omega) (by omega)) rfl rfl rfl ?_
      intro vu _
      conv => arg 8; simp only [zA, zB, zC, zD, zE, zF, zG, zH, zI, rowS, ret, id_eq, intRS]
      repeat (first
        | refine QV QP ?_ | refine QZ ?_ | refine qcT rfl ?_ | refine qcF rfl ?_ | refine qs rfl rfl rfl rfl rfl rfl ?_
        | ((try refine qg rfl rfl rfl ?_); first | refine QV QP ?_ | refine QV QL ?_ | refine QV QA ?_ | refine QV (rr_nilc rfl) ?_ | refine QV QeT ?_ | refine QV QeF ?_))
      refine TL_slv (i := 14) rfl fun qu1 qu2 => TL_store1 (i := 13) rfl rfl rfl qu1 qu2 rfl ?_
      conv => arg 8; simp only [zA, zB, zC, zD, zE, zF, zG, zH, zI, rowS, ret, id_eq]
      repeat (first
        | refine QV QP ?_ | refine QZ ?_ | refine qcT rfl ?_ | refine qcF rfl ?_ | refine qs rfl rfl rfl rfl rfl rfl ?_
        | ((try refine qg rfl rfl rfl ?_); first | refine QV QP ?_ | refine QV (rr_load1 TyC.ty rfl (at_blk (i := 6) rfl rfl)) ?_ | refine QV (rr_load1 TyC.ty rfl (at_blk (i := 7) rfl rfl)) ?_ | refine QV QL ?_ | refine QV QA ?_ | refine QV (rr_nilc rfl) ?_ | refine QV QeT ?_ | refine QV QeF ?_))
      refine TL_call (he2 EntersC.en rfl rfl rfl) (fun w' hm => union_calls vb1 _ last1 last2 w' (Sl.of_own (hm.get (i := 11) rfl)) (Sl.of_own (hm.get (i := 4) rfl)) (by omega) (by omega)) rfl rfl rfl ?_
      intro vu2 _
      conv => arg 8; simp only [zA, zB, zC, zD, zE, zF, zG, zH, zI, rowS, ret, id_eq, intRS]
      repeat (first
        | refine QV QP ?_ | refine QZ ?_ | refine qcT rfl ?_ | refine qcF rfl ?_ | refine qs rfl rfl rfl rfl rfl rfl ?_
        | ((try refine qg rfl rfl rfl ?_); first | refine QV QP ?_ | refine QV QL ?_ | refine QV QA ?_ | refine QV (rr_nilc rfl) ?_ | refine QV QeT ?_ | refine QV QeF ?_))
      refine TL_slv (i := 15) rfl fun qv1 qv2 => TL_store1 (i := 13) rfl rfl rfl qv1 qv2 rfl ?_
      conv => arg 8; simp only [zA, zB, zC, zD, zE, zF, zG, zH, zI, rowS, ret, id_eq]
      repeat (first
        | refine QV QP ?_ | refine QZ ?_ | refine qcT rfl ?_ | refine qcF rfl ?_ | refine qs rfl rfl rfl rfl rfl rfl ?_
        | ((try refine qg rfl rfl rfl ?_); first | refine QV QP ?_ | refine QV (rr_loadB (i := 13) TyC.ty rfl rfl rfl) ?_ | refine QV (rr_load1 TyC.ty rfl (at_blk (i := 6) rfl rfl)) ?_ | refine QV (rr_load1 TyC.ty rfl (at_blk (i := 7) rfl rfl)) ?_ | refine QV QL ?_ | refine QV QA ?_ | refine QV (rr_nilc rfl) ?_ | refine QV QeT ?_ | refine QV QeF ?_))
      refine TL_storeB (i := 5) (cs' := #[.bool true, vu, vu2]) rfl rfl rfl rfl (by simp only [List.all_cons, List.all_nil, qu2, qv2]; rfl) rfl ?_
      conv => arg 8; simp only [zA, zB, zC, zD, zE, zF, zG, zH, zI, rowS, ret, id_eq]
      repeat (first
        | refine QV QP ?_ | refine QZ ?_ | refine qcT rfl ?_ | refine qcF rfl ?_ | refine qs rfl rfl rfl rfl rfl rfl ?_
        | ((try refine qg rfl rfl rfl ?_); first | refine QV QP ?_ | refine QV QL ?_ | refine QV QA ?_ | refine QV (rr_nilc rfl) ?_ | refine QV QeT ?_ | refine QV QeF ?_))
      refine E_retc1 (i := 5) rfl rfl rfl rfl fun w hm => ?_
      exact hm.meetsB (S := nodeSp g vf ve rule (⟨true, uni first1 first2, uni last1 last2⟩, { p2 with follow := behindF p2.follow last1 first2 })) (⟨vc, vr, vfol, vl, vs', F'⟩, vu, vu2) (by show vs'.length = (behindF p2.follow last1 first2).length; rw [behind_len]; exact hx3) [8, 0, 1, 9, 10, 2, 14, 15] (by decide) rfl
    | false =>
      repeat (first
        | refine QV QP ?_ | refine QZ ?_ | refine qcT rfl ?_ | refine qcF rfl ?_ | refine qs rfl rfl rfl rfl rfl rfl ?_
        | ((try refine qg rfl rfl rfl ?_); first | refine QV QP ?_ | refine QV (rr_load1 TyC.ty rfl (at_blk (i := 6) rfl rfl)) ?_ | refine QV (rr_load1 TyC.ty rfl (at_blk (i := 7) rfl rfl)) ?_ | refine QV (rr_build rfl (build_shpA _ _ _ _ _ _ _)) ?_ | refine QV QL ?_ | refine QV QA ?_ | refine QV (rr_nilc rfl) ?_ | refine QV QeT ?_ | refine QV QeF ?_))
      refine TL_new rfl fun g11 => ?_
      conv => arg 8; simp only [zA, zB, zC, zD, zE, zF, zG, zH, zI, rowS, ret, id_eq]
      refine TL_storeB (i := 13) (cs' := #[.bool false, .slice ba first1.length ca, .slice bb last2.length cb]) rfl rfl rfl rfl rfl rfl ?_
      conv => arg 8; simp only [zA, zB, zC, zD, zE, zF, zG, zH, zI, rowS, ret, id_eq]
      repeat (first
        | refine QV QP ?_ | refine QZ ?_ | refine qcT rfl ?_ | refine qcF rfl ?_ | refine qs rfl rfl rfl rfl rfl rfl ?_
        | ((try refine qg rfl rfl rfl ?_); first | refine QV QP ?_ | refine QV (rr_load1 TyC.ty rfl (at_blk (i := 6) rfl rfl)) ?_ | refine QV (rr_load1 TyC.ty rfl (at_blk (i := 7) rfl rfl)) ?_ | refine QV QL ?_ | refine QV QA ?_ | refine QV (rr_nilc rfl) ?_ | refine QV QeT ?_ | refine QV QeF ?_))
      refine TL_call (he2 EntersC.en rfl rfl rfl) (fun w' hm => union_calls _ va2 first1 first2 w' (Sl.of_own (hm.get (i := 3) rfl)) (Sl.of_own (hm.get (i := 12) rfl)) (by omega) (by omega)) rfl rfl rfl ?_
      intro vu _
      conv => arg 8; simp only [zA, zB, zC, zD, zE, zF, zG, zH, zI, rowS, ret, id_eq, intRS]
      repeat (first
        | refine QV QP ?_ | refine QZ ?_ | refine qcT rfl ?_ | refine qcF rfl ?_ | refine qs rfl rfl rfl rfl rfl rfl ?_
        | ((try refine qg rfl rfl rfl ?_); first | refine QV QP ?_ | refine QV QL ?_ | refine QV QA ?_ | refine QV (rr_nilc rfl) ?_ | refine QV QeT ?_ | refine QV QeF ?_))
      refine TL_slv (i := 14) rfl fun qu1 qu2 => TL_store1 (i := 13) rfl rfl rfl qu1 qu2 rfl ?_
      conv => arg 8; simp only [zA, zB, zC, zD, zE, zF, zG, zH, zI, rowS, ret, id_eq]
      repeat (first
        | refine QV QP ?_ | refine QZ ?_ | refine qcT rfl ?_ | refine qcF rfl ?_ | refine qs rfl rfl rfl rfl rfl rfl ?_
        | ((try refine qg rfl rfl rfl ?_); first | refine QV QP ?_ | refine QV (rr_loadB (i := 13) TyC.ty rfl rfl rfl) ?_ | refine QV (rr_load1 TyC.ty rfl (at_blk (i := 6) rfl rfl)) ?_ | refine QV (rr_load1 TyC.ty rfl (at_blk (i := 7) rfl rfl)) ?_ | refine QV QL ?_ | refine QV QA ?_ | refine QV (rr_nilc rfl) ?_ | refine QV QeT ?_ | refine QV QeF ?_))
      refine TL_storeB (i := 5) (cs' := #[.bool false, vu, .slice bb last2.length cb]) rfl rfl rfl rfl (by simp only [List.all_cons, List.all_nil, qu2]; rfl) rfl ?_
      conv => arg 8; simp only [zA, zB, zC, zD, zE, zF, zG, zH, zI, rowS, ret, id_eq]
      repeat (first
        | refine QV QP ?_ | refine QZ ?_ | refine qcT rfl ?_ | refine qcF rfl ?_ | refine qs rfl rfl rfl rfl rfl rfl ?_
        | ((try refine qg rfl rfl rfl ?_); first | refine QV QP ?_ | refine QV QL ?_ | refine QV QA ?_ | refine QV (rr_nilc rfl) ?_ | refine QV QeT ?_ | refine QV QeF ?_))
      refine E_retc1 (i := 5) rfl rfl rfl rfl fun w hm => ?_
      exact hm.meetsB (S := nodeSp g vf ve rule (⟨false, uni first1 first2, last2⟩, { p2 with follow := behindF p2.follow last1 first2 })) (⟨vc, vr, vfol, vl, vs', F'⟩, vu, .slice bb last2.length cb) (by show vs'.length = (behindF p2.follow last1 first2).length; rw [behind_len]; exact hx3) [8, 0, 1, 9, 10, 2, 14, 4] (by decide) rfl
  | false =>
    cases e2 with
    | true =>
      repeat (first
        | refine QV QP ?_ | refine QZ ?_ | refine qcT rfl ?_ | refine qcF rfl ?_ | refine qs rfl rfl rfl rfl rfl rfl ?_
        | ((try refine qg rfl rfl rfl ?_); first | refine QV QP ?_ | refine QV (rr_load1 TyC.ty rfl (at_blk (i := 6) rfl rfl)) ?_ | refine QV (rr_load1 TyC.ty rfl (at_blk (i := 7) rfl rfl)) ?_ | refine QV (rr_build rfl (build_shpA _ _ _ _ _ _ _)) ?_ | refine QV QL ?_ | refine QV QA ?_ | refine QV (rr_nilc rfl) ?_ | refine QV QeT ?_ | refine QV QeF ?_))
      refine TL_new rfl fun g11 => ?_
      conv => arg 8; simp only [zA, zB, zC, zD, zE, zF, zG, zH, zI, rowS, ret, id_eq]
      refine TL_storeB (i := 13) (cs' := #[.bool false, .slice ba first1.length ca, .slice bb last2.length cb]) rfl rfl rfl rfl rfl rfl ?_
      conv => arg 8; simp only [zA, zB, zC, zD, zE, zF, zG, zH, zI, rowS, ret, id_eq]
      repeat (first
        | refine QV QP ?_ | refine QZ ?_ | refine qcT rfl ?_ | refine qcF rfl ?_ | refine qs rfl rfl rfl rfl rfl rfl ?_
        | ((try refine qg rfl rfl rfl ?_); first | refine QV QP ?_ | refine QV (rr_load1 TyC.ty rfl (at_blk (i := 6) rfl rfl)) ?_ | refine QV (rr_load1 TyC.ty rfl (at_blk (i := 7) rfl rfl)) ?_ | refine QV QL ?_ | refine QV QA ?_ | refine QV (rr_nilc rfl) ?_ | refine QV QeT ?_ | refine QV QeF ?_))
      refine TL_call (he2 EntersC.en rfl rfl rfl) (fun w' hm => union_calls vb1 _ last1 last2 w' (Sl.of_own (hm.get (i := 11) rfl)) (Sl.of_own (hm.get (i := 4) rfl)) (by omega) (by omega)) rfl rfl rfl ?_
      intro vu2 _
      conv => arg 8; simp only [zA, zB, zC, zD, zE, zF, zG, zH, zI, rowS, ret, id_eq, intRS]
      repeat (first
        | refine QV QP ?_ | refine QZ ?_ | refine qcT rfl ?_ | refine qcF rfl ?_ | refine qs rfl rfl rfl rfl rfl rfl ?_
        | ((try refine qg rfl rfl rfl ?_); first | refine QV QP ?_ | refine QV QL ?_ | refine QV QA ?_ | refine QV (rr_nilc rfl) ?_ | refine QV QeT ?_ | refine QV QeF ?_))
      refine TL_slv (i := 14) rfl fun qv1 qv2 => TL_store1 (i := 13) rfl rfl rfl qv1 qv2 rfl ?_
      conv => arg 8; simp only [zA, zB, zC, zD, zE, zF, zG, zH, zI, rowS, ret, id_eq]
      repeat (first
        | refine QV QP ?_ | refine QZ ?_ | refine qcT rfl ?_ | refine qcF rfl ?_ | refine qs rfl rfl rfl rfl rfl rfl ?_
        | ((try refine qg rfl rfl rfl ?_); first | refine QV QP ?_ | refine QV (rr_loadB (i := 13) TyC.ty rfl rfl rfl) ?_ | refine QV (rr_load1 TyC.ty rfl (at_blk (i := 6) rfl rfl)) ?_ | refine QV (rr_load1 TyC.ty rfl (at_blk (i := 7) rfl rfl)) ?_ | refine QV QL ?_ | refine QV QA ?_ | refine QV (rr_nilc rfl) ?_ | refine QV QeT ?_ | refine QV QeF ?_))
      refine TL_storeB (i := 5) (cs' := #[.bool false, .slice ba first1.length ca, vu2]) rfl rfl rfl rfl (by simp only [List.all_cons, List.all_nil, qv2]; rfl) rfl ?_
      conv => arg 8; simp only [zA, zB, zC, zD, zE, zF, zG, zH, zI, rowS, ret, id_eq]
      repeat (first
        | refine QV QP ?_ | refine QZ ?_ | refine qcT rfl ?_ | refine qcF rfl ?_ | refine qs rfl rfl rfl rfl rfl rfl ?_
        | ((try refine qg rfl rfl rfl ?_); first | refine QV QP ?_ | refine QV QL ?_ | refine QV QA ?_ | refine QV (rr_nilc rfl) ?_ | refine QV QeT ?_ | refine QV QeF ?_))
      refine E_retc1 (i := 5) rfl rfl rfl rfl fun w hm => ?_
      exact hm.meetsB (S := nodeSp g vf ve rule (⟨false, first1, uni last1 last2⟩, { p2 with follow := behindF p2.follow last1 first2 })) (⟨vc, vr, vfol, vl, vs', F'⟩, .slice ba first1.length ca, vu2) (by show vs'.length = (behindF p2.follow last1 first2).length; rw [behind_len]; exact hx3) [8, 0, 1, 9, 10, 2, 3, 14] (by decide) rfl
    | false =>
      repeat (first
        | refine QV QP ?_ | refine QZ ?_ | refine qcT rfl ?_ | refine qcF rfl ?_ | refine qs rfl rfl rfl rfl rfl rfl ?_
        | ((try refine qg rfl rfl rfl ?_); first | refine QV QP ?_ | refine QV (rr_load1 TyC.ty rfl (at_blk (i := 6) rfl rfl)) ?_ | refine QV (rr_load1 TyC.ty rfl (at_blk (i := 7) rfl rfl)) ?_ | refine QV (rr_build rfl (build_shpA _ _ _ _ _ _ _)) ?_ | refine QV QL ?_ | refine QV QA ?_ | refine QV (rr_nilc rfl) ?_ | refine QV QeT ?_ | refine QV QeF ?_))
      refine TL_new rfl fun g11 => ?_
      conv => arg 8; simp only [zA, zB, zC, zD, zE, zF, zG, zH, zI, rowS, ret, id_eq]
      refine TL_storeB (i := 13) (cs' := #[.bool false, .slice ba first1.length ca, .slice bb last2.length cb]) rfl rfl rfl rfl rfl rfl ?_
      conv => arg 8; simp only [zA, zB, zC, zD, zE, zF, zG, zH, zI, rowS, ret, id_eq]
      repeat (first
        | refine QV QP ?_ | refine QZ ?_ | refine qcT rfl ?_ | refine qcF rfl ?_ | refine qs rfl rfl rfl rfl rfl rfl ?_
        | ((try refine qg rfl rfl rfl ?_); first | refine QV QP ?_ | refine QV (rr_loadB (i := 13) TyC.ty rfl rfl rfl) ?_ | refine QV (rr_load1 TyC.ty rfl (at_blk (i := 6) rfl rfl)) ?_ | refine QV (rr_load1 TyC.ty rfl (at_blk (i := 7) rfl rfl)) ?_ | refine QV QL ?_ | refine QV QA ?_ | refine QV (rr_nilc rfl) ?_ | refine QV QeT ?_ | refine QV QeF ?_))
      refine TL_storeB (i := 5) (cs' := #[.bool false, .slice ba first1.length ca, .slice bb last2.length cb]) rfl rfl rfl rfl rfl rfl ?_
      conv => arg 8; simp only [zA, zB, zC, zD, zE, zF, zG, zH, zI, rowS, ret, id_eq]
      repeat (first
        | refine QV QP ?_ | refine QZ ?_ | refine qcT rfl ?_ | refine qcF rfl ?_ | refine qs rfl rfl rfl rfl rfl rfl ?_
        | ((try refine qg rfl rfl rfl ?_); first | refine QV QP ?_ | refine QV QL ?_ | refine QV QA ?_ | refine QV (rr_nilc rfl) ?_ | refine QV QeT ?_ | refine QV QeF ?_))
      refine E_retc1 (i := 5) rfl rfl rfl rfl fun w hm => ?_
      exact hm.meetsB (S := nodeSp g vf ve rule (⟨false, first1, last2⟩, { p2 with follow := behindF p2.follow last1 first2 })) (⟨vc, vr, vfol, vl, vs', F'⟩, .slice ba first1.length ca, .slice bb last2.length cb) (by show vs'.length = (behindF p2.follow last1 first2).length; rw [behind_len]; exact hx3) [8, 0, 1, 9, 10, 2, 3, 4] (by decide) rfl
end Go.Proofs.YtkcnoompimohnaaDoor.eng

/- PlD -/
namespace Go.Proofs.YtkcnoompimohnaaDoor.eng
open Go.RowKit kit mix classL rexL placesL
theorem node_at : ∀ M, NodeAt M
  | 0 => fun e h => by have := e.size_pos; omega
  | M + 1 => fun e h g vf ve rule p x v w B hp hx hn hr hv hm => by
    cases e with
    | none => exact node_none g vf ve rule p x v w B hx hv hm
    | empty => exact node_empty g vf ve rule p x v w B hx hv hm
    | byte c => exact node_byte c g vf ve rule p x v w B hp hx (by omega) hv hm
    | star a =>
      have h : a.size + 1 ≤ M + 1 := h
      exact node_star (node_at M) a (by omega) g vf ve rule p x v w B hp hx hn hr hv hm
    | alt a b =>
      have h : a.size + b.size + 1 ≤ M + 1 := h
      exact node_alt (node_at M) a b (by omega) (by omega) g vf ve rule p x v w B hp hx hn hr hv hm
    | cat a b =>
      have h : a.size + b.size + 1 ≤ M + 1 := h
      exact node_cat (node_at M) a b (by omega) (by omega) g vf ve rule p x v w B hp hx hn hr hv hm
end Go.Proofs.YtkcnoompimohnaaDoor.eng

/- App -/
namespace Go.Proofs.YtkcnoompimohnaaDoor.eng
open Go.RowKit kit mix
section
variable {P : Program} {n : Nat} {W : Base} {fr : Fr} {L : List Own} {Q : Exit → Act → World → Prop} {ops : Array Oper} {rest : List Oper} {d : Nat} {dst : Option Tmp} {ty : TypeId} {pos : String} {after : Array Edge} {guard : Option (Nat × Bool)}
/-! ### a slice that may be nil -/
def gA (G : Option Nat) : Option Addr := G.map fun g => ⟨g, 0, none⟩
theorem row_form {w : World} {e : TypeId} {size m : Nat} {v : Value} {xs : List Value} (h : (rowO e size v m xs).holds w) : ∃ G cap, v = .slice (gA G) m cap ∧ m ≤ cap ∧ cap ≤ maxLen ∧ (G = none → cap = 0) := by
  have h : w.ownsRow 0 e size v m xs := h
  rcases h.2 with ⟨hv, h0⟩ | ⟨g, cap, cur, hv, _, _, h1, h2, _⟩
  · exact ⟨none, 0, by rw [hv, h0]; rfl, by omega, by decide, fun _ => rfl⟩
  · exact ⟨some g, cap, hv, h1, h2, fun h => by cases h⟩
theorem T_rowG {c : Code} {i size m : Nat} {e : TypeId} {v : Value} {xs : List Value} (hi : L[i]? = some (rowO e size v m xs)) (h : ∀ G cap, v = .slice (gA G) m cap → m ≤ cap → cap ≤ 9223372036854775807 → (G = none → cap = 0) → T P n W c Q fr L) : T P n W c Q fr L := .mk fun a w hr hm => by
  obtain ⟨G, cap, h1, h2, h3, h4⟩ := row_form (hm.get hi)
  exact (h G cap h1 h2 h3 h4).go a w hr hm
theorem T_rowN {c : Code} {i size m : Nat} {e : TypeId} {v : Value} {xs : List Value} (hi : L[i]? = some (rowO e size v m xs)) (h0 : 0 < m) (h : ∀ g cap, v = .slice (some ⟨g, 0, none⟩) m cap → m ≤ cap → cap ≤ 9223372036854775807 → T P n W c Q fr L) : T P n W c Q fr L := by
  refine T_rowG hi fun G cap hv h1 h2 h3 => ?_
  cases G with
  | none => have := h3 rfl; omega
  | some g => exact h g cap hv h1 h2
end
end Go.Proofs.YtkcnoompimohnaaDoor.eng

/- RexC -/
namespace Go.Proofs.YtkcnoompimohnaaDoor.eng
open Go.RowKit kit mix classL rexL
theorem rkids_calls (k : Int) (w : World) : Calls Tryd.prog 45 #[.int .i64 k] w (Meets (ret (.int .i64 (kidsN k))) w) := by
  unfold kidsN
  refine enter (args := [.int .i64 k]) (n := 13) Tryd.func45 rfl rfl rfl ?_
  by_cases k1 : k = 1
  · rw [if_pos k1]
    repeat (first
      | refine QV QP ?_ | refine QZ ?_ | refine qcT rfl ?_ | refine qcF rfl ?_ | refine QV QeT ?_ | refine QV QeF ?_)
    exact E_ret1 rfl rfl fun w hm => hm.ret
  rw [if_neg k1]
  by_cases k2 : k = 2
  · rw [if_pos k2]
    repeat (first
      | refine QV QP ?_ | refine QZ ?_ | refine qcT rfl ?_ | refine qcF rfl ?_ | refine QV QeT ?_ | refine QV QeF ?_)
    exact E_ret1 rfl rfl fun w hm => hm.ret
  rw [if_neg k2]
  by_cases k3 : k = 3
  · rw [if_pos k3]
    repeat (first
      | refine QV QP ?_ | refine QZ ?_ | refine qcT rfl ?_ | refine qcF rfl ?_ | refine QV QeT ?_ | refine QV QeF ?_)
    exact E_ret1 rfl rfl fun w hm => hm.ret
  rw [if_neg k3]
  by_cases k6 : k = 6
  · rw [if_pos k6]
    repeat (first
      | refine QV QP ?_ | refine QZ ?_ | refine qcT rfl ?_ | refine qcF rfl ?_ | refine QV QeT ?_ | refine QV QeF ?_)
    exact E_ret1 rfl rfl fun w hm => hm.ret
  rw [if_neg k6]
  by_cases k4 : k = 4
  · rw [if_pos k4]
    repeat (first
      | refine QV QP ?_ | refine QZ ?_ | refine qcT rfl ?_ | refine qcF rfl ?_ | refine QV QeT ?_ | refine QV QeF ?_)
    exact E_ret1 rfl rfl fun w hm => hm.ret
  rw [if_neg k4]
  by_cases k5 : k = 5
  · rw [if_pos k5]
    repeat (first
      | refine QV QP ?_ | refine QZ ?_ | refine qcT rfl ?_ | refine qcF rfl ?_ | refine QV QeT ?_ | refine QV QeF ?_)
    exact E_ret1 rfl rfl fun w hm => hm.ret
  rw [if_neg k5]
  repeat (first
    | refine QV QP ?_ | refine QZ ?_ | refine qcT rfl ?_ | refine qcF rfl ?_ | refine QV QeT ?_ | refine QV QeF ?_)
  exact E_ret1 rfl rfl fun w hm => hm.ret
theorem chk_le {r : Rx} {deep n : Nat} (h : (chk r deep n).1 = 0) : (chk r deep n).2 ≤ 100 := by
  obtain ⟨e, _, h1, h2⟩ := chk_fit _ r deep n (chk r deep n).2 (Nat.le_refl _) (Prod.ext h rfl)
  have := h1.sz
  omega
theorem build_cz (w : World) : (Instr.build 31 (#[] : Array (Nat × Value))).run Tryd.prog w = .ok (clsV C4.zero) w := by kernel_rfl
theorem eqCls (x y : C4) (w : World) : (Op.equalIn 10000 31 (clsV x) (clsV y)).run Tryd.prog w = .ok (decide (x = y)) w := classSets.eq_cls x y w
theorem at_oldR {W0 : World} {W : Base} {L : List Own} {b off : Nat} {cs : List Value} (ho : Old W0 W) (h : Rd W0 b off cs) (j : Nat) (v : Value) (hj : cs[j]? = some v) : At W L ⟨b, off + j, none⟩ v := at_old0 ho (h j v hj)
theorem rex_cls {k : Int} {c : C4} {vk : Value} {j : Nat} {v : Value} (h : (clsL c)[j]? = some v) : (rexC k c vk).toArray[0 + 1 + j]? = some v := by
  have hj : j < (clsL c).length := (List.getElem?_eq_some_iff.1 h).1
  rw [List.getElem?_toArray, show 0 + 1 + j = j + 1 by omega]
  show (clsL c ++ [vk])[j]? = _
  rw [List.getElem?_append_left hj]; exact h
set_option maxRecDepth 100000 in
set_option maxHeartbeats 16000000 in
theorem check_calls (w0 : World) (gn : Nat) : ∀ (N : Nat) (r : Rx), sizeX r ≤ N → ∀ (v : Value) (deep n : Nat) (w : World) (B : Base), RexR (Low w0) w0 v r → n ≤ 100 → deep ≤ 31 → Old w0 B → Mem B [blkO gn #[.int .i64 (n : Int)] 3] w →
    Calls Tryd.prog 33 #[v, .int .i64 (deep : Int), .pointer (some ⟨gn, 0, none⟩)] w (MeetsB ⟨fun (_ : Unit) => True, fun _ => .int .i64 (chk r deep n).1, fun _ => [blkO gn #[.int .i64 ((chk r deep n).2 : Int)] 3]⟩ B)
  | 0, r, h, _, _, _, _, _, _, _, _, _, _ => by have := sizeX_pos r; omega
  | N + 1, .mk k c kids, hN, v, deep, n, w, B, hv, hn, hd, ho, hm => by
    have IH := check_calls w0 gn N
    obtain ⟨vk, rfl, hk64, hks⟩ := hv
    dsimp only [Rx.kind, Rx.cls, Rx.kids] at hk64 hks ⊢
    obtain ⟨bk, ck, rfl, hck, hmk, hrk⟩ := hks
    unfold maxLen at hmk
    rw [chk]
    rw [sizeX] at hN
    have hkc := fun w => rkids_calls k w
    have heq := eqCls c C4.zero
    have hcz := build_cz
    refine enterB hm (args := [rexV k c (.slice bk kids.length ck), .int .i64 (deep : Int), .pointer (some ⟨gn, 0, none⟩)]) (n := 55) Tryd.func33 rfl rfl rfl ?_
    clear hm
    refine T_seq (T_region (TL_box rfl rfl rfl fun g3 => ?_))
    conv => arg 8; simp only [zA, zB, zC, zD, zE, zF, zG, zH, zI, rowS, ret, id_eq]
    repeat (first
      | refine QV QP ?_ | refine QZ ?_ | refine qcT rfl ?_ | refine qcF rfl ?_ | refine E_blockX ?_ | refine E_blockO rfl ?_ | refine QV (rr_nilc rfl) ?_
      | refine QV (rr_load1 TyC.ty rfl (at_blk (i := 0) rfl rfl)) ?_
      | refine QV (rr_add64 (r := ((n + 1 : Nat) : Int)) rfl rfl (by omega) (by omega) (by omega)) ?_ | refine QV QL ?_ | refine QV QA ?_
      | refine QV (rr_nilc rfl) ?_ | refine QV QlT ?_ | refine QV QlF ?_ | refine QV QgT ?_ | refine QV QgF ?_ | refine QV QeT ?_ | refine QV QeF ?_
      | refine QV QnT ?_ | refine QV QnF ?_ | refine QV QaA ?_)
    refine TL_store1 (i := 0) rfl rfl rfl rfl rfl rfl ?_
    rw [show (#[.int .i64 (n : Int)] : Array Value).setIfInBounds 0 (.int .i64 ((n + 1 : Nat) : Int)) = #[.int .i64 ((n + 1 : Nat) : Int)] from rfl]
    conv => arg 8; simp only [zA, zB, zC, zD, zE, zF, zG, zH, zI, rowS, ret, id_eq]
    by_cases c1 : 100 < n + 1
    · rw [if_pos c1]
      repeat (first
        | refine QV QP ?_ | refine QZ ?_ | refine qcT rfl ?_ | refine qcF rfl ?_ | refine E_blockX ?_ | refine E_blockO rfl ?_ | refine QV (rr_nilc rfl) ?_
        | refine QV (rr_load1 TyC.ty rfl (at_blk (i := 0) rfl rfl)) ?_ | refine QV QL ?_ | refine QV QA ?_ | refine QV (rr_nilc rfl) ?_ | refine QV QlT ?_
        | refine QV QlF ?_ | refine QV QgT ?_ | refine QV QgF ?_ | refine QV QeT ?_ | refine QV QeF ?_ | refine QV QnT ?_ | refine QV QnF ?_ | refine QV QaA ?_)
      exact E_ret1 rfl rfl fun w hm => hm.meetsB (S := ⟨fun (_ : Unit) => True, fun _ => .int .i64 2, fun _ => [blkO gn #[.int .i64 ((n + 1 : Nat) : Int)] 3]⟩) () trivial [0] (by decide) rfl
    rw [if_neg c1]
    by_cases c2 : 30 < deep
    · rw [if_pos c2]
      repeat (first
        | refine QV QP ?_ | refine QZ ?_ | refine qcT rfl ?_ | refine qcF rfl ?_ | refine E_blockX ?_ | refine E_blockO rfl ?_ | refine QV (rr_nilc rfl) ?_
        | refine QV (rr_load1 TyC.ty rfl (at_blk (i := 0) rfl rfl)) ?_ | refine QV QL ?_ | refine QV QA ?_ | refine QV (rr_nilc rfl) ?_ | refine QV QlT ?_
        | refine QV QlF ?_ | refine QV QgT ?_ | refine QV QgF ?_ | refine QV QeT ?_ | refine QV QeF ?_ | refine QV QnT ?_ | refine QV QnF ?_ | refine QV QaA ?_)
      exact E_ret1 rfl rfl fun w hm => hm.meetsB (S := ⟨fun (_ : Unit) => True, fun _ => .int .i64 7, fun _ => [blkO gn #[.int .i64 ((n + 1 : Nat) : Int)] 3]⟩) () trivial [0] (by decide) rfl
    rw [if_neg c2]
    repeat (first
      | refine QV QP ?_ | refine QZ ?_ | refine qcT rfl ?_ | refine qcF rfl ?_ | refine E_blockX ?_ | refine E_blockO rfl ?_ | refine QV (rr_nilc rfl) ?_
      | refine QV (rr_load1 TyC.ty rfl (at_blk (i := 0) rfl rfl)) ?_ | refine QV QL ?_ | refine QV QA ?_ | refine QV (rr_nilc rfl) ?_ | refine QV QlT ?_
      | refine QV QlF ?_ | refine QV QgT ?_ | refine QV QgF ?_ | refine QV QeT ?_ | refine QV QeF ?_ | refine QV QnT ?_ | refine QV QnF ?_ | refine QV QaA ?_)
    by_cases c3 : kidsN k ≠ (kids.length : Int)
    · rw [if_pos c3]
      (repeat refine T_seq ?_)
      refine T_ord ([blkO g3 (rexC k c (.slice bk kids.length ck)).toArray 33]) (.calm 0 (.calm 1 (.calm 2 (.calm 3 (.calm 4 (.calm 5 (.calm 6 (.calm 7 (.done))))))))) (sub_pick [1] (by decide) rfl) (by kernel_rfl) (by kernel_rfl) (by intro c a d v w h; cases d <;> exact h) ?_
      repeat (first
        | ((first | refine TW_plain rfl rfl ?_ | refine TW_gmet rfl rfl rfl rfl ?_); first | refine QW QP ?_ | refine QW (rr_load1 TyC.ty rfl (at_blk (i := 0) rfl rfl)) ?_ | refine QW QL ?_ | refine QW QA ?_ | refine QW (rr_nilc rfl) ?_ | refine QW QlT ?_ | refine QW QlF ?_ | refine QW QgT ?_ | refine QW QgF ?_ | refine QW QeT ?_ | refine QW QeF ?_ | refine QW QnT ?_ | refine QW QnF ?_ | refine QW QaA ?_)
        | refine TW_done ?_)
      refine TW_call rfl (he1 EntersC.en rfl rfl) (fun w hm => hkc _) rfl rfl rfl ?_
      repeat (first
        | ((first | refine TW_plain rfl rfl ?_ | refine TW_gmet rfl rfl rfl rfl ?_); first | refine QW QP ?_ | refine QW (rr_load1 TyC.ty rfl (at_blk (i := 0) rfl rfl)) ?_ | refine QW (rr_neq (b := true) rfl rfl (decide_eq_true c3)) ?_ | refine QW QL ?_ | refine QW QA ?_ | refine QW (rr_nilc rfl) ?_ | refine QW QlT ?_ | refine QW QlF ?_ | refine QW QgT ?_ | refine QW QgF ?_ | refine QW QeT ?_ | refine QW QeF ?_ | refine QW QnT ?_ | refine QW QnF ?_ | refine QW QaA ?_)
        | refine TW_done ?_)
      repeat (first
        | refine QV QP ?_ | refine QZ ?_ | refine qcT rfl ?_ | refine qcF rfl ?_ | refine E_blockX ?_ | refine E_blockO rfl ?_ | refine QV QL ?_
        | refine QV QA ?_ | refine QV (rr_nilc rfl) ?_ | refine QV QlT ?_ | refine QV QlF ?_ | refine QV QgT ?_ | refine QV QgF ?_ | refine QV QeT ?_
        | refine QV QeF ?_ | refine QV QnT ?_ | refine QV QnF ?_ | refine QV QaA ?_)
      exact E_ret1 rfl rfl fun w hm => hm.meetsB (S := ⟨fun (_ : Unit) => True, fun _ => .int .i64 1, fun _ => [blkO gn #[.int .i64 ((n + 1 : Nat) : Int)] 3]⟩) () trivial [0] (by decide) rfl
    rw [if_neg c3]
    have c3' : kidsN k = (kids.length : Int) := by simpa using c3
    rw [c3'] at hkc
    (repeat refine T_seq ?_)
    refine T_ord ([blkO g3 (rexC k c (.slice bk kids.length ck)).toArray 33]) (.calm 0 (.calm 1 (.calm 2 (.calm 3 (.calm 4 (.calm 5 (.calm 6 (.calm 7 (.done))))))))) (sub_pick [1] (by decide) rfl) (by kernel_rfl) (by kernel_rfl) (by intro c a d v w h; cases d <;> exact h) ?_
    repeat (first
      | ((first | refine TW_plain rfl rfl ?_ | refine TW_gmet rfl rfl rfl rfl ?_); first | refine QW QP ?_ | refine QW (rr_load1 TyC.ty rfl (at_blk (i := 0) rfl rfl)) ?_ | refine QW QL ?_ | refine QW QA ?_ | refine QW (rr_nilc rfl) ?_ | refine QW QlT ?_ | refine QW QlF ?_ | refine QW QgT ?_ | refine QW QgF ?_ | refine QW QeT ?_ | refine QW QeF ?_ | refine QW QnT ?_ | refine QW QnF ?_ | refine QW QaA ?_)
      | refine TW_done ?_)
    refine TW_call rfl (he1 EntersC.en rfl rfl) (fun w hm => hkc _) rfl rfl rfl ?_
    repeat (first
      | ((first | refine TW_plain rfl rfl ?_ | refine TW_gmet rfl rfl rfl rfl ?_); first | refine QW QP ?_ | refine QW (rr_load1 TyC.ty rfl (at_blk (i := 0) rfl rfl)) ?_ | refine QW (rr_neq (b := false) rfl rfl (decide_eq_false (fun h => h rfl))) ?_ | refine QW QL ?_ | refine QW QA ?_ | refine QW (rr_nilc rfl) ?_ | refine QW QlT ?_ | refine QW QlF ?_ | refine QW QgT ?_ | refine QW QgF ?_ | refine QW QeT ?_ | refine QW QeF ?_ | refine QW QnT ?_ | refine QW QnF ?_ | refine QW QaA ?_)
      | refine TW_done ?_)
    repeat (first
      | refine QV QP ?_ | refine QZ ?_ | refine qcT rfl ?_ | refine qcF rfl ?_ | refine E_blockX ?_ | refine E_blockO rfl ?_ | refine QV QL ?_
      | refine QV QA ?_ | refine QV (rr_nilc rfl) ?_ | refine QV QlT ?_ | refine QV QlF ?_ | refine QV QgT ?_ | refine QV QgF ?_ | refine QV QeT ?_
      | refine QV QeF ?_ | refine QV QnT ?_ | refine QV QnF ?_ | refine QV QaA ?_)
    generalize hD : (decide (k = 3) != decide (c ≠ C4.zero)) = D
    have hD' : (!(decide (k = 3) == !decide (c = C4.zero))) = D := by
      rw [← hD, decide_not]
      cases decide (k = 3) <;> cases decide (c = C4.zero) <;> rfl
    (repeat refine T_seq ?_)
    refine T_ord ([blkO g3 (rexC k c (.slice bk kids.length ck)).toArray 33]) (.calm 0 (.calm 1 (.calm 2 (.calm 3 (.calm 4 (.calm 5 (.calm 6 (.calm 7 (.calm 8 (.done)))))))))) (sub_pick [1] (by decide) rfl) (by kernel_rfl) (by kernel_rfl) (by intro c a d v w h; cases d <;> exact h) ?_
    repeat (first
      | ((first | refine TW_plain rfl rfl ?_ | refine TW_gmet rfl rfl rfl rfl ?_); first | refine QW QP ?_ | refine QW (rr_load1 TyC.ty rfl (at_blk (i := 0) rfl rfl)) ?_ | refine QW (rr_eql (b := decide (k = 3)) rfl rfl rfl) ?_ | refine QW (rr_loadN (cs := clsL c) TyC.ty rfl rfl (fun j v hj => at_blk (i := 0) rfl (rex_cls hj))) ?_ | refine QW (rr_build rfl hcz) ?_ | refine QW (rr_aggne rfl rfl (by kernel_rfl) heq rfl) ?_ | refine QW (rr_boolne (c := D) Und.eq rfl rfl hD') ?_ | refine QW QL ?_ | refine QW QA ?_ | refine QW (rr_nilc rfl) ?_ | refine QW QlT ?_ | refine QW QlF ?_ | refine QW QgT ?_ | refine QW QgF ?_ | refine QW QeT ?_ | refine QW QeF ?_ | refine QW QnT ?_ | refine QW QnF ?_ | refine QW QaA ?_)
      | refine TW_done ?_)
    clear hD hD' heq hcz hkc
    cases D with
    | true =>
      rw [if_pos rfl]
      repeat (first
        | refine QV QP ?_ | refine QZ ?_ | refine qcT rfl ?_ | refine qcF rfl ?_ | refine E_blockX ?_ | refine E_blockO rfl ?_ | refine QV QL ?_
        | refine QV QA ?_ | refine QV (rr_nilc rfl) ?_ | refine QV QlT ?_ | refine QV QlF ?_ | refine QV QgT ?_ | refine QV QgF ?_ | refine QV QeT ?_
        | refine QV QeF ?_ | refine QV QnT ?_ | refine QV QnF ?_ | refine QV QaA ?_)
      exact E_ret1 rfl rfl fun w hm => hm.meetsB (S := ⟨fun (_ : Unit) => True, fun _ => .int .i64 1, fun _ => [blkO gn #[.int .i64 ((n + 1 : Nat) : Int)] 3]⟩) () trivial [0] (by decide) rfl
    | false =>
      rw [if_neg (by decide)]
      repeat (first
        | refine QV QP ?_ | refine QZ ?_ | refine qcT rfl ?_ | refine qcF rfl ?_ | refine E_blockX ?_ | refine E_blockO rfl ?_
        | refine QV (rr_load1 TyC.ty rfl (at_blk (i := 1) rfl rfl)) ?_ | refine QV QL ?_ | refine QV QA ?_ | refine QV (rr_nilc rfl) ?_ | refine QV QlT ?_
        | refine QV QlF ?_ | refine QV QgT ?_ | refine QV QgF ?_ | refine QV QeT ?_ | refine QV QeF ?_ | refine QV QnT ?_ | refine QV QnF ?_ | refine QV QaA ?_)
      refine T_pick [0] (by decide) rfl ?_
      refine T_loop (ι := Nat × Nat) (fun (j, q) => j ≤ kids.length ∧ q ≤ 100 ∧ chks kids (deep + 1) (n + 1) = chks (kids.drop j) (deep + 1) q) (fun (j, _) => [(1, .int .i64 (deep : Int)), (2, .pointer (some ⟨gn, 0, none⟩)), (40, .slice bk kids.length ck), (41, .int .i64 (kids.length : Int)), (42, .int .i64 (j : Int))])
        (fun (_, q) => [blkO gn #[.int .i64 (q : Int)] 3]) (fun (j, _) => kids.length - j) (0, n + 1) ⟨Nat.zero_le _, by omega, rfl⟩ (by repeat' (first | exact True.intro | refine And.intro rfl ?_)) rfl ?_
      rintro ⟨j, q⟩ ⟨hj, hq, hk⟩
      dsimp only at hj hq hk ⊢
      rw [hk]
      by_cases c4 : j < kids.length
      · obtain ⟨b, off, rfl, _, hr⟩ := hrk (by omega)
        obtain ⟨bj, cj, hrd, hkr⟩ := rkid_at hr c4
        have hd' : kids.drop j = kids[j] :: kids.drop (j + 1) := List.drop_eq_getElem_cons c4
        rw [hd', chks] at hk ⊢
        have hsz := sizesX_mem (List.getElem_mem c4)
        have hle := fun h => chk_le (r := kids[j]'c4) (deep := deep + 1) (n := q) h
        have hat := fun (L : List Own) j v hj => at_oldR (L := L) ho hrd j v hj
        generalize kids[j] = r at *
        generalize r.kids.length = m at *
        repeat (first
          | refine QV QP ?_ | refine QZ ?_ | refine qcT rfl ?_ | refine qcF rfl ?_ | refine E_blockX ?_ | refine E_blockO rfl ?_
          | refine QV (rr_idxc (j := j) Und.eq TyC.ty rfl rfl c4) ?_ | refine QV (rr_loadN TyC.ty rfl rfl (hat _)) ?_ | refine QV QL ?_ | refine QV QA ?_
          | refine QV (rr_nilc rfl) ?_ | refine QV QlT ?_ | refine QV QlF ?_ | refine QV QgT ?_ | refine QV QgF ?_ | refine QV QeT ?_ | refine QV QeF ?_
          | refine QV QnT ?_ | refine QV QnF ?_ | refine QV QaA ?_)
        refine TL_new rfl fun g8 => ?_
        conv => arg 8; simp only [zA, zB, zC, zD, zE, zF, zG, zH, zI, rowS, ret, id_eq]
        refine TL_storeB (i := 1) (cs' := (rexC r.kind r.cls (.slice bj m cj)).toArray) rfl rfl rfl rfl rfl rfl ?_
        conv => arg 8; simp only [zA, zB, zC, zD, zE, zF, zG, zH, zI, rowS, ret, id_eq]
        repeat (first
          | refine QV QP ?_ | refine QZ ?_ | refine qcT rfl ?_ | refine qcF rfl ?_ | refine E_blockX ?_ | refine E_blockO rfl ?_
          | refine QV (rr_loadB (i := 1) TyC.ty rfl rfl rfl) ?_ | refine QV (rr_add64 (r := ((deep + 1 : Nat) : Int)) rfl rfl (by omega) (by omega) (by omega)) ?_
          | refine QV QL ?_ | refine QV QA ?_ | refine QV (rr_nilc rfl) ?_ | refine QV QlT ?_ | refine QV QlF ?_ | refine QV QgT ?_ | refine QV QgF ?_
          | refine QV QeT ?_ | refine QV QeF ?_ | refine QV QnT ?_ | refine QV QnF ?_ | refine QV QaA ?_)
        refine TL_callB [0] [1] (by decide) rfl rfl (he3 EntersC.en rfl rfl rfl rfl) (fun w hm hb => IH r (by omega) _ (deep + 1) q w _ hkr hq (by omega) (ho.on hm (by intro o ho; simp at ho ⊢; simp [ho])) hb) rfl rfl rfl ?_
        intro _ _
        dsimp only
        conv => arg 8; simp only [zA, zB, zC, zD, zE, zF, zG, zH, zI, rowS, ret, id_eq]
        by_cases e1 : (chk r (deep + 1) q).1 = 0
        · rw [if_neg (by simpa using e1)]
          rw [if_neg (by simpa using e1)] at hk
          have hq' := hle e1
          rw [e1]
          generalize (chk r (deep + 1) q).2 = q' at *
          repeat (first
            | refine QV QP ?_ | refine QZ ?_ | refine qcT rfl ?_ | refine qcF rfl ?_ | refine E_blockX ?_ | refine E_blockO rfl ?_ | refine QV QL ?_
            | refine QV QA ?_ | refine QV (rr_nilc rfl) ?_ | refine QV QlT ?_ | refine QV QlF ?_ | refine QV QgT ?_ | refine QV QgF ?_ | refine QV QeT ?_
            | refine QV QeF ?_ | refine QV QnT ?_ | refine QV QnF ?_ | refine QV QaA ?_)
          refine E_pick [1] (by decide) rfl ?_
          exact E_round (j + 1, q') ⟨by show j + 1 ≤ kids.length; omega, hq', rfl⟩ (by show kids.length - (j + 1) < kids.length - j; omega) (by repeat' (first | exact True.intro | refine And.intro rfl ?_)) rfl
        · rw [if_pos e1]
          generalize chk r (deep + 1) q = z at *
          repeat (first
            | refine QV QP ?_ | refine QZ ?_ | refine qcT rfl ?_ | refine qcF rfl ?_ | refine E_blockX ?_ | refine E_blockO rfl ?_
            | refine QV (rr_neq (b := true) rfl rfl (decide_eq_true e1)) ?_ | refine QV QL ?_ | refine QV QA ?_ | refine QV (rr_nilc rfl) ?_ | refine QV QlT ?_
            | refine QV QlF ?_ | refine QV QgT ?_ | refine QV QgF ?_ | refine QV QeT ?_ | refine QV QeF ?_ | refine QV QnT ?_ | refine QV QnF ?_ | refine QV QaA ?_)
          exact E_ret1 rfl rfl fun w hm => hm.meetsB (S := ⟨fun (_ : Unit) => True, fun _ => .int .i64 z.1, fun _ => [blkO gn #[.int .i64 (z.2 : Int)] 3]⟩) () trivial [1] (by decide) rfl
      · obtain rfl : j = kids.length := by omega
        rw [List.drop_length, chks] at hk ⊢
        repeat (first
          | refine QV QP ?_ | refine QZ ?_ | refine qcT rfl ?_ | refine qcF rfl ?_ | refine E_blockX ?_ | refine E_blockO rfl ?_ | refine QV QL ?_
          | refine QV QA ?_ | refine QV (rr_nilc rfl) ?_ | refine QV QlT ?_ | refine QV QlF ?_ | refine QV QgT ?_ | refine QV QgF ?_ | refine QV QeT ?_
          | refine QV QeF ?_ | refine QV QnT ?_ | refine QV QnF ?_ | refine QV QaA ?_)
        exact E_ret1 rfl rfl fun w hm => hm.meetsB (S := ⟨fun (_ : Unit) => True, fun _ => .int .i64 0, fun _ => [blkO gn #[.int .i64 (q : Int)] 3]⟩) () trivial [0] (by decide) rfl
/-- what Check says -/
def chkX (r : Rx) : Int := (chk r 1 0).1
set_option maxHeartbeats 4000000 in
theorem rexCheck_calls (v : Value) (r : Rx) (w : World) (hv : RexR (Low w) w v r) : Calls Tryd.prog 26 #[v] w (Meets (ret (.int .i64 (chkX r))) w) := by
  have hc := fun gn w' B ho hm => check_calls w gn _ r (Nat.le_refl _) v 1 0 w' B hv (by omega) (by omega) ho hm
  obtain ⟨vk, rfl, _, hs⟩ := hv
  obtain ⟨bk, ck, rfl, -⟩ := hs
  generalize r.kids.length = m at *
  refine enter (args := [rexV r.kind r.cls (.slice bk m ck)]) (n := 6) Tryd.func26 rfl rfl rfl ?_
  refine T_seq (T_region (TL_box rfl rfl rfl fun g1 => ?_))
  repeat (first
    | refine QV QP ?_ | refine QZ ?_)
  refine TL_new rfl fun g3 => ?_
  conv => arg 8; simp only [zA, zB, zC, zD, zE, zF, zG, zH, zI, rowS, ret, id_eq]
  refine TL_store1 (i := 1) rfl rfl rfl rfl rfl rfl ?_
  conv => arg 8; simp only [zA, zB, zC, zD, zE, zF, zG, zH, zI, rowS, ret, id_eq]
  repeat (first
    | refine QV QP ?_ | refine QZ ?_ | refine QV (rr_loadB (i := 0) TyC.ty rfl rfl rfl) ?_)
  refine TL_callB [1] [0] (by decide) rfl rfl (he3 EntersC.en rfl rfl rfl rfl) (fun w hm hb => hc g3 w _ ((Old.self _).on hm (by intro o ho; simp at ho ⊢; simp [ho])) hb) rfl rfl rfl ?_
  intro _ _
  dsimp only
  unfold chkX
  repeat (first
    | refine QV QP ?_ | refine QZ ?_)
  exact E_ret1 rfl rfl fun w hm => hm.ret
end Go.Proofs.YtkcnoompimohnaaDoor.eng


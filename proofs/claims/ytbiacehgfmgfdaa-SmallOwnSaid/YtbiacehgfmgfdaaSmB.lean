/- Blocks of an automaton's states: what small.blocks computes, and what it means; no program in sight. -/
import Derived.Test.YtbiacehgfmgfdaaSmL
namespace Go.Proofs.Ytbiacehgfmgfdaa.smallL
/-- an automaton -/
structure Aut where
  n : Nat
  d : Nat → Nat → Int
  tag : Nat → Int
structure Aut.Ok (A : Aut) : Prop where
  pos : 0 < A.n
  le : A.n ≤ 200
  step : ∀ i, i < A.n → ∀ b, b < 256 → -1 ≤ A.d i b ∧ A.d i b < A.n
  tags : ∀ i, i < A.n → -1 ≤ A.tag i ∧ A.tag i < 20
abbrev Row := Vector Int 256
abbrev Kind := Int × Row
section
variable (A : Aut)
def val (now : Nat → Nat) (q : Int) : Nat := if q < 0 then 0 else now q.toNat
def kind (now : Nat → Nat) (i : Nat) : Kind := ((now i : Int), Vector.ofFn fun b : Fin 256 => (val now (A.d i b) : Int))
def dead : Kind := (0, Vector.replicate 256 0)
def kinds (now : Nat → Nat) : List Kind := (List.range A.n).map (kind A now)
def tab (now : Nat → Nat) : List Kind := firsts [dead] (kinds A now)
def next (now : Nat → Nat) (i : Nat) : Nat := idx (tab A now) (kind A now i)
def blkGo : Nat → Nat → (Nat → Nat) → Nat → Nat
  | 0, _, now => now
  | f + 1, n, now => if (tab A now).length = n then next A now else blkGo f (tab A now).length (next A now)
def now0 (i : Nat) : Nat := (A.tag i + 1).toNat
def blocksF : Nat → Nat := blkGo A (A.n + 2) 0 (now0 A)
def tg (q : Int) : Int := if q < 0 then -1 else A.tag q.toNat
def dt (q : Int) (b : Nat) : Int := if q < 0 then -1 else A.d q.toNat b
def go : Int → List UInt8 → Int
  | q, [] => q
  | q, b :: s => go (dt A q b.toNat) s
/-- a state, or nowhere -/
def St (q : Int) : Prop := -1 ≤ q ∧ q < A.n
def same (q r : Int) : Prop := ∀ s, tg A (go A q s) = tg A (go A r s)
def kd (now : Nat → Nat) (q : Int) : Kind := if q < 0 then dead else kind A now q.toNat
end
section
variable {A : Aut}
theorem st_dt (hA : A.Ok) {q : Int} (hq : St A q) {b : Nat} (hb : b < 256) : St A (dt A q b) := by
  unfold St dt at *
  have := hA.pos
  split
  · omega
  · exact hA.step q.toNat (by omega) b hb
theorem st_go (hA : A.Ok) : ∀ (s : List UInt8) (q : Int), St A q → St A (go A q s)
  | [], _, h => h
  | b :: s, _, h => st_go hA s _ (st_dt hA h b.toNat_lt)
theorem go_neg : ∀ (s : List UInt8) {q : Int}, q < 0 → go A q s < 0
  | [], _, h => h
  | b :: s, q, h => go_neg s (by unfold dt; rw [if_pos h]; decide)
theorem same_step {q r : Int} (h : same A q r) (b : Nat) (hb : b < 256) : same A (dt A q b) (dt A r b) := fun s => by
  have := h (UInt8.ofNat b :: s)
  have e : (UInt8.ofNat b).toNat = b := by simp; omega
  simp only [go, e] at this
  exact this
theorem val_kd (now : Nat → Nat) (q : Int) : (kd A now q).1 = (val now q : Int) := by
  unfold kd val dead kind; split <;> rfl
theorem kd_row (now : Nat → Nat) (q : Int) (b : Nat) (hb : b < 256) : (kd A now q).2[b] = (val now (dt A q b) : Int) := by
  unfold kd dt dead kind
  split
  · simp [val]
  · simp
theorem kd_eq {now : Nat → Nat} {q r : Int} : kd A now q = kd A now r ↔ val now q = val now r ∧ ∀ b, b < 256 → val now (dt A q b) = val now (dt A r b) := by
  constructor
  · intro h
    refine ⟨?_, fun b hb => ?_⟩
    · have e : (kd A now q).1 = (kd A now r).1 := by rw [h]
      rw [val_kd, val_kd] at e; exact Int.ofNat.inj e
    · have e : (kd A now q).2[b] = (kd A now r).2[b] := by rw [h]
      rw [kd_row _ _ _ hb, kd_row _ _ _ hb] at e; exact Int.ofNat.inj e
  · rintro ⟨h1, h2⟩
    refine Prod.ext ?_ (Vector.ext fun b hb => ?_)
    · rw [val_kd, val_kd, h1]
    · rw [kd_row _ _ _ hb, kd_row _ _ _ hb, h2 b hb]
theorem dead_tab (now : Nat → Nat) : dead ∈ tab A now := mem_firsts.2 (.inl (by simp))
theorem kind_tab {now : Nat → Nat} {i : Nat} (h : i < A.n) : kind A now i ∈ tab A now := mem_firsts.2 (.inr (List.mem_map.2 ⟨i, List.mem_range.2 h, rfl⟩))
theorem kd_tab {now : Nat → Nat} {q : Int} (h : q < A.n) : kd A now q ∈ tab A now := by
  unfold kd; split
  · exact dead_tab now
  · exact kind_tab (by omega)
theorem tab_nodup (now : Nat → Nat) : (tab A now).Nodup := firsts_nodup _ _ (by simp)
theorem tab_le (now : Nat → Nat) : (tab A now).length ≤ A.n + 1 := by
  have h : ∀ (l D : List Kind), (firsts D l).length ≤ D.length + l.length := by
    intro l
    induction l with
    | nil => intro D; simp [firsts]
    | cons k l ih =>
      intro D
      have := ih (more D k)
      have h2 : (more D k).length ≤ D.length + 1 := by unfold more; split <;> simp
      show (firsts (more D k) l).length ≤ _
      simp; omega
  have := h (kinds A now) [dead]
  unfold tab
  simp [kinds] at this ⊢
  omega
theorem tab_pos (now : Nat → Nat) : 0 < (tab A now).length := List.length_pos_of_mem (dead_tab now)
/-- next, seen on all states and nowhere -/
theorem val_next (now : Nat → Nat) {q : Int} : val (next A now) q = idx (tab A now) (kd A now q) := by
  unfold val kd
  split
  · obtain ⟨E, h⟩ := firsts_pre (kinds A now) [dead]
    rw [tab, h]
    exact (idx_head dead E).symm
  · rfl
theorem val_next_lt {now : Nat → Nat} {q : Int} (h : q < A.n) : val (next A now) q < (tab A now).length := by
  rw [val_next]; exact idx_lt (kd_tab h)
theorem next_eq {now : Nat → Nat} {q r : Int} (hq : q < A.n) : val (next A now) q = val (next A now) r ↔ kd A now q = kd A now r := by
  rw [val_next, val_next]
  exact ⟨fun h => idx_inj (kd_tab hq) h, fun h => by rw [h]⟩
theorem next_finer {now : Nat → Nat} {q r : Int} (hq : q < A.n) (h : val (next A now) q = val (next A now) r) : val now q = val now r := (kd_eq.1 ((next_eq hq).1 h)).1
theorem next_all {now : Nat → Nat} {v : Nat} (h : v < (tab A now).length) : ∃ q : Int, St A q ∧ val (next A now) q = v := by
  have hm : (tab A now)[v] ∈ tab A now := List.getElem_mem h
  have hi : idx (tab A now) (tab A now)[v] = v := idx_of_get (tab_nodup now) h
  rcases mem_firsts.1 hm with hd | hk
  · refine ⟨-1, ⟨by omega, by omega⟩, ?_⟩
    rw [val_next, show kd A now (-1) = dead from rfl, ← List.mem_singleton.1 hd]; exact hi
  · obtain ⟨i, h1, h2⟩ := List.mem_map.1 hk
    rw [List.mem_range] at h1
    refine ⟨i, ⟨by omega, by omega⟩, ?_⟩
    have e : kd A now (i : Int) = kind A now i := by unfold kd; rw [if_neg (by omega), Int.toNat_natCast]
    rw [val_next, e, h2]; exact hi
/-- behind a round -/
def Round (A : Aut) (n : Nat) (now : Nat → Nat) : Prop := ∃ was, now = next A was ∧ n = (tab A was).length
def stOf (A : Aut) (x : Nat) : Int := if x < A.n then (x : Int) else -1
theorem of_st {q : Int} (h : St A q) : ∃ x, x < A.n + 1 ∧ stOf A x = q := by
  unfold St at h
  by_cases c : q < 0
  · exact ⟨A.n, by omega, by unfold stOf; rw [if_neg (by omega)]; omega⟩
  · exact ⟨q.toNat, by omega, by unfold stOf; rw [if_pos (by omega)]; omega⟩
theorem stOf_lt (x : Nat) : stOf A x < A.n := by unfold stOf; split <;> omega
theorem round_mono {n : Nat} {now : Nat → Nat} (h : Round A n now) : n ≤ (tab A now).length ∧ ((tab A now).length = n → ∀ q r, St A q → St A r → val now q = val now r → val (next A now) q = val (next A now) r) := by
  obtain ⟨was, rfl, rfl⟩ := h
  have h := finer_same (N := A.n + 1) (f := fun x => val (next A was) (stOf A x)) (g := fun x => val (next A (next A was)) (stOf A x)) (n := (tab A was).length) (c := (tab A (next A was)).length)
    (fun v hv => by
      obtain ⟨q, hq, e⟩ := next_all hv
      obtain ⟨x, hx, e2⟩ := of_st hq
      exact ⟨x, hx, by show val (next A was) (stOf A x) = v; rw [e2]; exact e⟩)
    (fun x _ => val_next_lt (stOf_lt x)) (fun x y _ _ e => next_finer (stOf_lt x) e)
  refine ⟨h.1, fun hc q r hq hr e => ?_⟩
  obtain ⟨x, hx, rfl⟩ := of_st hq
  obtain ⟨y, hy, rfl⟩ := of_st hr
  exact h.2 hc (fun x _ => val_next_lt (stOf_lt x)) x y hx hy e
/-- what holds of each numbering on the way: it tells tags apart, and no two states that are the same -/
structure Way (A : Aut) (now : Nat → Nat) : Prop where
  tags : ∀ q r, St A q → St A r → val now q = val now r → tg A q = tg A r
  coarse : ∀ q r, St A q → St A r → same A q r → val now q = val now r
theorem way0 (hA : A.Ok) : Way A (now0 A) where
  tags q r hq hr h := by
    unfold St at hq hr
    unfold val now0 at h
    unfold tg
    have h1 := fun c => hA.tags q.toNat (c : q.toNat < A.n)
    have h2 := fun c => hA.tags r.toNat (c : r.toNat < A.n)
    by_cases c1 : q < 0 <;> by_cases c2 : r < 0 <;> simp only [c1, c2, if_true, if_false] at h ⊢
    · have := h2 (by omega); omega
    · have := h1 (by omega); omega
    · have := h1 (by omega); have := h2 (by omega); omega
  coarse q r hq hr h := by
    have := h []
    simp only [go] at this
    unfold tg at this
    unfold val now0
    by_cases c1 : q < 0 <;> by_cases c2 : r < 0 <;> simp only [c1, c2, if_true, if_false] at this ⊢ <;> omega
theorem way_next (hA : A.Ok) {now : Nat → Nat} (h : Way A now) : Way A (next A now) where
  tags q r hq hr e := h.tags q r hq hr (next_finer hq.2 e)
  coarse q r hq hr e := (next_eq hq.2).2 (kd_eq.2 ⟨h.coarse q r hq hr e, fun b hb => h.coarse _ _ (st_dt hA hq hb) (st_dt hA hr hb) (same_step e b hb)⟩)
/-- what blocks are -/
structure Blocks (A : Aut) (bl : Nat → Nat) : Prop where
  le : ∀ i, i < A.n → bl i ≤ A.n
  tags : ∀ q r, St A q → St A r → val bl q = val bl r → tg A q = tg A r
  step : ∀ q r, St A q → St A r → val bl q = val bl r → ∀ b, b < 256 → val bl (dt A q b) = val bl (dt A r b)
  coarse : ∀ q r, St A q → St A r → same A q r → val bl q = val bl r
theorem blocks_end (hA : A.Ok) {n : Nat} {now : Nat → Nat} (hr : Round A n now) (hw : Way A now) (hc : (tab A now).length = n) : Blocks A (next A now) where
  le i hi := by
    have := val_next_lt (A := A) (now := now) (q := (i : Int)) (by omega)
    have h2 := tab_le (A := A) now
    unfold val at this
    rw [if_neg (by omega), Int.toNat_natCast] at this
    omega
  tags := (way_next hA hw).tags
  coarse := (way_next hA hw).coarse
  step q r hq hr' e b hb := (round_mono hr).2 hc _ _ (st_dt hA hq hb) (st_dt hA hr' hb) ((kd_eq.1 ((next_eq hq.2).1 e)).2 b hb)
theorem blk_go (hA : A.Ok) : ∀ (f n : Nat) (now : Nat → Nat), (n = 0 ∨ Round A n now) → n ≤ A.n + 1 → A.n + 2 ≤ f + n → Way A now → Blocks A (blkGo A f n now)
  | 0, n, now, _, h1, h2, _ => by omega
  | f + 1, n, now, hr, h1, h2, hw => by
    unfold blkGo
    have hp := tab_pos (A := A) now
    split
    · rename_i hc
      rcases hr with rfl | hr
      · omega
      · exact blocks_end hA hr hw hc
    · rename_i hc
      refine blk_go hA f _ _ (.inr ⟨now, rfl, rfl⟩) (tab_le now) ?_ (way_next hA hw)
      rcases hr with rfl | hr
      · omega
      · have := (round_mono hr).1; omega
theorem blocks_of (hA : A.Ok) : Blocks A (blocksF A) := blk_go hA _ _ _ (.inl rfl) (Nat.zero_le _) (by omega) (way0 hA)
/-- blocks are what the states tell of texts -/
theorem Blocks.same (hA : A.Ok) {bl : Nat → Nat} (h : Blocks A bl) {q r : Int} (hq : St A q) (hr : St A r) : val bl q = val bl r ↔ same A q r := by
  refine ⟨fun e s => ?_, h.coarse q r hq hr⟩
  induction s generalizing q r with
  | nil => exact h.tags q r hq hr e
  | cons b s ih => exact ih (st_dt hA hq b.toNat_lt) (st_dt hA hr b.toNat_lt) (h.step q r hq hr e _ b.toNat_lt)
end
end Go.Proofs.Ytbiacehgfmgfdaa.smallL

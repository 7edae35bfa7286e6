/- A walk in terms of what is known: a frame as a list of slots, memory as a list of what the call owns. No program in sight. -/
import Derived.Test.YtbgamboahifnoaaKit
import Derived.Test.YtbgamboahifnoaaMix
namespace Go.Proofs.Ytbgamboahifnoaa.eng
open Go.RowKit kit mix

/-! ### slots -/
abbrev Fr := List (Nat × Value)
def look : Fr → Nat → Option Value
  | [], _ => none
  | (k, v) :: r, i => bif Nat.beq k i then some v else look r i
/-- what is known of the slots -/
structure Rep (n : Nat) (a : Act) (fr : Fr) : Prop where
  size : a.tmps.size = n
  defers : a.defers = []
  get : ∀ i v, look fr i = some v → a.tmps[i]? = some v
theorem Rep.put {n : Nat} {a : Act} {fr : Fr} (h : Rep n a fr) {d : Nat} (hd : Nat.blt d n = true) (v : Value) : Rep n (a.put (some d) v) ((d, v) :: fr) := by
  have hd' : d < n := Nat.le_of_ble_eq_true hd
  refine ⟨by simp [Act.put, h.size], h.defers, fun i u hi => ?_⟩
  unfold look at hi
  simp only [Act.put]
  cases e : Nat.beq d i
  · rw [e] at hi
    rw [Array.getElem?_setIfInBounds_ne (Nat.ne_of_beq_eq_false e)]
    exact h.get i u hi
  · rw [e] at hi
    obtain rfl : d = i := Nat.eq_of_beq_eq_true e
    simp only [cond_true, Option.some.injEq] at hi
    subst hi
    rw [Array.getElem?_setIfInBounds_self_of_lt (by rw [h.size]; exact hd')]
theorem Rep.put_none {n : Nat} {a : Act} {fr : Fr} (h : Rep n a fr) (v : Value) : Rep n (a.put none v) fr := h
/-- a frame that knows no more -/
def Subs : Fr → Fr → Prop
  | [], _ => True
  | (i, v) :: r, fr => look fr i = some v ∧ Subs r fr
theorem subs_get {fr' fr : Fr} (h : Subs fr' fr) {i : Nat} {v : Value} (hl : look fr' i = some v) : look fr i = some v := by
  induction fr' with
  | nil => cases hl
  | cons x r ih =>
    obtain ⟨k, u⟩ := x
    unfold look at hl
    cases e : Nat.beq k i
    · rw [e] at hl; exact ih h.2 hl
    · rw [e] at hl
      obtain rfl : k = i := Nat.eq_of_beq_eq_true e
      simp only [cond_true, Option.some.injEq] at hl
      subst hl; exact h.1
theorem Rep.sub {n : Nat} {a : Act} {fr fr' : Fr} (h : Rep n a fr) (hs : Subs fr' fr) : Rep n a fr' := ⟨h.size, h.defers, fun i v hl => h.get i v (subs_get hs hl)⟩
def ev (fr : Fr) : Operand → Option Value
  | .tmp t => look fr t
  | .const v => some v
  | .global g => some (.pointer (some ⟨g, 0, none⟩))
  | .func f => some (.func (.func f) #[] #[])
theorem Rep.ev {n : Nat} {a : Act} {fr : Fr} (h : Rep n a fr) {x : Operand} {v : Value} (hx : ev fr x = some v) : a.eval x = v := by
  cases x with
  | tmp t => simp [Act.eval, Array.getD_eq_getD_getElem?, h.get t v hx]
  | const u => simpa [eng.ev, Act.eval] using hx
  | global g => simpa [eng.ev, Act.eval] using hx
  | func f => simpa [eng.ev, Act.eval] using hx
/-- the slot of a guard -/
theorem Rep.yield {n : Nat} {a : Act} {fr : Fr} (h : Rep n a fr) {ops : Array Oper} {j d : Nat} {v : Value} (hj : (ops[j]?).bind (·.dst) = some d) (hl : look fr d = some v) :
    yielded ops a.tmps j = match v with | .bool b => some b | _ => none := by
  unfold yielded
  rw [hj]
  simp only [Option.bind_some, h.get d v hl]
  cases v <;> rfl

/-! ### memory -/
/-- something that the call owns: its block, what holds of it -/
structure Own where
  blk : Option Nat
  holds : World → Prop
  lt : ∀ w, holds w → ∀ k, blk = some k → k < w.heap.size
  stay : ∀ w w', holds w → w.heap.size ≤ w'.heap.size → (∀ k, blk = some k → w'.heap[k]? = w.heap[k]?) → holds w'
/-- a block that is known whole -/
def blkO (g : Nat) (cs : Array Value) (T : TypeId) : Own :=
  ⟨some g, fun w => w.heap[g]? = some (.cells cs T (0, 0)), fun w h k hk => by simp only [Option.some.injEq] at hk; subst hk; exact (Array.getElem?_eq_some_iff.1 h).1,
    fun w w' h _ hb => by rw [hb g rfl]; exact h⟩
/-- a slice that the call may append to -/
def rowO (e : TypeId) (size : Nat) (v : Value) (n : Nat) (xs : List Value) : Own :=
  ⟨v.ownBlock, fun w => w.ownsRow 0 e size v n xs, fun w h k hk => (h.lt k hk).2, fun w w' h _ hb => by
    refine ⟨h.1, ?_⟩
    rcases h.2 with hn | ⟨g, cap, cur, rfl, hb0, hg, rest⟩
    · exact .inl hn
    · exact .inr ⟨g, cap, cur, rfl, hb0, by rw [hb g rfl]; exact hg, rest⟩⟩
/-- cells that may be read and written -/
def wrO (g : Nat) (xs : List Value) : Own :=
  ⟨some g, fun w => g < w.heap.size ∧ Wr w g 0 xs, fun w h k hk => by simp only [Option.some.injEq] at hk; subst hk; exact h.1,
    fun w w' h hs hb => ⟨Nat.lt_of_lt_of_le h.1 hs, fun j u hj => by
      rw [World.cell?_of_block (w := w) (a := ⟨g, 0 + j, none⟩) (hb g rfl), World.frozen?_of_block (w := w) (a := ⟨g, 0 + j, none⟩) (hb g rfl)]
      exact h.2 j u hj⟩⟩
structure Owns (B : Nat) (w : World) (L : List Own) : Prop where
  all : ∀ (i : Nat) (o : Own), L[i]? = some o → o.holds w ∧ ∀ k, o.blk = some k → B ≤ k
  apart : ∀ (i j : Nat) (o o' : Own), i ≠ j → L[i]? = some o → L[j]? = some o' → ∀ k, o.blk = some k → o'.blk ≠ some k
theorem Owns.nil (B : Nat) (w : World) : Owns B w [] := ⟨fun i o h => by simp at h, fun i j o o' _ h => by simp at h⟩
theorem Owns.gr {B : Nat} {w w' : World} {L : List Own} (h : Owns B w L) (hg : Gr w w') : Owns B w' L :=
  ⟨fun i o hi => ⟨o.stay w w' (h.all i o hi).1 hg.size fun k hk => hg.block k (o.lt w (h.all i o hi).1 k hk), (h.all i o hi).2⟩, h.apart⟩
theorem Owns.mono {B B' : Nat} {w : World} {L : List Own} (h : Owns B w L) (hb : B' ≤ B) : Owns B' w L :=
  ⟨fun i o hi => ⟨(h.all i o hi).1, fun k hk => Nat.le_trans hb ((h.all i o hi).2 k hk)⟩, h.apart⟩
theorem Owns.one {B : Nat} {w : World} {o : Own} (h : o.holds w) (hb : ∀ k, o.blk = some k → B ≤ k) : Owns B w [o] :=
  ⟨fun i o' hi => by
    match i, hi with
    | 0, hi => simp only [List.getElem?_cons_zero, Option.some.injEq] at hi; subst hi; exact ⟨h, hb⟩
    | i + 1, hi => simp at hi,
   fun i j a b hij hi hj => by
    match i, j, hi, hj with
    | 0, 0, _, _ => exact absurd rfl hij
    | i + 1, _, hi, _ => simp at hi
    | 0, j + 1, _, hj => simp at hj⟩
/-- what is newer lies apart -/
theorem Owns.append {B : Nat} {w w' : World} {L L' : List Own} (h : Owns B w L) (hg : Gr w w') (hB : B ≤ w.heap.size) (h' : Owns w.heap.size w' L') : Owns B w' (L ++ L') := by
  have h1 := h.gr hg
  refine ⟨fun i o hi => ?_, fun i j o o' hij hi hj => ?_⟩
  · rw [List.getElem?_append] at hi
    split at hi
    · exact h1.all i o hi
    · exact ⟨(h'.all _ o hi).1, fun k hk => Nat.le_trans hB ((h'.all _ o hi).2 k hk)⟩
  · intro k hk hk'
    rw [List.getElem?_append] at hi hj
    split at hi <;> split at hj
    · exact h1.apart i j o o' hij hi hj k hk hk'
    · have a1 := o.lt w (h.all i o hi).1 k hk
      have a2 := (h'.all _ o' hj).2 k hk'
      omega
    · have a1 := o'.lt w (h.all j o' hj).1 k hk'
      have a2 := (h'.all _ o hi).2 k hk
      omega
    · exact h'.apart (i - L.length) (j - L.length) o o' (by omega) hi hj k hk hk'
/-- some of them -/
theorem Owns.pick {B : Nat} {w : World} {L L' : List Own} (h : Owns B w L) (is : List Nat) (hn : is.Nodup) (hl : L' = is.filterMap fun i => L[i]?) : Owns B w L' := by
  subst hl
  induction is with
  | nil => exact Owns.nil _ _
  | cons i is ih =>
    rw [List.nodup_cons] at hn
    have ih := ih hn.2
    have mem : ∀ j o, (is.filterMap fun i => L[i]?)[j]? = some o → ∃ q ∈ is, L[q]? = some o := fun j o hj => by
      have := List.mem_of_getElem? hj
      rw [List.mem_filterMap] at this
      exact this
    cases e : L[i]? with
    | none => rw [List.filterMap_cons_none e]; exact ih
    | some o0 =>
      rw [List.filterMap_cons_some e]
      refine ⟨fun j o hj => ?_, fun j j' o o' hij hj hj' => ?_⟩
      · match j, hj with
        | 0, hj => simp only [List.getElem?_cons_zero, Option.some.injEq] at hj; subst hj; exact h.all i _ e
        | j + 1, hj => exact ih.all j o (by simpa using hj)
      · match j, j', hj, hj' with
        | 0, 0, _, _ => exact absurd rfl hij
        | 0, j' + 1, hj, hj' =>
          simp only [List.getElem?_cons_zero, Option.some.injEq] at hj; subst hj
          obtain ⟨q, hq, hq'⟩ := mem j' o' (by simpa using hj')
          exact h.apart i q _ o' (fun e => hn.1 (e ▸ hq)) e hq'
        | j + 1, 0, hj, hj' =>
          simp only [List.getElem?_cons_zero, Option.some.injEq] at hj'; subst hj'
          obtain ⟨q, hq, hq'⟩ := mem j o (by simpa using hj)
          exact h.apart q i o _ (fun e => hn.1 (e ▸ hq)) hq' e
        | j + 1, j' + 1, hj, hj' => exact ih.apart j j' o o' (by omega) (by simpa using hj) (by simpa using hj')
/-- a world in which the call has made L, and turned nothing else since W -/
structure Mem (W : World) (L : List Own) (w : World) : Prop where
  below : Below W.heap.size W w
  owns : Owns W.heap.size w L
theorem Mem.start (W : World) : Mem W [] W := ⟨Below.refl _ _, Owns.nil _ _⟩
theorem Mem.gr {W w w' : World} {L : List Own} (h : Mem W L w) (hg : Gr w w') : Mem W L w' := ⟨below_gr h.below h.below.size hg, h.owns.gr hg⟩
theorem Mem.drew {W w : World} {L : List Own} (h : Mem W L w) : Mem W L w.drew := h.gr (Gr.drew w)
theorem closed_mem (W : World) (L : List Own) : Closed (Mem W L) := fun _ _ h k => h.gr k
theorem Mem.pick {W w : World} {L L' : List Own} (h : Mem W L w) (is : List Nat) (hn : is.Nodup) (hl : L' = is.filterMap fun i => L[i]?) : Mem W L' w := ⟨h.below, h.owns.pick is hn hl⟩
theorem Mem.append {W w w' : World} {L L' : List Own} (h : Mem W L w) (hg : Gr w w') (h' : Owns w.heap.size w' L') : Mem W (L ++ L') w' :=
  ⟨below_gr h.below h.below.size hg, h.owns.append hg h.below.size h'⟩
/-- one of them has changed, or has moved into new memory -/
theorem Mem.turn {W w w' : World} {L : List Own} (h : Mem W L w) {i : Nat} {o o' : Own} (hi : L[i]? = some o) (hg : w.grownBy w' o.blk) (ho : o'.holds w') (hb : ∀ k, o'.blk = some k → o.blk = some k ∨ w.heap.size ≤ k) : Mem W (L.set i o') w' := by
  have hle := h.below.size
  have hoB := (h.owns.all i o hi).2
  have hlen : i < L.length := (List.getElem?_eq_some_iff.1 hi).1
  refine ⟨h.below.grown hg hle hoB, ?_, ?_⟩
  · intro j q hj
    by_cases e : i = j
    · subst e
      rw [List.getElem?_set_self hlen] at hj
      simp only [Option.some.injEq] at hj; subst hj
      exact ⟨ho, fun k hk => (hb k hk).elim (hoB k) (fun h => by omega)⟩
    · rw [List.getElem?_set_ne e] at hj
      have h1 := h.owns.all j q hj
      refine ⟨q.stay w w' h1.1 hg.size fun k hk => hg.block k (q.lt w h1.1 k hk) fun e' => ?_, h1.2⟩
      exact h.owns.apart i j o q e hi hj k e'.symm hk
  · intro j j' q q' hij hj hj' k hk hk'
    by_cases e : i = j
    · subst e
      rw [List.getElem?_set_self hlen] at hj
      rw [List.getElem?_set_ne hij] at hj'
      simp only [Option.some.injEq] at hj; subst hj
      have h2 := (h.owns.all j' q' hj').1
      rcases hb k hk with h1 | h1
      · exact h.owns.apart i j' o q' hij hi hj' k h1 hk'
      · have := q'.lt w h2 k hk'; omega
    · rw [List.getElem?_set_ne e] at hj
      have h2 := (h.owns.all j q hj).1
      by_cases e' : i = j'
      · subst e'
        rw [List.getElem?_set_self hlen] at hj'
        simp only [Option.some.injEq] at hj'; subst hj'
        rcases hb k hk' with h1 | h1
        · exact h.owns.apart i j o q e hi hj k h1 hk
        · have := q.lt w h2 k hk; omega
      · rw [List.getElem?_set_ne e'] at hj'
        exact h.owns.apart j j' q q' hij hj hj' k hk hk'
/-- memory that was there when the call began -/
theorem Mem.cell {W w : World} {L : List Own} (h : Mem W L w) {p : Addr} {v : Value} (hp : W.cell? p = some v) : w.cell? p = some v := by
  rw [h.below.cell (World.block_lt_of_cell? W p hp)]; exact hp
theorem Mem.get {W w : World} {L : List Own} (h : Mem W L w) {i : Nat} {o : Own} (hi : L[i]? = some o) : o.holds w := (h.owns.all i o hi).1
end Go.Proofs.Ytbgamboahifnoaa.eng

/- A walk in terms of what is known: a frame as a list of slots, memory as a list of what the call owns. No program in sight. -/
import Derived.Test.YtnicebdkejkieaaKit
import Derived.Test.YtnicebdkejkieaaMix
namespace Go.Proofs.Ytnicebdkejkieaa.eng
open Go.RowKit kit mix

/-! ### slots -/
abbrev Fr := List (Nat × Value)
def look : Fr → Nat → Option Value
  | [], _ => none
  | (k, v) :: r, i => bif Nat.beq k i then some v else look r i
/-- what is known of the slots -/
structure Rep (n : Nat) (a : Act) (fr : Fr) : Prop where
  size : a.tmps.size = n
  defers : a.defers = []
  get : ∀ i v, look fr i = some v → a.tmps[i]? = some v
theorem Rep.put {n : Nat} {a : Act} {fr : Fr} (h : Rep n a fr) {d : Nat} (hd : Nat.blt d n = true) (v : Value) : Rep n (a.put (some d) v) ((d, v) :: fr) := by
  have hd' : d < n := Nat.le_of_ble_eq_true hd
  refine ⟨by simp [Act.put, h.size], h.defers, fun i u hi => ?_⟩
  unfold look at hi
  simp only [Act.put]
  cases e : Nat.beq d i
  · rw [e] at hi
    rw [Array.getElem?_setIfInBounds_ne (Nat.ne_of_beq_eq_false e)]
    exact h.get i u hi
  · rw [e] at hi
    obtain rfl : d = i := Nat.eq_of_beq_eq_true e
    simp only [cond_true, Option.some.injEq] at hi
    subst hi
    rw [Array.getElem?_setIfInBounds_self_of_lt (by rw [h.size]; exact hd')]
theorem Rep.put_none {n : Nat} {a : Act} {fr : Fr} (h : Rep n a fr) (v : Value) : Rep n (a.put none v) fr := h
/-- a frame that knows no more -/
def Subs : Fr → Fr → Prop
  | [], _ => True
  | (i, v) :: r, fr => look fr i = some v ∧ Subs r fr
theorem subs_get {fr' fr : Fr} (h : Subs fr' fr) {i : Nat} {v : Value} (hl : look fr' i = some v) : look fr i = some v := by
  induction fr' with
  | nil => cases hl
  | cons x r ih =>
    obtain ⟨k, u⟩ := x
    unfold look at hl
    cases e : Nat.beq k i
    · rw [e] at hl; exact ih h.2 hl
    · rw [e] at hl
      obtain rfl : k = i := Nat.eq_of_beq_eq_true e
      simp only [cond_true, Option.some.injEq] at hl
      subst hl; exact h.1
theorem Rep.sub {n : Nat} {a : Act} {fr fr' : Fr} (h : Rep n a fr) (hs : Subs fr' fr) : Rep n a fr' := ⟨h.size, h.defers, fun i v hl => h.get i v (subs_get hs hl)⟩
def ev (fr : Fr) : Operand → Option Value
  | .tmp t => look fr t
  | .const v => some v
  | .global g => some (.pointer (some ⟨g, 0, none⟩))
  | .func f => some (.func (.func f) #[] #[])
theorem Rep.ev {n : Nat} {a : Act} {fr : Fr} (h : Rep n a fr) {x : Operand} {v : Value} (hx : ev fr x = some v) : a.eval x = v := by
  cases x with
  | tmp t => simp [Act.eval, Array.getD_eq_getD_getElem?, h.get t v hx]
  | const u => simpa [eng.ev, Act.eval] using hx
  | global g => simpa [eng.ev, Act.eval] using hx
  | func f => simpa [eng.ev, Act.eval] using hx
/-- the slot of a guard -/
theorem Rep.yield {n : Nat} {a : Act} {fr : Fr} (h : Rep n a fr) {ops : Array Oper} {j d : Nat} {v : Value} (hj : (ops[j]?).bind (·.dst) = some d) (hl : look fr d = some v) :
    yielded ops a.tmps j = match v with | .bool b => some b | _ => none := by
  unfold yielded
  rw [hj]
  simp only [Option.bind_some, h.get d v hl]
  cases v <;> rfl

/-! ### memory -/
/-- something that the call owns: its block, further blocks, what holds of them -/
structure Own where
  blk : Option Nat
  more : Nat → Prop
  holds : World → Prop
  lt : ∀ w, holds w → ∀ k, (blk = some k ∨ more k) → k < w.heap.size
  stay : ∀ w w', holds w → w.heap.size ≤ w'.heap.size → (∀ k, (blk = some k ∨ more k) → w'.heap[k]? = w.heap[k]?) → holds w'
def Own.foot (o : Own) (k : Nat) : Prop := o.blk = some k ∨ o.more k
/-- a block that is known whole -/
def blkO (g : Nat) (cs : Array Value) (T : TypeId) : Own :=
  ⟨some g, fun _ => False, fun w => w.heap[g]? = some (.cells cs T (0, 0)), fun w h k hk => by simp only [Option.some.injEq, or_false] at hk; subst hk; exact (Array.getElem?_eq_some_iff.1 h).1,
    fun w w' h _ hb => by rw [hb g (.inl rfl)]; exact h⟩
/-- a slice that the call may append to -/
def rowO (e : TypeId) (size : Nat) (v : Value) (n : Nat) (xs : List Value) : Own :=
  ⟨v.ownBlock, fun _ => False, fun w => w.ownsRow 0 e size v n xs, fun w h k hk => (h.lt k (hk.elim id False.elim)).2, fun w w' h _ hb => by
    refine ⟨h.1, ?_⟩
    rcases h.2 with hn | ⟨g, cap, cur, rfl, hb0, hg, rest⟩
    · exact .inl hn
    · exact .inr ⟨g, cap, cur, rfl, hb0, by rw [hb g (.inl rfl)]; exact hg, rest⟩⟩
/-- cells that may be read and written -/
def wrO (g : Nat) (xs : List Value) : Own :=
  ⟨some g, fun _ => False, fun w => g < w.heap.size ∧ Wr w g 0 xs, fun w h k hk => by simp only [Option.some.injEq, or_false] at hk; subst hk; exact h.1,
    fun w w' h hs hb => ⟨Nat.lt_of_lt_of_le h.1 hs, fun j u hj => by
      rw [World.cell?_of_block (w := w) (a := ⟨g, 0 + j, none⟩) (hb g (.inl rfl)), World.frozen?_of_block (w := w) (a := ⟨g, 0 + j, none⟩) (hb g (.inl rfl))]
      exact h.2 j u hj⟩⟩
/-- things owned, apart from each other, in blocks of which p holds -/
structure OwnsP (p : Nat → Prop) (w : World) (L : List Own) : Prop where
  all : ∀ (i : Nat) (o : Own), L[i]? = some o → o.holds w ∧ ∀ k, o.foot k → p k
  apart : ∀ (i j : Nat) (o o' : Own), i ≠ j → L[i]? = some o → L[j]? = some o' → ∀ k, o.foot k → ¬ o'.foot k
abbrev Owns (B : Nat) (w : World) (L : List Own) : Prop := OwnsP (fun k => B ≤ k) w L
section
variable {p p' : Nat → Prop}
theorem Owns.nil (B : Nat) (w : World) : Owns B w [] := ⟨fun i o h => by simp at h, fun i j o o' _ h => by simp at h⟩
theorem OwnsP.nil (w : World) : OwnsP p w [] := ⟨fun i o h => by simp at h, fun i j o o' _ h => by simp at h⟩
theorem OwnsP.gr {w w' : World} {L : List Own} (h : OwnsP p w L) (hg : Gr w w') : OwnsP p w' L :=
  ⟨fun i o hi => ⟨o.stay w w' (h.all i o hi).1 hg.size fun k hk => hg.block k (o.lt w (h.all i o hi).1 k hk), (h.all i o hi).2⟩, h.apart⟩
theorem OwnsP.mono {w : World} {L : List Own} (h : OwnsP p w L) (hb : ∀ k, p k → p' k) : OwnsP p' w L :=
  ⟨fun i o hi => ⟨(h.all i o hi).1, fun k hk => hb k ((h.all i o hi).2 k hk)⟩, h.apart⟩
theorem OwnsP.one {w : World} {o : Own} (h : o.holds w) (hb : ∀ k, o.foot k → p k) : OwnsP p w [o] :=
  ⟨fun i o' hi => by
    match i, hi with
    | 0, hi => simp only [List.getElem?_cons_zero, Option.some.injEq] at hi; subst hi; exact ⟨h, hb⟩
    | i + 1, hi => simp at hi,
   fun i j a b hij hi hj => by
    match i, j, hi, hj with
    | 0, 0, _, _ => exact absurd rfl hij
    | i + 1, _, hi, _ => simp at hi
    | 0, j + 1, _, hj => simp at hj⟩
theorem Owns.one {B : Nat} {w : World} {o : Own} (h : o.holds w) (hb : ∀ k, o.blk = some k → B ≤ k) (hmo : ∀ k, o.more k → B ≤ k := by intro k hk; exact False.elim hk) : Owns B w [o] := OwnsP.one h fun k hk => hk.elim (hb k) (hmo k)
/-- two lists, apart from each other -/
theorem OwnsP.both {w : World} {L L' : List Own} (h : OwnsP p w L) (h' : OwnsP p w L') (ha : ∀ (i j : Nat) (o o' : Own), L[i]? = some o → L'[j]? = some o' → ∀ k, o.foot k → ¬ o'.foot k) : OwnsP p w (L ++ L') := by
  refine ⟨fun i o hi => ?_, fun i j o o' hij hi hj => ?_⟩
  · rw [List.getElem?_append] at hi
    split at hi
    · exact h.all i o hi
    · exact h'.all _ o hi
  · intro k hk hk'
    rw [List.getElem?_append] at hi hj
    split at hi <;> split at hj
    · exact h.apart i j o o' hij hi hj k hk hk'
    · exact ha _ _ o o' hi hj k hk hk'
    · exact ha _ _ o' o hj hi k hk' hk
    · exact h'.apart (i - L.length) (j - L.length) o o' (by omega) hi hj k hk hk'
/-- some of them -/
theorem OwnsP.pick {w : World} {L L' : List Own} (h : OwnsP p w L) (is : List Nat) (hn : is.Nodup) (hl : L' = is.filterMap fun i => L[i]?) : OwnsP p w L' := by
  subst hl
  induction is with
  | nil => exact OwnsP.nil _
  | cons i is ih =>
    rw [List.nodup_cons] at hn
    have ih := ih hn.2
    have mem : ∀ j o, (is.filterMap fun i => L[i]?)[j]? = some o → ∃ q ∈ is, L[q]? = some o := fun j o hj => by
      have := List.mem_of_getElem? hj
      rw [List.mem_filterMap] at this
      exact this
    cases e : L[i]? with
    | none => rw [List.filterMap_cons_none e]; exact ih
    | some o0 =>
      rw [List.filterMap_cons_some e]
      refine ⟨fun j o hj => ?_, fun j j' o o' hij hj hj' => ?_⟩
      · match j, hj with
        | 0, hj => simp only [List.getElem?_cons_zero, Option.some.injEq] at hj; subst hj; exact h.all i _ e
        | j + 1, hj => exact ih.all j o (by simpa using hj)
      · match j, j', hj, hj' with
        | 0, 0, _, _ => exact absurd rfl hij
        | 0, j' + 1, hj, hj' =>
          simp only [List.getElem?_cons_zero, Option.some.injEq] at hj; subst hj
          obtain ⟨q, hq, hq'⟩ := mem j' o' (by simpa using hj')
          exact h.apart i q _ o' (fun e => hn.1 (e ▸ hq)) e hq'
        | j + 1, 0, hj, hj' =>
          simp only [List.getElem?_cons_zero, Option.some.injEq] at hj'; subst hj'
          obtain ⟨q, hq, hq'⟩ := mem j o (by simpa using hj)
          exact h.apart q i o _ (fun e => hn.1 (e ▸ hq)) hq' e
        | j + 1, j' + 1, hj, hj' => exact ih.apart j j' o o' (by omega) (by simpa using hj) (by simpa using hj')
end
/-- where a walk begins: a world, and which older blocks the call may turn -/
structure Base where
  w : World
  X : Nat → Prop
instance : Coe World Base := ⟨fun w => ⟨w, fun _ => False⟩⟩
/-- a call that may turn what L tells -/
def Base.on (w : World) (L : List Own) : Base := ⟨w, fun k => ∃ o ∈ L, o.foot k⟩
def Base.may (W : Base) (k : Nat) : Prop := W.w.heap.size ≤ k ∨ W.X k
/-- older blocks are as they were, but for those that may be turned -/
structure BelowB (W : Base) (w : World) : Prop where
  os : w.os = W.w.os
  tape : w.tape = W.w.tape
  output : w.output = W.w.output
  size : W.w.heap.size ≤ w.heap.size
  block : ∀ k, k < W.w.heap.size → ¬ W.X k → w.heap[k]? = W.w.heap[k]?
/-- a world in which the call has made L, and turned nothing else since W -/
structure Mem (W : Base) (L : List Own) (w : World) : Prop where
  low : BelowB W w
  owns : OwnsP W.may w L
theorem Mem.start (W : World) : Mem W [] W := ⟨⟨rfl, rfl, rfl, Nat.le_refl _, fun _ _ _ => rfl⟩, OwnsP.nil _⟩
theorem BelowB.gr {W : Base} {w w' : World} (h : BelowB W w) (hg : Gr w w') : BelowB W w' :=
  ⟨hg.os.trans h.os, hg.tape.trans h.tape, hg.output.trans h.output, Nat.le_trans h.size hg.size, fun k hk hx => (hg.block k (Nat.lt_of_lt_of_le hk h.size)).trans (h.block k hk hx)⟩
theorem Mem.below {W w : World} {L : List Own} (h : Mem W L w) : Below W.heap.size W w := ⟨h.low.os, h.low.tape, h.low.output, h.low.size, fun k hk => h.low.block k hk id⟩
theorem Mem.newer {W w : World} {L : List Own} (h : Mem W L w) : Owns W.heap.size w L := h.owns.mono fun k hk => hk.elim id False.elim
section
variable {W : Base}
theorem Mem.gr {w w' : World} {L : List Own} (h : Mem W L w) (hg : Gr w w') : Mem W L w' := ⟨h.low.gr hg, h.owns.gr hg⟩
theorem Mem.drew {w : World} {L : List Own} (h : Mem W L w) : Mem W L w.drew := h.gr (Gr.drew w)
theorem closed_mem (W : Base) (L : List Own) : Closed (Mem W L) := fun _ _ h k => h.gr k
theorem Mem.pick {w : World} {L L' : List Own} (h : Mem W L w) (is : List Nat) (hn : is.Nodup) (hl : L' = is.filterMap fun i => L[i]?) : Mem W L' w := ⟨h.low, h.owns.pick is hn hl⟩
/-- what is newer lies apart -/
theorem Mem.append {w w' : World} {L L' : List Own} (h : Mem W L w) (hg : Gr w w') (h' : Owns w.heap.size w' L') : Mem W (L ++ L') w' := by
  have hsz : W.w.heap.size ≤ w.heap.size := h.low.size
  refine ⟨h.low.gr hg, OwnsP.both (h.owns.gr hg) (h'.mono fun k hk => .inl (Nat.le_trans hsz hk)) fun i j o o' hi hj k hk hk' => ?_⟩
  have a1 := o.lt w (h.owns.all i o hi).1 k hk
  have a2 : w.heap.size ≤ k := (h'.all _ o' hj).2 k hk'
  omega
/-- one of them has changed, or has moved into new memory -/
theorem Mem.turn {w w' : World} {L : List Own} (h : Mem W L w) {i : Nat} {o o' : Own} (hi : L[i]? = some o) (hg : w.grownBy w' o.blk) (ho : o'.holds w') (hb : ∀ k, o'.blk = some k → o.blk = some k ∨ w.heap.size ≤ k) (hmo : ∀ k, o'.more k → o.foot k := by intro k hk; exact False.elim hk) : Mem W (L.set i o') w' := by
  have hle : W.w.heap.size ≤ w.heap.size := h.low.size
  have hoB := (h.owns.all i o hi).2
  have hlen : i < L.length := (List.getElem?_eq_some_iff.1 hi).1
  have hb' : ∀ k, o'.foot k → o.foot k ∨ w.heap.size ≤ k := fun k hk => hk.elim (fun h => (hb k h).imp .inl id) (fun h => .inl (hmo k h))
  refine ⟨⟨hg.os.trans h.low.os, hg.tape.trans h.low.tape, hg.output.trans h.low.output, Nat.le_trans hle hg.size, fun k hk hx => ?_⟩, ?_, ?_⟩
  · rw [hg.block k (Nat.lt_of_lt_of_le hk hle) fun e => (hoB k (.inl e.symm)).elim (fun h => by omega) hx]
    exact h.low.block k hk hx
  · intro j q hj
    by_cases e : i = j
    · subst e
      rw [List.getElem?_set_self hlen] at hj
      simp only [Option.some.injEq] at hj; subst hj
      exact ⟨ho, fun k hk => (hb' k hk).elim (hoB k) (fun h => .inl (Nat.le_trans hle h))⟩
    · rw [List.getElem?_set_ne e] at hj
      have h1 := h.owns.all j q hj
      refine ⟨q.stay w w' h1.1 hg.size fun k hk => hg.block k (q.lt w h1.1 k hk) fun e' => ?_, h1.2⟩
      exact h.owns.apart i j o q e hi hj k (.inl e'.symm) hk
  · intro j j' q q' hij hj hj' k hk hk'
    by_cases e : i = j
    · subst e
      rw [List.getElem?_set_self hlen] at hj
      rw [List.getElem?_set_ne hij] at hj'
      simp only [Option.some.injEq] at hj; subst hj
      have h2 := (h.owns.all j' q' hj').1
      rcases hb' k hk with h1 | h1
      · exact h.owns.apart i j' o q' hij hi hj' k h1 hk'
      · have := q'.lt w h2 k hk'; omega
    · rw [List.getElem?_set_ne e] at hj
      have h2 := (h.owns.all j q hj).1
      by_cases e' : i = j'
      · subst e'
        rw [List.getElem?_set_self hlen] at hj'
        simp only [Option.some.injEq] at hj'; subst hj'
        rcases hb' k hk' with h1 | h1
        · exact h.owns.apart i j o q e hi hj k h1 hk
        · have := q.lt w h2 k hk; omega
      · rw [List.getElem?_set_ne e'] at hj'
        exact h.owns.apart j j' q q' hij hj hj' k hk hk'
/-- two of them, seen as one -/
theorem Mem.merge {w : World} {R : List Own} {o1 o2 : Own} (o : Own) (h : Mem W ([o1, o2] ++ R) w) (hf : ∀ k, o.foot k → o1.foot k ∨ o2.foot k) (hh : o1.holds w → o2.holds w → o.holds w) : Mem W (R ++ [o]) w := by
  have h1 := h.owns.all 0 o1 rfl
  have h2 := h.owns.all 1 o2 rfl
  refine ⟨h.low, OwnsP.both ⟨fun i q hi => h.owns.all (i + 2) q (by simpa using hi), fun i j q q' hij hi hj => h.owns.apart (i + 2) (j + 2) q q' (by omega) (by simpa using hi) (by simpa using hj)⟩ (OwnsP.one (hh h1.1 h2.1) fun k hk => (hf k hk).elim (h1.2 k) (h2.2 k)) ?_⟩
  · intro i j q q' hi hj k hk hk'
    match j, hj with
    | 0, hj =>
      simp only [List.getElem?_cons_zero, Option.some.injEq] at hj; subst hj
      have hi' : ([o1, o2] ++ R)[i + 2]? = some q := by simpa using hi
      rcases hf k hk' with h3 | h3
      · exact h.owns.apart 0 (i + 2) o1 q (by omega) rfl hi' k h3 hk
      · exact h.owns.apart 1 (i + 2) o2 q (by omega) rfl hi' k h3 hk
    | j + 1, hj => simp at hj
theorem Mem.get {w : World} {L : List Own} (h : Mem W L w) {i : Nat} {o : Own} (hi : L[i]? = some o) : o.holds w := (h.owns.all i o hi).1
/-- a part of them is handed over to a call -/
theorem Mem.over {w : World} {L : List Own} (h : Mem W L w) : Mem (Base.on w L) L w :=
  ⟨⟨rfl, rfl, rfl, Nat.le_refl _, fun _ _ _ => rfl⟩, fun i o hi => ⟨(h.owns.all i o hi).1, fun k hk => .inr ⟨o, List.mem_of_getElem? hi, hk⟩⟩, h.owns.apart⟩
/-- what the call has left of it; the others stay -/
theorem Mem.back {w w' : World} {L R O : List Own} (h : Mem W (L ++ R) w) (h' : Mem (Base.on w L) O w') : Mem W (R ++ O) w' := by
  have hle : W.w.heap.size ≤ w.heap.size := h.low.size
  have hL : ∀ o ∈ L, ∀ k, o.foot k → W.may k := fun o ho k hk => by
    obtain ⟨i, hi⟩ := List.getElem?_of_mem ho
    exact (h.owns.all i o (by rw [List.getElem?_append_left (List.getElem?_eq_some_iff.1 hi).1]; exact hi)).2 k hk
  have hR : ∀ (i : Nat) (o : Own), R[i]? = some o → o.holds w ∧ (∀ k, o.foot k → W.may k) ∧ ∀ k, o.foot k → k < w.heap.size ∧ ¬ (Base.on w L).X k := fun i o hi => by
    have hi' : (L ++ R)[L.length + i]? = some o := by rw [List.getElem?_append_right (by omega)]; simpa using hi
    have h1 := h.owns.all _ o hi'
    refine ⟨h1.1, h1.2, fun k hk => ⟨o.lt w h1.1 k hk, ?_⟩⟩
    rintro ⟨q, hq, hqk⟩
    obtain ⟨j, hj⟩ := List.getElem?_of_mem hq
    have hjl := (List.getElem?_eq_some_iff.1 hj).1
    exact h.owns.apart j (L.length + i) q o (by omega) (by rw [List.getElem?_append_left hjl]; exact hj) hi' k hqk hk
  refine ⟨⟨h'.low.os.trans h.low.os, h'.low.tape.trans h.low.tape, h'.low.output.trans h.low.output, Nat.le_trans hle h'.low.size, fun k hk hx => ?_⟩, OwnsP.both ⟨fun i o hi => ?_, ?_⟩ ?_ ?_⟩
  · rw [h'.low.block k (Nat.lt_of_lt_of_le hk hle) ?_]
    · exact h.low.block k hk hx
    · rintro ⟨o, ho, hok⟩
      exact (hL o ho k hok).elim (fun h => by omega) hx
  · obtain ⟨h1, h2, h3⟩ := hR i o hi
    exact ⟨o.stay w w' h1 h'.low.size fun k hk => h'.low.block k (h3 k hk).1 (h3 k hk).2, h2⟩
  · intro i j o o' hij hi hj
    exact h.owns.apart (L.length + i) (L.length + j) o o' (by omega) (by rw [List.getElem?_append_right (by omega)]; simpa using hi) (by rw [List.getElem?_append_right (by omega)]; simpa using hj)
  · exact h'.owns.mono fun k hk => hk.elim (fun h1 => .inl (Nat.le_trans hle h1)) fun ⟨o, ho, hok⟩ => hL o ho k hok
  · intro i j o o' hi hj k hk hk'
    obtain ⟨h1, h2, h3⟩ := hR i o hi
    rcases (h'.owns.all j o' hj).2 k hk' with h4 | h4
    · have h4 : w.heap.size ≤ k := h4
      have := (h3 k hk).1; omega
    · exact (h3 k hk).2 h4
end
/-- memory that was there when the call began -/
theorem Mem.cell {W w : World} {L : List Own} (h : Mem W L w) {p : Addr} {v : Value} (hp : W.cell? p = some v) : w.cell? p = some v := by
  rw [h.below.cell (World.block_lt_of_cell? W p hp)]; exact hp
/-- memory of an older world that the call can't turn -/
structure Old (W0 : World) (W : Base) : Prop where
  below : Below W0.heap.size W0 W.w
  free : ∀ k, k < W0.heap.size → ¬ W.X k
theorem Old.self (W : World) : Old W W := ⟨Below.refl _ _, fun _ _ => id⟩
theorem Old.mem {W0 : World} {W : Base} (ho : Old W0 W) {L : List Own} {w : World} (h : Mem W L w) : Below W0.heap.size W0 w :=
  ⟨h.low.os.trans ho.below.os, h.low.tape.trans ho.below.tape, h.low.output.trans ho.below.output, Nat.le_trans ho.below.size h.low.size, fun k hk => (h.low.block k (Nat.lt_of_lt_of_le hk ho.below.size) (ho.free k hk)).trans (ho.below.block k hk)⟩
theorem Old.cell {W0 : World} {W : Base} (ho : Old W0 W) {L : List Own} {w : World} (h : Mem W L w) {p : Addr} {v : Value} (hp : W0.cell? p = some v) : w.cell? p = some v := by
  rw [(ho.mem h).cell (World.block_lt_of_cell? W0 p hp)]; exact hp
/-- a call on what the caller has made later can't turn it either -/
theorem Old.on {W0 : World} {W : Base} (ho : Old W0 W) {L L' : List Own} {w : World} (h : Mem W L w) (hs : ∀ o ∈ L', o ∈ L) : Old W0 (Base.on w L') :=
  ⟨ho.mem h, fun k hk ⟨o, hm, hb⟩ => by
    obtain ⟨i, hi⟩ := List.getElem?_of_mem (hs o hm)
    rcases (h.owns.all i o hi).2 k hb with h1 | h1
    · have := ho.below.size
      have h1 : W.w.heap.size ≤ k := h1
      omega
    · exact ho.free k hk h1⟩
end Go.Proofs.Ytnicebdkejkieaa.eng

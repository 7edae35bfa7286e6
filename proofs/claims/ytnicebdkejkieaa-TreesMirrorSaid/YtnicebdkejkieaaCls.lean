/- Facts on types and functions as classes: so that a rule finds them by itself. -/
import Derived.Test.YtnicebdkejkieaaOpm
namespace Go.Proofs.Ytnicebdkejkieaa.eng
open Go.RowKit kit mix
class Und (P : Program) (t : TypeId) (d : outParam TypeDesc) : Prop where
  eq : P.underlying t = some d
class TyC (P : Program) (t : TypeId) (agg : outParam Bool) (c : outParam Nat) : Prop where
  ty : Ty P t agg c
class FldC (P : Program) (t : TypeId) (f : Nat) (o : outParam Nat) : Prop where
  fld : Fld P t f o
class ElC (P : Program) (t : TypeId) (e : outParam TypeId) (size bytes : outParam Nat) : Prop where
  el : El P t e size bytes
class EntersC (P : Program) (f : FuncId) : Prop where
  en : Enters P f
class ZeroC (P : Program) (t : TypeId) (cs : outParam (Array Value)) : Prop where
  zero : (P.info? t).map (fun i => i.zero.map Value.cells) = some (some cs)
section
variable {P : Program} {n : Nat} {W : Base} {fr : Fr} {L : List Own} {Q : Exit → Act → World → Prop} {ops : Array Oper} {rest : List Oper} {d : Nat} {ty : TypeId} {pos : String} {after : Array Edge}
theorem ZeroC.ex {t : TypeId} {cs : Array Value} [h : ZeroC P t cs] : ∃ i z, P.info? t = some i ∧ i.zero = some z ∧ z.cells = cs := by
  have h1 := h.zero
  cases e : P.info? t with
  | none => rw [e] at h1; simp at h1
  | some i =>
    rw [e] at h1
    cases e2 : i.zero with
    | none => simp [e2] at h1
    | some z => simp [e2] at h1; exact ⟨i, z, rfl, e2, h1⟩
theorem TL_new {t : TypeId} {cs : Array Value} [ZeroC P t cs] (hn : Nat.blt d n = true) (h : ∀ g, TL P n W ops Q rest ((d, .pointer (some ⟨g, 0, none⟩)) :: fr) (L ++ [blkO g cs t])) :
    TL P n W ops Q (⟨some d, .alloc t, ty, pos, after, none⟩ :: rest) fr L := by
  obtain ⟨i, z, h1, h2, h3⟩ := ZeroC.ex (P := P) (t := t)
  exact TL_alloc h1 h2 h3 hn h
theorem TL_one {t e : TypeId} {x : Operand} {v : Value} {c bytes : Nat} {cs : Array Value} [hel : ElC P t e c bytes] (hx : ev fr x = some v) (hcs : v.cells = cs) (hv : cs.size = c) (hs : Nat.ble c 16777216 = true) (hn : Nat.blt d n = true)
    (h : ∀ g, TL P n W ops Q rest ((d, .slice (some ⟨g, 0, none⟩) 1 1) :: fr) (L ++ [blkO g cs e])) : TL P n W ops Q (⟨some d, .buildSlice t 1 #[(0, x)], ty, pos, after, none⟩ :: rest) fr L := by
  obtain ⟨inf, z, ht, hinf, hz, hsize, hby, hzs, hsz⟩ := hel.el.ex
  exact TL_lit1 ht hinf hz hsize hzs hx hcs hv hsz (Nat.le_of_ble_eq_true hs) hn h
/-- nothing, as an own slice -/
theorem Mem.nilrow {w : World} (e : TypeId) (size : Nat) (h : Mem W L w) : Mem W (L ++ [rowO e size (.slice none 0 0) 0 []]) w :=
  h.append (Gr.refl w) (Owns.one (World.ownsRow_nil _ _ _ _) fun k hk => by cases hk)
theorem T_nil {c : Code} (e : TypeId) (size : Nat) (h : T P n W c Q fr (L ++ [rowO e size (.slice none 0 0) 0 []])) : T P n W c Q fr L := ⟨fun a w hr hm => h.go a w hr (hm.nilrow e size)⟩
theorem TL_nilrow (e : TypeId) (size : Nat) (h : TL P n W ops Q rest fr (L ++ [rowO e size (.slice none 0 0) 0 []])) : TL P n W ops Q rest fr L := ⟨fun a w hr hm => h.go a w hr (hm.nilrow e size)⟩
theorem TL_pick {L' : List Own} (is : List Nat) (hn : is.Nodup) (hl : L' = is.filterMap fun i => L[i]?) (h : TL P n W ops Q rest fr L') : TL P n W ops Q rest fr L := ⟨fun a w hr hm => h.go a w hr (hm.pick is hn hl)⟩
/-- one element, just made, is appended -/
theorem TL_app1 {t e : TypeId} {s x : Operand} {i q g size bytes m : Nat} {v : Value} {xs : List Value} {cs : Array Value} {T : TypeId} [hel : ElC P t e size bytes] (hi : L[i]? = some (rowO e size v m xs)) (hq : L[q]? = some (blkO g cs T)) (hs : ev fr s = some v) (hx : ev fr x = some (.slice (some ⟨g, 0, none⟩) 1 1))
    (hl : cs.size = size) (h1 : cs.toList.all Value.oneCell' = true) (h63 : m + 1 ≤ 140737488355328) (hb : (m + 1) * bytes ≤ 140737488355328) (hn : Nat.blt d n = true)
    (h : ∀ v', TL P n W ops Q rest ((d, v') :: fr) (L.set i (rowO e size v' (m + 1) (xs ++ cs.toList)))) :
    TL P n W ops Q (⟨some d, .call { callee := .builtin .append, args := #[s, x], argTypes := #[t, t] }, ty, pos, after, none⟩ :: rest) fr L :=
  TL_append hel.el hi hs hx (fun j u hj => by rw [kit.addr_add, Nat.zero_add]; exact at_blk hq (by simpa using hj)) (by simpa using hl) (List.all_eq_true.1 h1) h63 hb hn h
theorem TL_app11 {t e : TypeId} {s x : Operand} {i q g bytes m : Nat} {v u : Value} {xs : List Value} {cs : Array Value} {T : TypeId} [hel : ElC P t e 1 bytes] (hi : L[i]? = some (rowO e 1 v m xs)) (hq : L[q]? = some (blkO g cs T)) (hs : ev fr s = some v) (hx : ev fr x = some (.slice (some ⟨g, 0, none⟩) 1 1))
    (hu : cs = #[u]) (h1 : u.oneCell' = true) (h63 : m + 1 ≤ 140737488355328) (hb : (m + 1) * bytes ≤ 140737488355328) (hn : Nat.blt d n = true)
    (h : ∀ v', TL P n W ops Q rest ((d, v') :: fr) (L.set i (rowO e 1 v' (m + 1) (xs ++ [u])))) :
    TL P n W ops Q (⟨some d, .call { callee := .builtin .append, args := #[s, x], argTypes := #[t, t] }, ty, pos, after, none⟩ :: rest) fr L := by
  subst hu
  exact TL_app1 hi hq hs hx rfl (by simp [h1]) h63 hb hn h
theorem OwnsP.front {p : Nat → Prop} {w : World} {L L' : List Own} (h : OwnsP p w (L ++ L')) : OwnsP p w L :=
  ⟨fun i o hi => h.all i o (by rw [List.getElem?_append_left (List.getElem?_eq_some_iff.1 hi).1]; exact hi),
   fun i j o o' hij hi hj => h.apart i j o o' hij (by rw [List.getElem?_append_left (List.getElem?_eq_some_iff.1 hi).1]; exact hi) (by rw [List.getElem?_append_left (List.getElem?_eq_some_iff.1 hj).1]; exact hj)⟩
theorem Mem.front {w : World} {L L' : List Own} (h : Mem W (L ++ L') w) : Mem W L w := ⟨h.low, h.owns.front⟩
theorem TL_front {L' : List Own} (h : TL P n W ops Q rest fr L) : TL P n W ops Q rest fr (L ++ L') := ⟨fun a w hr hm => h.go a w hr hm.front⟩
/-- 'append(s, u)', u of one cell: the literal and the append at one stroke -/
theorem TL_push1 {t e : TypeId} {s x : Operand} {i bytes m d' : Nat} {v u : Value} {xs : List Value} {ty' : TypeId} {pos' : String} {after' : Array Edge} [hel : ElC P t e 1 bytes] (hi : L[i]? = some (rowO e 1 v m xs)) (hx : ev fr x = some u) (hu : u.cells = #[u]) (h1 : u.oneCell' = true) (hn' : Nat.blt d' n = true)
    (hs : ev ((d', undef) :: fr) s = some v) (hne : ∀ z, s = .tmp z → Nat.beq d' z = false) (h63 : m + 1 ≤ 140737488355328) (hb : (m + 1) * bytes ≤ 140737488355328) (hn : Nat.blt d n = true)
    (h : ∀ z v', TL P n W ops Q rest ((d, v') :: (d', z) :: fr) (L.set i (rowO e 1 v' (m + 1) (xs ++ [u])))) :
    TL P n W ops Q (⟨some d', .buildSlice t 1 #[(0, x)], ty', pos', after', none⟩ :: ⟨some d, .call { callee := .builtin .append, args := #[s, .tmp d'], argTypes := #[t, t] }, ty, pos, after, none⟩ :: rest) fr L := by
  have hil : i < L.length := (List.getElem?_eq_some_iff.1 hi).1
  have hs' : ∀ z, ev ((d', z) :: fr) s = some v := fun z => by
    cases s with
    | tmp q => have e := hne q rfl; simp only [ev, look, e, cond_false] at hs ⊢; exact hs
    | const q => exact hs
    | global q => exact hs
    | func q => exact hs
  refine TL_one hx hu rfl rfl hn' fun g => ?_
  refine TL_app1 (i := i) (q := L.length) (by rw [List.getElem?_append_left hil]; exact hi) (List.getElem?_concat_length) (hs' _) (by simp [ev, look]) rfl (by simp [h1]) h63 hb hn fun v' => ?_
  rw [List.set_append_left _ _ hil]
  exact TL_front (h _ v')
/-- the same of a struct -/
theorem TL_pushN {t e : TypeId} {s x : Operand} {i c bytes m d' : Nat} {v : Value} {cs : Array Value} {xs : List Value} {ty' : TypeId} {pos' : String} {after' : Array Edge} [hel : ElC P t e c bytes] (hi : L[i]? = some (rowO e c v m xs)) (hx : ev fr x = some (.agg cs)) (hc : cs.size = c) (hs0 : Nat.ble c 16777216 = true) (h1 : cs.toList.all Value.oneCell' = true) (hn' : Nat.blt d' n = true)
    (hs : ev ((d', undef) :: fr) s = some v) (hne : ∀ z, s = .tmp z → Nat.beq d' z = false) (h63 : m + 1 ≤ 140737488355328) (hb : (m + 1) * bytes ≤ 140737488355328) (hn : Nat.blt d n = true)
    (h : ∀ z v', TL P n W ops Q rest ((d, v') :: (d', z) :: fr) (L.set i (rowO e c v' (m + 1) (xs ++ cs.toList)))) :
    TL P n W ops Q (⟨some d', .buildSlice t 1 #[(0, x)], ty', pos', after', none⟩ :: ⟨some d, .call { callee := .builtin .append, args := #[s, .tmp d'], argTypes := #[t, t] }, ty, pos, after, none⟩ :: rest) fr L := by
  have hil : i < L.length := (List.getElem?_eq_some_iff.1 hi).1
  have hs' : ∀ z, ev ((d', z) :: fr) s = some v := fun z => by
    cases s with
    | tmp q => have e := hne q rfl; simp only [ev, look, e, cond_false] at hs ⊢; exact hs
    | const q => exact hs
    | global q => exact hs
    | func q => exact hs
  refine TL_one hx rfl hc hs0 hn' fun g => ?_
  refine TL_app1 (i := i) (q := L.length) (by rw [List.getElem?_append_left hil]; exact hi) (List.getElem?_concat_length) (hs' _) (by simp [ev, look]) hc h1 h63 hb hn fun v' => ?_
  rw [List.set_append_left _ _ hil]
  exact TL_front (h _ v')
theorem E_nilrow {e' : Exit} (e : TypeId) (size : Nat) (h : E n W e' Q fr (L ++ [rowO e size (.slice none 0 0) 0 []])) : E n W e' Q fr L := ⟨fun a w hr hm => h.go a w hr (hm.nilrow e size)⟩
/-- a new slice is handed back, among other things -/
def rowS (e : TypeId) (size m : Nat) (xs : List Value) (f : Value → Value) : Spec Value := ⟨fun _ => True, f, fun v => [rowO e size v m xs]⟩
end
end Go.Proofs.Ytnicebdkejkieaa.eng

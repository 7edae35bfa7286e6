/- Laws of this place's own that speak of no program: one element appended; bytes; small facts. -/
import Derived.WalkKit
import Derived.WalkSpells
import Derived.WalkLawsBesides
import Derived.Deep.RegionLaw
import Derived.Deep.AppendLies
import Derived.Deep.QuietTactic
import Derived.BigQuiet
import Derived.Deep.DeepCutAuto
import Derived.Lib.Hide
namespace Go.Proofs.Ytnicebdkejkieaa.kit
open Go.RowKit

section
variable {P : Program} {w : World}
/-- One element (of whatever number of cells) is appended: at an operation. -/
theorem wp_append1 {o : Oper} {a : Act} {K : Act → World → Prop} {Q : Exit → Act → World → Prop} (s x : Operand) (t : TypeId)
    (ho : o.op = .call { callee := .builtin .append, args := #[s, x], argTypes := #[t, t] })
    {e : TypeId} {i : TypeInfo} {z : Value} (size bytes : Nat) (ht : P.underlying t = some (.slice e)) (hi : P.info? e = some i) (hz : i.zero = some z)
    (hsize : i.size = size) (hby : i.bytes = bytes) (hzs : z.cells.size = size) (hsz : 0 < size)
    {base : Nat} {v : Value} {n : Nat} {xs : List Value} (hs : a.eval s = v) (hown : w.ownsRow base e size v n xs)
    {g : Nat} {cs : Array Value} {T : TypeId} {fr : Nat × Nat} (hx : a.eval x = .slice (some ⟨g, 0, none⟩) 1 1) (hb : w.heap[g]? = some (.cells cs T fr)) (hl : cs.size = size) (h1 : ∀ u ∈ cs.toList, u.oneCell' = true)
    (h63 : n < 140737488355328) (hbytes : (n + 1) * bytes ≤ 140737488355328) (hbase : base ≤ w.heap.size)
    (h : ∀ v' w', w'.ownsRow base e size v' (n + 1) (xs ++ cs.toList) → w.grownBy w' v.ownBlock → K (a.put o.dst v') w') : o.wp P a w K Q :=
  wp_append_own w s x t ho base e i z size bytes ht hi hz hsize hby hzs hsz v n xs hs hown ⟨g, 0, none⟩ 1 1 cs.toList hx (by simp [hl]) (World.news_of_block hb) h1 (by unfold maxLen; omega) hbytes hbase fun v' w' h2 h3 _ => h v' w' h2 h3
theorem wpList_append1 {ops : Array Oper} {rest : List Oper} {o : Oper} {a : Act} {Q : Exit → Act → World → Prop} (hgd : o.guard = none) (s x : Operand) (t : TypeId)
    (ho : o.op = .call { callee := .builtin .append, args := #[s, x], argTypes := #[t, t] })
    {e : TypeId} {i : TypeInfo} {z : Value} (size bytes : Nat) (ht : P.underlying t = some (.slice e)) (hi : P.info? e = some i) (hz : i.zero = some z)
    (hsize : i.size = size) (hby : i.bytes = bytes) (hzs : z.cells.size = size) (hsz : 0 < size)
    {base : Nat} {v : Value} {n : Nat} {xs : List Value} (hs : a.eval s = v) (hown : w.ownsRow base e size v n xs)
    {g : Nat} {cs : Array Value} {T : TypeId} {fr : Nat × Nat} (hx : a.eval x = .slice (some ⟨g, 0, none⟩) 1 1) (hb : w.heap[g]? = some (.cells cs T fr)) (hl : cs.size = size) (h1 : ∀ u ∈ cs.toList, u.oneCell' = true)
    (h63 : n < 140737488355328) (hbytes : (n + 1) * bytes ≤ 140737488355328) (hbase : base ≤ w.heap.size)
    (h : ∀ v' w', w'.ownsRow base e size v' (n + 1) (xs ++ cs.toList) → w.grownBy w' v.ownBlock → wpList P ops Q rest (a.put o.dst v') w') : wpList P ops Q (o :: rest) a w :=
  wpList_plain hgd fun _ hK => wp_append1 s x t ho size bytes ht hi hz hsize hby hzs hsz hs hown hx hb hl h1 h63 hbytes hbase fun v' w' h2 h3 => hK _ _ (h v' w' h2 h3)
theorem step_append1 {ops : Array Oper} {o : Oper} {a : Act} {K : Act → World → Prop} {Q : Exit → Act → World → Prop} {E : Prop} (hgd : o.guard = none) (s x : Operand) (t : TypeId)
    (ho : o.op = .call { callee := .builtin .append, args := #[s, x], argTypes := #[t, t] })
    {e : TypeId} {i : TypeInfo} {z : Value} (size bytes : Nat) (ht : P.underlying t = some (.slice e)) (hi : P.info? e = some i) (hz : i.zero = some z)
    (hsize : i.size = size) (hby : i.bytes = bytes) (hzs : z.cells.size = size) (hsz : 0 < size)
    {base : Nat} {v : Value} {n : Nat} {xs : List Value} (hs : a.eval s = v) (hown : w.ownsRow base e size v n xs)
    {g : Nat} {cs : Array Value} {T : TypeId} {fr : Nat × Nat} (hx : a.eval x = .slice (some ⟨g, 0, none⟩) 1 1) (hb : w.heap[g]? = some (.cells cs T fr)) (hl : cs.size = size) (h1 : ∀ u ∈ cs.toList, u.oneCell' = true)
    (h63 : n < 140737488355328) (hbytes : (n + 1) * bytes ≤ 140737488355328) (hbase : base ≤ w.heap.size)
    (h : ∀ v' w', w'.ownsRow base e size v' (n + 1) (xs ++ cs.toList) → w.grownBy w' v.ownBlock → K (a.put o.dst v') w') :
    if Region.wanted o (yielded ops a.tmps) = true then Oper.wp P o a w K Q else E := by
  have hw : Region.wanted o (yielded ops a.tmps) = true := by simp [Region.wanted, hgd]
  rw [if_pos hw]
  exact wp_append1 s x t ho size bytes ht hi hz hsize hby hzs hsz hs hown hx hb hl h1 h63 hbytes hbase h
end

/-- the frame of an append onto a row of the call's own -/
theorem below_append {B base : Nat} {w0 w w' : World} {e : TypeId} {size n : Nat} {v : Value} {xs : List Value} (h : Below B w0 w) (hown : w.ownsRow base e size v n xs) (hg : w.grownBy w' v.ownBlock) (hB : B ≤ w.heap.size) (hb : B ≤ base) : Below B w0 w' :=
  h.grown hg hB fun k hk => Nat.le_trans hb (hown.lt k hk).1

/-- a row of the call's own stays where new memory comes -/
theorem own_gr {base : Nat} {w w' : World} {e : TypeId} {size n : Nat} {v : Value} {xs : List Value} (hown : w.ownsRow base e size v n xs) (h : Below w.heap.size w w') : w'.ownsRow base e size v n xs :=
  hown.kept (row := none) ⟨h.os, h.tape, h.output, h.size, fun k hk _ => h.block k hk⟩ (by cases v.ownBlock <;> simp)
theorem below_gr {B : Nat} {w0 w w' : World} (h : Below B w0 w) (hB : B ≤ w.heap.size) (hg : Below w.heap.size w w') : Below B w0 w' := h.trans (hg.mono hB)

theorem le_max {n : Nat} (h : n ≤ 1152921504606846976) : n ≤ maxLen := by unfold maxLen; omega
theorem le_max_list {l : List UInt8} (h : l.length ≤ 1152921504606846976) : (ByteArray.mk l.toArray).size ≤ maxLen := le_max h

theorem extract0 (b : ByteArray) (k : Nat) : (b.extract 0 k).data.toList = b.data.toList.take k := by
  simp [ByteArray.data_extract, List.extract_eq_take_drop]

/-- bytes as cells -/
def u8v (b : UInt8) : Value := .int .u8 b.toNat

/-- bytes of a row of the call's own, as a string -/
theorem run_own_string {P : Program} {w : World} {src dst e : TypeId} {base : Nat} {v : Value} {n : Nat} {l : List UInt8} (hs : P.underlying src = some (.slice e)) (he : P.underlying e = some (.int .u8)) (hd : P.underlying dst = some .string)
    (h : w.ownsRow base e 1 v n (l.map u8v)) : (convert src dst v).run P w = .ok (.string ⟨l.toArray⟩) w := by
  have hlen : n = l.length := by have := h.1; simp at this; omega
  rcases h.2 with ⟨rfl, h0⟩ | ⟨g, cap, cur, rfl, hb, hg, hr⟩
  · have : l = [] := List.eq_nil_of_length_eq_zero (by omega)
    subst this
    simp [convert, run_underlying hs, run_underlying hd, run_underlying he, Conv.bytesToString]
    rfl
  · subst hlen
    refine run_convert_bytes_back w src dst e ⟨g, 0, none⟩ cap l hs he hd fun j hj => ?_
    exact h.cells (g := g) rfl j _ (by simp [u8v, hj])

/-- cells that can be read from an address on -/
def Rd (w : World) (g off : Nat) (xs : List Value) : Prop := ∀ j u, xs[j]? = some u → w.cell? ⟨g, off + j, none⟩ = some u
/-- cells that can be read and written -/
def Wr (w : World) (g off : Nat) (xs : List Value) : Prop := ∀ j u, xs[j]? = some u → w.cell? ⟨g, off + j, none⟩ = some u ∧ w.frozen? ⟨g, off + j, none⟩ = false
theorem Wr.rd {w : World} {g off : Nat} {xs : List Value} (h : Wr w g off xs) : Rd w g off xs := fun j u hj => (h j u hj).1
theorem Rd.gr {w w' : World} {g off : Nat} {xs : List Value} (h : Rd w g off xs) (hg : Below w.heap.size w w') : Rd w' g off xs := fun j u hj => by
  have h1 := h j u hj
  rw [hg.cell (World.block_lt_of_cell? w _ h1)]; exact h1
theorem Wr.gr {w w' : World} {g off : Nat} {xs : List Value} (h : Wr w g off xs) (hg : Below w.heap.size w w') : Wr w' g off xs := fun j u hj => by
  have h1 := h j u hj
  rw [hg.cell (World.block_lt_of_cell? w _ h1.1), hg.frozen (World.block_lt_of_cell? w _ h1.1)]; exact h1
theorem Rd.at {w : World} {g off : Nat} {xs : List Value} (h : Rd w g off xs) (j : Nat) (hj : j < xs.length) : w.cell? ⟨g, off + j, none⟩ = some xs[j] := h j _ (List.getElem?_eq_getElem hj)
theorem Wr.at {w : World} {g off : Nat} {xs : List Value} (h : Wr w g off xs) (j : Nat) (hj : j < xs.length) : w.cell? ⟨g, off + j, none⟩ = some xs[j] ∧ w.frozen? ⟨g, off + j, none⟩ = false := h j _ (List.getElem?_eq_getElem hj)
theorem Wr.set {w : World} {g off : Nat} {xs : List Value} (h : Wr w g off xs) (j : Nat) (hj : j < xs.length) (u : Value) : Wr (w.setCell ⟨g, off + j, none⟩ u) g off (xs.set j u) := fun i v hi => by
  have hlen : i < xs.length := by simpa using (List.getElem?_eq_some_iff.1 hi).1
  refine ⟨?_, by rw [World.frozen?_setCell]; exact (h.at i hlen).2⟩
  by_cases e : i = j
  · subst e
    rw [List.getElem?_set_self hj] at hi
    rw [World.cell?_setCell_same _ _ _ (h.at i hj).1]; exact hi
  · rw [List.getElem?_set_ne (Ne.symm e)] at hi
    have hne : (⟨g, off + j, none⟩ : Addr) ≠ ⟨g, off + i, none⟩ := fun he => e (by have := congrArg Addr.off he; simp at this; omega)
    rw [World.cell?_setCell_other _ _ _ _ hne]
    exact (h i v hi).1
theorem Wr.grown {w w' : World} {g off : Nat} {xs : List Value} {row : Option Nat} (h : Wr w g off xs) (hg : w.grownBy w' row) (hne : row ≠ some g) : Wr w' g off xs := fun j u hj => by
  have h1 := h j u hj
  have hb := World.block_lt_of_cell? w _ h1.1
  have e := hg.block g hb (fun h => hne h.symm)
  rw [World.cell?_of_block (w := w) (a := ⟨g, off + j, none⟩) e, World.frozen?_of_block (w := w) (a := ⟨g, off + j, none⟩) e]
  exact h1
theorem Wr.far {w : World} {g off : Nat} {xs : List Value} (h : Wr w g off xs) {a : Addr} (ha : a.block ≠ g) (u : Value) : Wr (w.setCell a u) g off xs := fun j v hj => by
  have h1 := h j v hj
  rw [World.frozen?_setCell, World.cell?_setCell_other _ _ _ _ (fun e => ha (by rw [e]))]
  exact h1
theorem own_far {w : World} {base : Nat} {e : TypeId} {size : Nat} {v : Value} {n : Nat} {xs : List Value} (h : w.ownsRow base e size v n xs) {a : Addr} (ha : a.block < base) (u : Value) : (w.setCell a u).ownsRow base e size v n xs :=
  ownsRow_setCell_below h ha u
theorem made1 (z : Value) (n : Nat) : (madeCells #[z] n).toList = List.replicate n z := by
  apply List.ext_getElem?
  intro i
  by_cases h : i < n
  · simp [madeCells, h, Nat.mod_one]
  · simp [madeCells, h]
theorem blk_new (W : World) (o : Obj) (n : Nat) (h : W.heap.size = n) : (W.alloc o).heap[n]? = some o := h ▸ heap_alloc_new W o
theorem size_set (w : World) (a : Addr) (v : Value) : (w.setCell a v).heap.size = w.heap.size := by simp [World.setCell]
theorem Wr.append {w w' : World} {g off : Nat} {xs : List Value} (h : Wr w g off xs) {base : Nat} {e : TypeId} {size : Nat} {v : Value} {n : Nat} {ys : List Value} (hown : w.ownsRow base e size v n ys) (hg : w.grownBy w' v.ownBlock) (hb : g < base) : Wr w' g off xs :=
  h.grown hg fun e => by have := (hown.lt g e).1; omega
theorem own_weaken {w : World} {base base' : Nat} {e : TypeId} {size : Nat} {v : Value} {n : Nat} {ys : List Value} (hown : w.ownsRow base e size v n ys) (h : base' ≤ base) : w.ownsRow base' e size v n ys :=
  ⟨hown.1, hown.2.imp id fun ⟨g, cap, cur, h1, h2, h3⟩ => ⟨g, cap, cur, h1, Nat.le_trans h h2, h3⟩⟩
theorem Wr.nil (w : World) (g off : Nat) : Wr w g off [] := fun j u h => by simp at h
theorem rd_own {w : World} {base : Nat} {e : TypeId} {size : Nat} {g n cap : Nat} {xs : List Value} (h : w.ownsRow base e size (.slice (some ⟨g, 0, none⟩) n cap) n xs) : Wr w g 0 xs := fun j u hj => by
  have hl : j < n * size := by rw [← h.1]; exact (List.getElem?_eq_some_iff.1 hj).1
  rw [Nat.zero_add]
  exact ⟨(h.cellAt j hl).trans hj, h.frozenAt j⟩

/-- '[]byte(s)' -/
theorem conv_bytes {P : Program} {src dst e : TypeId} (hs : P.underlying src = some .string) (hd : P.underlying dst = some (.slice e)) (he : P.underlying e = some (.int .u8)) (w : World) (s : ByteArray) :
    ∃ cap w', (convert src dst (.string s)).run P w = .ok (.slice (some ⟨w.heap.size, 0, none⟩) s.size cap) w' ∧ Below w.heap.size w w' ∧ w.heap.size < w'.heap.size ∧ s.size ≤ cap ∧ Wr w' w.heap.size 0 (s.data.toList.map u8v) := by
  refine ⟨_, _, run_bytes_of_string w src dst e s hs hd he, ((Below.refl _ _).drew).alloc (Nat.le_refl _) _, by simp, ?_, ?_⟩
  · exact grownCap_ge _ _ _ _
  · intro j u hj
    have hl : j < s.data.size := by simpa using (List.getElem?_eq_some_iff.1 hj).1
    rw [Nat.zero_add]
    have h1 := World.cell?_alloc_mark w.drew (bytesRow s (grownCap w s.size 0 e)) e ((bytesRow s (grownCap w s.size 0 e)).size, (bytesRow s (grownCap w s.size 0 e)).size + 1) j
    have h2 := World.frozen?_alloc_mark w.drew (bytesRow s (grownCap w s.size 0 e)) e (bytesRow s (grownCap w s.size 0 e)).size ((bytesRow s (grownCap w s.size 0 e)).size + 1) j
    rw [bytesRow_at _ _ _ hl] at h1
    have hsz : s.data.size ≤ (bytesRow s (grownCap w s.size 0 e)).size := by simp [bytesRow]
    refine ⟨h1.trans ?_, h2.trans ?_⟩
    · rw [← hj, List.getElem?_map, Array.getElem?_toList, Array.getElem?_eq_getElem hl]; rfl
    · have : decide ((bytesRow s (grownCap w s.size 0 e)).size ≤ j) = false := by simp; omega
      rw [this]; rfl
/-- 'string(b)' -/
theorem conv_string {P : Program} {src dst e : TypeId} (hs : P.underlying src = some (.slice e)) (he : P.underlying e = some (.int .u8)) (hd : P.underlying dst = some .string) {w : World} {g off n cap : Nat} {l : List UInt8}
    (hn : n = l.length) (h : Rd w g off (l.map u8v)) : (convert src dst (.slice (some ⟨g, off, none⟩) n cap)).run P w = .ok (.string ⟨l.toArray⟩) w := by
  subst hn
  refine run_convert_bytes_back w src dst e ⟨g, off, none⟩ cap l hs he hd fun j hj => ?_
  have := h.at j (by simpa using hj)
  rw [show (⟨g, off, none⟩ : Addr).add j = ⟨g, off + j, none⟩ by unfold Addr.add; split <;> simp_all]
  rw [this]; simp [u8v]
end Go.Proofs.Ytnicebdkejkieaa.kit

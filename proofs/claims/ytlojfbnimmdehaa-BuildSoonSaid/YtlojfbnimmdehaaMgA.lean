/- Part 1 of what BuildSoon needs: Kit, Law, Open, Mix, Eng, Step, Ops, Opm, Cls, Ty, OpenE, Read. -/
import Derived.WalkKit
import Derived.WalkSpells
import Derived.WalkLawsBesides
import Derived.Deep.RegionLaw
import Derived.Deep.AppendLies
import Derived.Deep.QuietTactic
import Derived.BigQuiet
import Derived.Deep.DeepCutAuto
import Derived.Lib.Hide
import Derived.Test.YtlojfbnimmdehaaRows
import Derived.ProofKit
import Derived.OpenShut
import Derived.ShutString
import Derived.SizedLaws
import Derived.JoinedCond
import Derived.Deep.CondSized
import Derived.Deep.Quiet
import Derived.StillTail
import Derived.Deep.LoopGhost
import Derived.Laws.BitsLemmas
import Derived.Laws.BytesString
import Derived.Test.YtlojfbnimmdehaaProg
/- Kit -/
namespace Go.Proofs.Ytlojfbnimmdehaa.kit
open Go.RowKit

section
variable {P : Program} {w : World}
/-- One element (of whatever number of cells) is appended: at an operation. -/
theorem wp_append1 {o : Oper} {a : Act} {K : Act → World → Prop} {Q : Exit → Act → World → Prop} (s x : Operand) (t : TypeId)
    (ho : o.op = .call { callee := .builtin .append, args := #[s, x], argTypes := #[t, t] })
    {e : TypeId} {i : TypeInfo} {z : Value} (size bytes : Nat) (ht : P.underlying t = some (.slice e)) (hi : P.info? e = some i) (hz : i.zero = some z)
    (hsize : i.size = size) (hby : i.bytes = bytes) (hzs : z.cells.size = size) (hsz : 0 < size)
    {base : Nat} {v : Value} {n : Nat} {xs : List Value} (hs : a.eval s = v) (hown : w.ownsRow base e size v n xs)
    {g : Nat} {cs : Array Value} {T : TypeId} {fr : Nat × Nat} (hx : a.eval x = .slice (some ⟨g, 0, none⟩) 1 1) (hb : w.heap[g]? = some (.cells cs T fr)) (hl : cs.size = size) (h1 : ∀ u ∈ cs.toList, u.oneCell' = true)
    (h63 : n < 140737488355328) (hbytes : (n + 1) * bytes ≤ 140737488355328) (hbase : base ≤ w.heap.size)
    (h : ∀ v' w', w'.ownsRow base e size v' (n + 1) (xs ++ cs.toList) → w.grownBy w' v.ownBlock → K (a.put o.dst v') w') : o.wp P a w K Q :=
  wp_append_own w s x t ho base e i z size bytes ht hi hz hsize hby hzs hsz v n xs hs hown ⟨g, 0, none⟩ 1 1 cs.toList hx (by simp [hl]) (World.news_of_block hb) h1 (by unfold maxLen; omega) hbytes hbase fun v' w' h2 h3 _ => h v' w' h2 h3
theorem wpList_append1 {ops : Array Oper} {rest : List Oper} {o : Oper} {a : Act} {Q : Exit → Act → World → Prop} (hgd : o.guard = none) (s x : Operand) (t : TypeId)
    (ho : o.op = .call { callee := .builtin .append, args := #[s, x], argTypes := #[t, t] })
    {e : TypeId} {i : TypeInfo} {z : Value} (size bytes : Nat) (ht : P.underlying t = some (.slice e)) (hi : P.info? e = some i) (hz : i.zero = some z)
    (hsize : i.size = size) (hby : i.bytes = bytes) (hzs : z.cells.size = size) (hsz : 0 < size)
    {base : Nat} {v : Value} {n : Nat} {xs : List Value} (hs : a.eval s = v) (hown : w.ownsRow base e size v n xs)
    {g : Nat} {cs : Array Value} {T : TypeId} {fr : Nat × Nat} (hx : a.eval x = .slice (some ⟨g, 0, none⟩) 1 1) (hb : w.heap[g]? = some (.cells cs T fr)) (hl : cs.size = size) (h1 : ∀ u ∈ cs.toList, u.oneCell' = true)
    (h63 : n < 140737488355328) (hbytes : (n + 1) * bytes ≤ 140737488355328) (hbase : base ≤ w.heap.size)
    (h : ∀ v' w', w'.ownsRow base e size v' (n + 1) (xs ++ cs.toList) → w.grownBy w' v.ownBlock → wpList P ops Q rest (a.put o.dst v') w') : wpList P ops Q (o :: rest) a w :=
  wpList_plain hgd fun _ hK => wp_append1 s x t ho size bytes ht hi hz hsize hby hzs hsz hs hown hx hb hl h1 h63 hbytes hbase fun v' w' h2 h3 => hK _ _ (h v' w' h2 h3)
theorem step_append1 {ops : Array Oper} {o : Oper} {a : Act} {K : Act → World → Prop} {Q : Exit → Act → World → Prop} {E : Prop} (hgd : o.guard = none) (s x : Operand) (t : TypeId)
    (ho : o.op = .call { callee := .builtin .append, args := #[s, x], argTypes := #[t, t] })
    {e : TypeId} {i : TypeInfo} {z : Value} (size bytes : Nat) (ht : P.underlying t = some (.slice e)) (hi : P.info? e = some i) (hz : i.zero = some z)
    (hsize : i.size = size) (hby : i.bytes = bytes) (hzs : z.cells.size = size) (hsz : 0 < size)
    {base : Nat} {v : Value} {n : Nat} {xs : List Value} (hs : a.eval s = v) (hown : w.ownsRow base e size v n xs)
    {g : Nat} {cs : Array Value} {T : TypeId} {fr : Nat × Nat} (hx : a.eval x = .slice (some ⟨g, 0, none⟩) 1 1) (hb : w.heap[g]? = some (.cells cs T fr)) (hl : cs.size = size) (h1 : ∀ u ∈ cs.toList, u.oneCell' = true)
    (h63 : n < 140737488355328) (hbytes : (n + 1) * bytes ≤ 140737488355328) (hbase : base ≤ w.heap.size)
    (h : ∀ v' w', w'.ownsRow base e size v' (n + 1) (xs ++ cs.toList) → w.grownBy w' v.ownBlock → K (a.put o.dst v') w') :
    if Region.wanted o (yielded ops a.tmps) = true then Oper.wp P o a w K Q else E := by
  have hw : Region.wanted o (yielded ops a.tmps) = true := by simp [Region.wanted, hgd]
  rw [if_pos hw]
  exact wp_append1 s x t ho size bytes ht hi hz hsize hby hzs hsz hs hown hx hb hl h1 h63 hbytes hbase h
end

/-- the frame of an append onto a row of the call's own -/
theorem below_append {B base : Nat} {w0 w w' : World} {e : TypeId} {size n : Nat} {v : Value} {xs : List Value} (h : Below B w0 w) (hown : w.ownsRow base e size v n xs) (hg : w.grownBy w' v.ownBlock) (hB : B ≤ w.heap.size) (hb : B ≤ base) : Below B w0 w' :=
  h.grown hg hB fun k hk => Nat.le_trans hb (hown.lt k hk).1

/-- a row of the call's own stays where new memory comes -/
theorem own_gr {base : Nat} {w w' : World} {e : TypeId} {size n : Nat} {v : Value} {xs : List Value} (hown : w.ownsRow base e size v n xs) (h : Below w.heap.size w w') : w'.ownsRow base e size v n xs :=
  hown.kept (row := none) ⟨h.os, h.tape, h.output, h.size, fun k hk _ => h.block k hk⟩ (by cases v.ownBlock <;> simp)
theorem below_gr {B : Nat} {w0 w w' : World} (h : Below B w0 w) (hB : B ≤ w.heap.size) (hg : Below w.heap.size w w') : Below B w0 w' := h.trans (hg.mono hB)

theorem le_max {n : Nat} (h : n ≤ 1152921504606846976) : n ≤ maxLen := by unfold maxLen; omega
theorem le_max_list {l : List UInt8} (h : l.length ≤ 1152921504606846976) : (ByteArray.mk l.toArray).size ≤ maxLen := le_max h

theorem extract0 (b : ByteArray) (k : Nat) : (b.extract 0 k).data.toList = b.data.toList.take k := by
  simp [ByteArray.data_extract, List.extract_eq_take_drop]

/-- bytes as cells -/
def u8v (b : UInt8) : Value := .int .u8 b.toNat

/-- bytes of a row of the call's own, as a string -/
theorem run_own_string {P : Program} {w : World} {src dst e : TypeId} {base : Nat} {v : Value} {n : Nat} {l : List UInt8} (hs : P.underlying src = some (.slice e)) (he : P.underlying e = some (.int .u8)) (hd : P.underlying dst = some .string)
    (h : w.ownsRow base e 1 v n (l.map u8v)) : (convert src dst v).run P w = .ok (.string ⟨l.toArray⟩) w := by
  have hlen : n = l.length := by have := h.1; simp at this; omega
  rcases h.2 with ⟨rfl, h0⟩ | ⟨g, cap, cur, rfl, hb, hg, hr⟩
  · have : l = [] := List.eq_nil_of_length_eq_zero (by omega)
    subst this
    simp [convert, run_underlying hs, run_underlying hd, run_underlying he, Conv.bytesToString]
    rfl
  · subst hlen
    refine run_convert_bytes_back w src dst e ⟨g, 0, none⟩ cap l hs he hd fun j hj => ?_
    exact h.cells (g := g) rfl j _ (by simp [u8v, hj])

/-- cells that can be read from an address on -/
def Rd (w : World) (g off : Nat) (xs : List Value) : Prop := ∀ j u, xs[j]? = some u → w.cell? ⟨g, off + j, none⟩ = some u
/-- cells that can be read and written -/
def Wr (w : World) (g off : Nat) (xs : List Value) : Prop := ∀ j u, xs[j]? = some u → w.cell? ⟨g, off + j, none⟩ = some u ∧ w.frozen? ⟨g, off + j, none⟩ = false
theorem Wr.rd {w : World} {g off : Nat} {xs : List Value} (h : Wr w g off xs) : Rd w g off xs := fun j u hj => (h j u hj).1
theorem Rd.gr {w w' : World} {g off : Nat} {xs : List Value} (h : Rd w g off xs) (hg : Below w.heap.size w w') : Rd w' g off xs := fun j u hj => by
  have h1 := h j u hj
  rw [hg.cell (World.block_lt_of_cell? w _ h1)]; exact h1
theorem Wr.gr {w w' : World} {g off : Nat} {xs : List Value} (h : Wr w g off xs) (hg : Below w.heap.size w w') : Wr w' g off xs := fun j u hj => by
  have h1 := h j u hj
  rw [hg.cell (World.block_lt_of_cell? w _ h1.1), hg.frozen (World.block_lt_of_cell? w _ h1.1)]; exact h1
theorem Rd.at {w : World} {g off : Nat} {xs : List Value} (h : Rd w g off xs) (j : Nat) (hj : j < xs.length) : w.cell? ⟨g, off + j, none⟩ = some xs[j] := h j _ (List.getElem?_eq_getElem hj)
theorem Wr.at {w : World} {g off : Nat} {xs : List Value} (h : Wr w g off xs) (j : Nat) (hj : j < xs.length) : w.cell? ⟨g, off + j, none⟩ = some xs[j] ∧ w.frozen? ⟨g, off + j, none⟩ = false := h j _ (List.getElem?_eq_getElem hj)
theorem Wr.set {w : World} {g off : Nat} {xs : List Value} (h : Wr w g off xs) (j : Nat) (hj : j < xs.length) (u : Value) : Wr (w.setCell ⟨g, off + j, none⟩ u) g off (xs.set j u) := fun i v hi => by
  have hlen : i < xs.length := by simpa using (List.getElem?_eq_some_iff.1 hi).1
  refine ⟨?_, by rw [World.frozen?_setCell]; exact (h.at i hlen).2⟩
  by_cases e : i = j
  · subst e
    rw [List.getElem?_set_self hj] at hi
    rw [World.cell?_setCell_same _ _ _ (h.at i hj).1]; exact hi
  · rw [List.getElem?_set_ne (Ne.symm e)] at hi
    have hne : (⟨g, off + j, none⟩ : Addr) ≠ ⟨g, off + i, none⟩ := fun he => e (by have := congrArg Addr.off he; simp at this; omega)
    rw [World.cell?_setCell_other _ _ _ _ hne]
    exact (h i v hi).1
theorem Wr.grown {w w' : World} {g off : Nat} {xs : List Value} {row : Option Nat} (h : Wr w g off xs) (hg : w.grownBy w' row) (hne : row ≠ some g) : Wr w' g off xs := fun j u hj => by
  have h1 := h j u hj
  have hb := World.block_lt_of_cell? w _ h1.1
  have e := hg.block g hb (fun h => hne h.symm)
  rw [World.cell?_of_block (w := w) (a := ⟨g, off + j, none⟩) e, World.frozen?_of_block (w := w) (a := ⟨g, off + j, none⟩) e]
  exact h1
theorem Wr.far {w : World} {g off : Nat} {xs : List Value} (h : Wr w g off xs) {a : Addr} (ha : a.block ≠ g) (u : Value) : Wr (w.setCell a u) g off xs := fun j v hj => by
  have h1 := h j v hj
  rw [World.frozen?_setCell, World.cell?_setCell_other _ _ _ _ (fun e => ha (by rw [e]))]
  exact h1
theorem own_far {w : World} {base : Nat} {e : TypeId} {size : Nat} {v : Value} {n : Nat} {xs : List Value} (h : w.ownsRow base e size v n xs) {a : Addr} (ha : a.block < base) (u : Value) : (w.setCell a u).ownsRow base e size v n xs :=
  ownsRow_setCell_below h ha u
theorem made1 (z : Value) (n : Nat) : (madeCells #[z] n).toList = List.replicate n z := by
  apply List.ext_getElem?
  intro i
  by_cases h : i < n
  · simp [madeCells, h, Nat.mod_one]
  · simp [madeCells, h]
theorem blk_new (W : World) (o : Obj) (n : Nat) (h : W.heap.size = n) : (W.alloc o).heap[n]? = some o := h ▸ heap_alloc_new W o
theorem size_set (w : World) (a : Addr) (v : Value) : (w.setCell a v).heap.size = w.heap.size := by simp [World.setCell]
theorem Wr.append {w w' : World} {g off : Nat} {xs : List Value} (h : Wr w g off xs) {base : Nat} {e : TypeId} {size : Nat} {v : Value} {n : Nat} {ys : List Value} (hown : w.ownsRow base e size v n ys) (hg : w.grownBy w' v.ownBlock) (hb : g < base) : Wr w' g off xs :=
  h.grown hg fun e => by have := (hown.lt g e).1; omega
theorem own_weaken {w : World} {base base' : Nat} {e : TypeId} {size : Nat} {v : Value} {n : Nat} {ys : List Value} (hown : w.ownsRow base e size v n ys) (h : base' ≤ base) : w.ownsRow base' e size v n ys :=
  ⟨hown.1, hown.2.imp id fun ⟨g, cap, cur, h1, h2, h3⟩ => ⟨g, cap, cur, h1, Nat.le_trans h h2, h3⟩⟩
theorem Wr.nil (w : World) (g off : Nat) : Wr w g off [] := fun j u h => by simp at h
theorem rd_own {w : World} {base : Nat} {e : TypeId} {size : Nat} {g n cap : Nat} {xs : List Value} (h : w.ownsRow base e size (.slice (some ⟨g, 0, none⟩) n cap) n xs) : Wr w g 0 xs := fun j u hj => by
  have hl : j < n * size := by rw [← h.1]; exact (List.getElem?_eq_some_iff.1 hj).1
  rw [Nat.zero_add]
  exact ⟨(h.cellAt j hl).trans hj, h.frozenAt j⟩

/-- '[]byte(s)' -/
theorem conv_bytes {P : Program} {src dst e : TypeId} (hs : P.underlying src = some .string) (hd : P.underlying dst = some (.slice e)) (he : P.underlying e = some (.int .u8)) (w : World) (s : ByteArray) :
    ∃ cap w', (convert src dst (.string s)).run P w = .ok (.slice (some ⟨w.heap.size, 0, none⟩) s.size cap) w' ∧ Below w.heap.size w w' ∧ w.heap.size < w'.heap.size ∧ s.size ≤ cap ∧ Wr w' w.heap.size 0 (s.data.toList.map u8v) := by
  refine ⟨_, _, run_bytes_of_string w src dst e s hs hd he, ((Below.refl _ _).drew).alloc (Nat.le_refl _) _, by simp, ?_, ?_⟩
  · exact grownCap_ge _ _ _ _
  · intro j u hj
    have hl : j < s.data.size := by simpa using (List.getElem?_eq_some_iff.1 hj).1
    rw [Nat.zero_add]
    have h1 := World.cell?_alloc_mark w.drew (bytesRow s (grownCap w s.size 0 e)) e ((bytesRow s (grownCap w s.size 0 e)).size, (bytesRow s (grownCap w s.size 0 e)).size + 1) j
    have h2 := World.frozen?_alloc_mark w.drew (bytesRow s (grownCap w s.size 0 e)) e (bytesRow s (grownCap w s.size 0 e)).size ((bytesRow s (grownCap w s.size 0 e)).size + 1) j
    rw [bytesRow_at _ _ _ hl] at h1
    have hsz : s.data.size ≤ (bytesRow s (grownCap w s.size 0 e)).size := by simp [bytesRow]
    refine ⟨h1.trans ?_, h2.trans ?_⟩
    · rw [← hj, List.getElem?_map, Array.getElem?_toList, Array.getElem?_eq_getElem hl]; rfl
    · have : decide ((bytesRow s (grownCap w s.size 0 e)).size ≤ j) = false := by simp; omega
      rw [this]; rfl
/-- 'string(b)' -/
theorem conv_string {P : Program} {src dst e : TypeId} (hs : P.underlying src = some (.slice e)) (he : P.underlying e = some (.int .u8)) (hd : P.underlying dst = some .string) {w : World} {g off n cap : Nat} {l : List UInt8}
    (hn : n = l.length) (h : Rd w g off (l.map u8v)) : (convert src dst (.slice (some ⟨g, off, none⟩) n cap)).run P w = .ok (.string ⟨l.toArray⟩) w := by
  subst hn
  refine run_convert_bytes_back w src dst e ⟨g, off, none⟩ cap l hs he hd fun j hj => ?_
  have := h.at j (by simpa using hj)
  rw [show (⟨g, off, none⟩ : Addr).add j = ⟨g, off + j, none⟩ by unfold Addr.add; split <;> simp_all]
  rw [this]; simp [u8v]
end Go.Proofs.Ytlojfbnimmdehaa.kit

/- Law -/
namespace Go.Proofs.Ytlojfbnimmdehaa.law
open Go.ChangeShapes Go.WideShapes Go.ChangeAt Go.RowKit

theorem own : ownKnob Try.prog.godebug = none := by kernel_rfl
theorem laidOut : laidOutB Try.prog = true := by kernel_rfl

/-- what is known of the arguments ahead of the call -/
structure Given {H : Type} (enc : TypeId × Value → H) (fn : Func) (W : World) (base : Nat) (args : Array Value) (ds : List (DataW H)) (p : List MemPlace) : Prop where
  val : ∀ (j : Nat) t v, fn.params[j]? = some t → args[j]? = some v → Value.okWide Try.prog W .any base t v
  trod : DataW.TrodAll enc Try.prog W 0 (fun _ => true) true fn.params.toList args.toList ds p
  sized : (DataW.weightsEach Try.prog fn.params.toList ds).all (· ≤ reachBytes) = true
  free : W.noneFrozen p

/-- each parameter's type can be read -/
noncomputable def readB (fn : Func) : Bool := fn.params.toList.all fun t => Try.prog.readableRec t && decide (t < Try.prog.types.size)

section
variable {H : Type} {enc : TypeId × Value → H}
theorem trodAll_stays {P : Program} (hl : laidOutB P = true) {W W' : World} {sp' : Nat → Bool} : ∀ {ts : List TypeId} {vs : List Value} {ds : List (DataW H)} {ps : List MemPlace}, (ts.all fun t => P.readableRec t && decide (t < P.types.size)) = true →
    DataW.TrodAll enc P W 0 (fun _ => true) true ts vs ds ps → (∀ p ∈ ps, W.sameAt W' p) → (∀ p ∈ ps, sp' p.block = true) → DataW.TrodAll enc P W' 0 sp' true ts vs ds ps
  | [], [], [], _, _, h, _, _ => h
  | t :: ts, v :: vs, d :: ds, _, hb, ⟨p, q, h1, h2, e⟩, h3, h4 => by
    simp only [List.all_cons, Bool.and_eq_true, decide_eq_true_eq] at hb
    subst e
    exact ⟨p, q, WideElems.Trod_stays hl hb.1.1 hb.1.2 h1 (fun x hx => h3 x (by simp [hx])) (fun x hx => h4 x (by simp [hx])),
      trodAll_stays hl hb.2 h2 (fun x hx => h3 x (by simp [hx])) (fun x hx => h4 x (by simp [hx])), rfl⟩
  | [], _ :: _, _, _, _, h, _, _ => h.elim
  | [], [], _ :: _, _, _, h, _, _ => h.elim
  | _ :: _, [], _, _, _, h, _, _ => h.elim
  | _ :: _, _ :: _, [], _, _, h, _, _ => h.elim

theorem trodAll_length {P : Program} {W : World} {sp : Nat → Bool} : ∀ {ts : List TypeId} {vs : List Value} {ds : List (DataW H)} {ps : List MemPlace}, DataW.TrodAll enc P W 0 sp true ts vs ds ps → ds.length = ts.length
  | [], [], [], _, _ => rfl
  | _ :: ts, _ :: vs, _ :: ds, _, ⟨_, _, _, h2, _⟩ => by simp [trodAll_length h2]
  | [], _ :: _, _, _, h => h.elim
  | [], [], _ :: _, _, h => h.elim
  | _ :: _, [], _, _, h => h.elim
  | _ :: _, _ :: _, [], _, h => h.elim

/-- what a law's specification says -/
def SaysTrue (fn : Func) (s : ChangeSpec) : Prop := s.vars = [] ∧ ∀ (H : Type) (ds : List (DataW H)), ds.length = fn.params.size → s.fn H ds = { results := [.lit (.bool true)], args := ds }

theorem post_of {fn : Func} {s : ChangeSpec} {W W' : World} {args : Array Value} {ds gs : List (DataW H)} {before : List MemPlace} (hs : SaysTrue fn s) (hread : readB fn = true) (hres : fn.resultTypes = #[4])
    (hW : DataW.Whole enc Try.prog fn.params.toList s.vars false W args.toList ds gs before) (hb : Below W.heap.size W W') :
    s.post enc Try.prog fn false true false false W args (.bool true) W' := by
  obtain ⟨hv, hfn⟩ := hs
  have hW' := hW
  obtain ⟨p, q, hA, hV, rfl, hfz, hnd⟩ := hW
  rw [hv] at hV
  obtain ⟨rfl, rfl⟩ := trodVars_none hV
  have hlen : ds.length = fn.params.size := by rw [trodAll_length hA]; simp
  have hlt : ∀ x ∈ p, x.block < W.heap.size := fun x hx => hW'.lt x (by simp [hx])
  have he : s.fn H (ds ++ []) = { results := [.lit (.bool true)], args := ds } := by rw [List.append_nil]; exact hfn H ds hlen
  refine ⟨ds, [], p ++ [], [], p, [], hW', ?_, ?_, ?_, hb.frame _, fun h => by cases h⟩
  · rw [he, hres]
    exact trodAll_mk1 (shut_bool Try.underlying4 true)
  · rw [he]
    exact trodAll_stays laidOut hread hA (fun x hx => hb.same (hlt x hx)) (fun x hx => by simpa using hlt x hx)
  · rw [he, hv]
    rfl
end

set_option maxRecDepth 100000 in
theorem said {os : Os} {f : FuncId} {fn : Func} {s : ChangeSpec} (started : os.Started) (noInit : Try.prog.inits.idxOf? f = none) (hf : Try.prog.funcs[f]? = some fn) (hs : SaysTrue fn s) (hread : readB fn = true) (hres : fn.resultTypes = #[4])
    {H : Type} {enc : TypeId × Value → H}
    (witness : ∃ (w : World) (tape : Tape) (i : Input), w.os = os ∧ (w.forCall tape i).Shaped Try.checked.prog ∧ i.vars = [] ∧ Input.okWide Try.checked.prog (w.forCall tape i) .any w.heap.size f i ∧
      s.pre6 enc Try.checked.prog fn [] false (w.forCall tape i).memory i.args ∧ ({} : Assume).holds Try.checked.prog (lone (Frame.enter Try.checked.prog f i.args .normal) [] (w.forCall tape i)))
    (walk : ∀ (W : World) (base : Nat) (args : Array Value) (ds : List (DataW H)) (p : List MemPlace), Given enc fn W base args ds p → Calls Try.prog f args W fun e W' => e = .returned (.bool true) ∧ Below W.heap.size W W') :
    ReturnsInHanded {} Try.checked os f .any (s.pre6 enc Try.prog fn [] false) (s.post enc Try.prog fn false true false false) := by
  refine returnsInHanded_of_change_sized (C := Try.checked) own started noInit hf witness ?_
  intro W base args ds gs before hval hW _ hsz _
  have hW' := hW
  obtain ⟨p, q, hA, hV, rfl, hfz, hnd⟩ := hW
  rw [hs.1] at hV
  obtain ⟨rfl, rfl⟩ := trodVars_none hV
  have hsz' : (DataW.weightsEach Try.prog fn.params.toList ds).all (· ≤ reachBytes) = true := by
    have e : s.plain.varTypes Try.prog = [] := by simp [ChangeSpec.plain, DataSpec.varTypes, hs.1]
    have := hsz
    rw [show s.plain.varTypes Try.checked.prog = [] from e] at this
    rw [List.append_nil, List.append_nil] at this
    exact this
  refine (walk W base args ds p ⟨hval, hA, hsz', fun b off h => hfz b off (by simp [h])⟩).mono fun e W' ⟨he, hb⟩ => ?_
  exact ⟨_, he, post_of hs hread hres hW' hb⟩

set_option maxRecDepth 100000 in
/-- the same where what is read is small -/
theorem upto {os : Os} {f : FuncId} {fn : Func} {s : ChangeSpec} {F : Stop.Interp} (started : os.Started) (noInit : Try.prog.inits.idxOf? f = none) (hf : Try.prog.funcs[f]? = some fn) (hs : SaysTrue fn s) (hread : readB fn = true) (hres : fn.resultTypes = #[4])
    {H : Type} {enc : TypeId × Value → H}
    (witness : ∃ (w : World) (tape : Tape) (i : Input), w.os = os ∧ (w.forCall tape i).Shaped Try.checked.prog ∧ i.vars = [] ∧ Input.okWide Try.checked.prog (w.forCall tape i) .any w.heap.size f i ∧
      (Rows.OpenSpec.upto s).pre6 enc Try.checked.prog fn [] false (w.forCall tape i).memory i.args ∧ ({} : Assume).holds Try.checked.prog (lone (Frame.enter Try.checked.prog f i.args .normal) [] (w.forCall tape i)))
    (walk : ∀ (W : World) (base : Nat) (args : Array Value) (ds : List (DataW H)) (p : List MemPlace), Given enc fn W base args ds p → Rows.uptoSmall H ds = true → Calls Try.prog f args W fun e W' => e = .returned (.bool true) ∧ Below W.heap.size W W') :
    ReturnsInHanded {} Try.checked os f .any ((Rows.OpenSpec.upto s).pre6 enc Try.prog fn [] false) (((Rows.OpenSpec.upto s).at F).post enc Try.prog fn false true false false) := by
  refine returnsInHanded_of_cond_sized (C := Try.checked) (s := Rows.OpenSpec.upto s) (k := Rows.uptoSmall) rfl own started noInit hf witness ?_
  intro W base args ds gs before hval hW _ hk hsz _
  have hW' := hW
  obtain ⟨p, q, hA, hV, rfl, hfz, hnd⟩ := hW
  have hvars : (Rows.OpenSpec.upto s).vars = [] := hs.1
  rw [hvars] at hV
  obtain ⟨rfl, rfl⟩ := trodVars_none hV
  have hsz' : (DataW.weightsEach Try.prog fn.params.toList ds).all (· ≤ reachBytes) = true := by
    have e : (Rows.OpenSpec.upto s).bare.plain.varTypes Try.prog = [] := by simp [OpenSpec.bare, ChangeSpec.plain, DataSpec.varTypes, hvars]
    have := hsz
    rw [show (Rows.OpenSpec.upto s).bare.plain.varTypes Try.checked.prog = [] from e] at this
    rw [List.append_nil, List.append_nil] at this
    exact this
  refine (walk W base args ds p ⟨hval, hA, hsz', fun b off h => hfz b off (by simp [h])⟩ (by simpa using hk)).mono fun e W' ⟨he, hb⟩ => ?_
  exact ⟨_, he, post_of (s := (Rows.OpenSpec.upto s).at F) hs hread hres hW' hb⟩
end Go.Proofs.Ytlojfbnimmdehaa.law

/- Open -/
namespace Go.Proofs.Ytlojfbnimmdehaa.kit
open Go.ChangeShapes Go.WideShapes Go.ChangeAt Go.RowKit

/-- a slice of n elements whose cells are xs (read alone) -/
def Sl (w : World) (v : Value) (n : Nat) (xs : List Value) : Prop :=
  ∃ base cap, v = .slice base n cap ∧ n ≤ cap ∧ cap ≤ maxLen ∧ (0 < n → ∃ b off, base = some ⟨b, off, none⟩ ∧ Rd w b off xs)
theorem Sl.gr {w w' : World} {v : Value} {n : Nat} {xs : List Value} (h : Sl w v n xs) (hg : Below w.heap.size w w') : Sl w' v n xs :=
  let ⟨base, cap, h1, h2, h3, h4⟩ := h
  ⟨base, cap, h1, h2, h3, fun hn => let ⟨b, off, h5, h6⟩ := h4 hn; ⟨b, off, h5, h6.gr hg⟩⟩
theorem Sl.of_own {w : World} {base : Nat} {e : TypeId} {size : Nat} {v : Value} {n : Nat} {xs : List Value} (h : w.ownsRow base e size v n xs) : Sl w v n xs := by
  rcases h.2 with ⟨rfl, rfl⟩ | ⟨g, cap, cur, rfl, hb, hg, hn, hm, r⟩
  · exact ⟨none, 0, rfl, Nat.le_refl _, by decide, fun h => by omega⟩
  · exact ⟨_, cap, rfl, hn, hm, fun _ => ⟨g, 0, rfl, (rd_own h).rd⟩⟩

/-- a slice over a block that is known whole -/
theorem sl_block {w : World} {g : Nat} {cs : Array Value} {T : TypeId} {fr : Nat × Nat} {n : Nat} {xs : List Value} (hb : w.heap[g]? = some (.cells cs T fr)) (hx : cs.toList = xs) (hn : n ≤ maxLen) : Sl w (.slice (some ⟨g, 0, none⟩) n n) n xs := by
  subst hx
  refine ⟨_, n, rfl, Nat.le_refl _, hn, fun _ => ⟨g, 0, rfl, fun j u hj => ?_⟩⟩
  rw [Nat.zero_add, cell_of_row w g j cs T fr hb]
  simpa using hj

theorem mapM_some {α β : Type} {f : α → Option β} : ∀ {l : List α} {r : List β}, l.mapM f = some r → r.length = l.length ∧ ∀ (i : Nat) (a : α), l[i]? = some a → ∃ b, f a = some b ∧ r[i]? = some b
  | [], r, h => by
    simp at h; subst h; exact ⟨rfl, fun i a h => by simp at h⟩
  | x :: l, r, h => by
    rw [List.mapM_cons] at h
    cases hx : f x with
    | none => rw [hx] at h; simp at h
    | some y =>
      rw [hx] at h
      cases hr : l.mapM f with
      | none => rw [hr] at h; simp at h
      | some r' =>
        rw [hr] at h
        simp at h
        subst h
        obtain ⟨h1, h2⟩ := mapM_some hr
        refine ⟨by simp [h1], fun i a hi => ?_⟩
        cases i with
        | zero => simp at hi; subst hi; exact ⟨y, hx, rfl⟩
        | succ i => simp at hi; simpa using h2 i a hi

theorem cells_some {w : World} {a : Addr} {n : Nat} {cs : List Value} (h : w.cells? 0 a n = some cs) : cs.length = n ∧ ∀ j, j < n → w.cell? (a.add j) = cs[j]? := by
  unfold World.cells? at h
  rw [if_pos (Nat.zero_le _)] at h
  obtain ⟨h1, h2⟩ := mapM_some h
  rw [List.length_range] at h1
  refine ⟨h1, fun j hj => ?_⟩
  obtain ⟨b, hb, hc⟩ := h2 j j (by simp [hj])
  rw [hb, hc]

theorem addr_add (b off j : Nat) : (⟨b, off, none⟩ : Addr).add j = ⟨b, off + j, none⟩ := by unfold Addr.add; split <;> simp_all
theorem spot_none {w : World} {a : Addr} {v : Value} (h : w.cell? a = some v) : a.spot = none := by
  unfold World.cell? at h
  split at h
  · cases hs : a.spot with
    | none => rfl
    | some n => rw [hs] at h; simp at h
  · cases h
theorem flatMap_get {α : Type} {enc : α → List Value} {c : Nat} (hlen : ∀ a, (enc a).length = c) : ∀ (l : List α) (i j : Nat) (a : α), l[i]? = some a → j < c → (l.flatMap enc)[i * c + j]? = (enc a)[j]?
  | [], i, j, a, h, _ => by simp at h
  | x :: l, 0, j, a, h, hj => by
    simp at h; subst h
    rw [List.flatMap_cons, List.getElem?_append_left (by rw [hlen]; omega)]
    simp
  | x :: l, i + 1, j, a, h, hj => by
    have ih := flatMap_get hlen l i j a (by simpa using h) hj
    rw [List.flatMap_cons, List.getElem?_append_right (by rw [hlen, Nat.add_mul]; omega), hlen, show (i + 1) * c + j - c = i * c + j by rw [Nat.add_mul]; omega]
    exact ih
theorem flatMap_len {α : Type} {enc : α → List Value} {c : Nat} (hlen : ∀ a, (enc a).length = c) (l : List α) : (l.flatMap enc).length = l.length * c := by
  induction l with
  | nil => simp
  | cons x l ih => rw [List.flatMap_cons, List.length_append, hlen, ih, List.length_cons, Nat.add_mul]; omega

section
variable {H : Type} {enc0 : TypeId × Value → H} {P : Program} {W : World}
theorem list_of {α : Type} {p : Nat → α → Prop} : ∀ (n : Nat), (∀ i, i < n → ∃ a, p i a) → ∃ l : List α, l.length = n ∧ ∀ (i : Nat) (a : α), l[i]? = some a → p i a
  | 0, _ => ⟨[], rfl, fun i a h => by simp at h⟩
  | n + 1, h => by
    obtain ⟨l, hl, hp⟩ := list_of n fun i hi => h i (by omega)
    obtain ⟨a, ha⟩ := h n (by omega)
    refine ⟨l ++ [a], by simp [hl], fun i b hb => ?_⟩
    by_cases hi : i < n
    · rw [List.getElem?_append_left (by omega)] at hb; exact hp i b hb
    · have hlt := (List.getElem?_eq_some_iff.1 hb).1
      simp at hlt
      obtain rfl : i = n := by omega
      rw [List.getElem?_append_right (by omega)] at hb
      rw [hl] at hb; simp at hb; subst hb; exact ha
/-- a slice that came in, its elements flat (no memory behind them): as a list of what they are -/
theorem open_flat {t e : TypeId} (ht : P.underlying t = some (.slice e)) {c : Nat} (hc : P.cellsOf e = c) (hc0 : 0 < c) {α : Type} (enc : α → List Value) (hlen : ∀ a, (enc a).length = c) (ok : α → Prop)
    (dec : ∀ (fuel : Nat) (cs : List Value) x, DataW.trod enc0 P W 0 (fun _ => true) true fuel e cs = some x → ∃ a, cs = enc a ∧ ok a)
    {base : Nat} {v : Value} {d : DataW H} {ps : List MemPlace} (hv : Value.okWide P W .any base t v) (h : DataW.Trod enc0 P W 0 (fun _ => true) true t v d ps) :
    ∃ l : List α, Sl W v l.length (l.flatMap enc) ∧ (∀ a ∈ l, ok a) ∧ ((d = .nil ∧ l = []) ∨ ∃ elems spare, d = .slice elems spare ∧ elems.length = l.length) := by
  obtain ⟨a0, len, cap, rfl⟩ := okWide_slice ht hv
  obtain ⟨fuel, hf⟩ := h
  have hf' : DataW.trod enc0 P W 0 (fun _ => true) true fuel t [.slice a0 len cap] = some (d, ps) := hf
  rcases DataW.trod_slice ht hf' with ⟨hcs, hx⟩ | ⟨a, len', cap', elems, rest, n, _, hcs, hx, _, hl, hm, hel, hread, _⟩
  · simp only [List.cons.injEq, Value.slice.injEq, and_true] at hcs
    obtain ⟨rfl, rfl, rfl⟩ := hcs
    simp only [Prod.mk.injEq] at hx
    exact ⟨[], ⟨none, 0, rfl, Nat.le_refl _, by decide, fun h => by simp at h⟩, by simp, .inl ⟨hx.1, rfl⟩⟩
  · simp only [List.cons.injEq, Value.slice.injEq, and_true] at hcs
    obtain ⟨rfl, rfl, rfl⟩ := hcs
    simp only [Prod.mk.injEq] at hx
    have each : ∀ i, i < len → ∃ b : α, (W.cells? 0 (a.add (i * c)) c = some (enc b)) ∧ ok b := fun i hi => by
      have h1 := hread i hi
      rw [hc] at h1
      rw [List.getElem?_eq_getElem (by omega)] at h1
      cases hcell : W.cells? 0 (a.add (i * c)) c with
      | none => rw [hcell] at h1; simp at h1
      | some cs =>
        rw [hcell] at h1
        obtain ⟨b, rfl, hok⟩ := dec n cs _ h1
        exact ⟨b, rfl, hok⟩
    obtain ⟨l, hll, hp⟩ := list_of len each
    refine ⟨l, ⟨some a, cap, by rw [hll], by omega, hm, fun h0 => ?_⟩, fun b hb => ?_, .inr ⟨_, _, hx.1, by simp [hel, hll]⟩⟩
    · have h1 := hp 0 l[0] (List.getElem?_eq_getElem h0)
      have h2 := (cells_some h1.1).2 0 hc0
      rw [List.getElem?_eq_getElem (by rw [hlen]; exact hc0)] at h2
      have hsp := spot_none h2
      have e0 : a.spot = none := by
        rw [Nat.zero_mul] at hsp
        unfold Addr.add at hsp
        simpa using hsp
      obtain ⟨b, off, spot⟩ := a
      simp only at e0
      subst e0
      refine ⟨b, off, rfl, fun j u hj => ?_⟩
      have hjl := (List.getElem?_eq_some_iff.1 hj).1
      rw [flatMap_len hlen] at hjl
      have hi : j / c < l.length := (Nat.div_lt_iff_lt_mul hc0).2 hjl
      have hmod := Nat.mod_lt j hc0
      have hdm : j / c * c + j % c = j := by rw [Nat.mul_comm]; exact Nat.div_add_mod j c
      have h3 := hp (j / c) l[j / c] (List.getElem?_eq_getElem hi)
      have h4 := (cells_some h3.1).2 (j % c) hmod
      rw [addr_add, addr_add, Nat.add_assoc, hdm] at h4
      rw [h4, ← flatMap_get hlen l (j / c) (j % c) l[j / c] (List.getElem?_eq_getElem hi) hmod, hdm]
      exact hj
    · obtain ⟨i, hi, rfl⟩ := List.mem_iff_getElem.1 hb
      exact (hp i _ (List.getElem?_eq_getElem hi)).2
/-- its size -/
theorem size_flat {ts : List TypeId} {ds : List (DataW H)} {j : Nat} {t e : TypeId} {d : DataW H} {n : Nat} (hsz : (DataW.weightsEach P ts ds).all (· ≤ reachBytes) = true) (hj : ts[j]? = some t) (hd : ds[j]? = some d)
    (hu : P.underlying t = some (.slice e)) {B : Nat} (hB : P.bytesOf e = B) (h : (d = .nil ∧ n = 0) ∨ ∃ elems spare, d = .slice elems spare ∧ elems.length = n) : n * B ≤ 140737488351232 := by
  rcases h with ⟨_, rfl⟩ | ⟨elems, spare, rfl, rfl⟩
  · omega
  · have h1 := sized_slice hsz hj hd hu
    rw [hB] at h1
    have : elems.length * B ≤ (elems.length + spare.length) * B := Nat.mul_le_mul_right _ (by omega)
    have e : reachBytes = 140737488351232 := rfl
    omega
end
/-- one cell an element -/
def boolC (b : Bool) : List Value := [.bool b]
def intC (n : Int) : List Value := [.int .i64 n]
def strC (s : ByteArray) : List Value := [.string s]
theorem flat1 {α : Type} {f : α → Value} (l : List α) : l.flatMap (fun a => [f a]) = l.map f := by
  induction l with
  | nil => rfl
  | cons x l ih => simp [List.flatMap_cons, ih]
def okI64 (n : Int) : Prop := -9223372036854775808 ≤ n ∧ n ≤ 9223372036854775807
theorem okI64_of {n : Int} (h : (Lit.int .i64 n).wf = true) : okI64 n := by simpa [okI64, Lit.wf, IntKind.min, IntKind.max, IntKind.signed, IntKind.bits] using h
theorem open_bools {H : Type} {enc0 : TypeId × Value → H} {P : Program} {W : World} {t e : TypeId} (ht : P.underlying t = some (.slice e)) (he : P.underlying e = some .bool) (hc : P.cellsOf e = 1) (hB : P.bytesOf e = 1)
    {base : Nat} {v : Value} {d : DataW H} {ps : List MemPlace} (hv : Value.okWide P W .any base t v) (h : DataW.Trod enc0 P W 0 (fun _ => true) true t v d ps) {ts : List TypeId} {ds : List (DataW H)} (hsz : (DataW.weightsEach P ts ds).all (· ≤ reachBytes) = true) (j : Nat) (hj : ts[j]? = some t) (hd : ds[j]? = some d) :
    ∃ l : List Bool, Sl W v l.length (l.map .bool) ∧ l.length ≤ 140737488351232 := by
  obtain ⟨l, h1, _, h3⟩ := open_flat ht hc (by decide) boolC (fun _ => rfl) (fun _ => True) (fun n cs x hx => let ⟨b, h, _⟩ := DataW.trod_bool he hx; ⟨b, h, trivial⟩) hv h
  have h4 := size_flat (n := l.length) hsz hj hd ht hB (by rcases h3 with ⟨h, rfl⟩ | h; exact .inl ⟨h, rfl⟩; exact .inr h)
  exact ⟨l, by rw [← flat1]; exact h1, by omega⟩
theorem open_ints {H : Type} {enc0 : TypeId × Value → H} {P : Program} {W : World} {t e : TypeId} (ht : P.underlying t = some (.slice e)) (he : P.underlying e = some (.int .i64)) (hc : P.cellsOf e = 1) (hB : P.bytesOf e = 8)
    {base : Nat} {v : Value} {d : DataW H} {ps : List MemPlace} (hv : Value.okWide P W .any base t v) (h : DataW.Trod enc0 P W 0 (fun _ => true) true t v d ps) {ts : List TypeId} {ds : List (DataW H)} (hsz : (DataW.weightsEach P ts ds).all (· ≤ reachBytes) = true) (j : Nat) (hj : ts[j]? = some t) (hd : ds[j]? = some d) :
    ∃ l : List Int, Sl W v l.length (l.map (.int .i64)) ∧ (∀ n ∈ l, okI64 n) ∧ l.length * 8 ≤ 140737488351232 := by
  obtain ⟨l, h1, h2, h3⟩ := open_flat ht hc (by decide) intC (fun _ => rfl) okI64 (fun n cs x hx => let ⟨b, h, _, hw⟩ := DataW.trod_int he hx; ⟨b, h, okI64_of hw⟩) hv h
  have h4 := size_flat (n := l.length) hsz hj hd ht hB (by rcases h3 with ⟨h, rfl⟩ | h; exact .inl ⟨h, rfl⟩; exact .inr h)
  exact ⟨l, by rw [← flat1]; exact h1, h2, h4⟩
theorem open_strs {H : Type} {enc0 : TypeId × Value → H} {P : Program} {W : World} {t e : TypeId} (ht : P.underlying t = some (.slice e)) (he : P.underlying e = some .string) (hc : P.cellsOf e = 1) (hB : P.bytesOf e = 16)
    {base : Nat} {v : Value} {d : DataW H} {ps : List MemPlace} (hv : Value.okWide P W .any base t v) (h : DataW.Trod enc0 P W 0 (fun _ => true) true t v d ps) {ts : List TypeId} {ds : List (DataW H)} (hsz : (DataW.weightsEach P ts ds).all (· ≤ reachBytes) = true) (j : Nat) (hj : ts[j]? = some t) (hd : ds[j]? = some d) :
    ∃ l : List ByteArray, Sl W v l.length (l.map .string) ∧ (∀ s ∈ l, s.size ≤ maxLen) ∧ l.length * 16 ≤ 140737488351232 := by
  obtain ⟨l, h1, h2, h3⟩ := open_flat ht hc (by decide) strC (fun _ => rfl) (fun s => s.size ≤ maxLen) (fun n cs x hx => let ⟨b, h, _, hw⟩ := DataW.trod_string he hx; ⟨b, h, hw⟩) hv h
  have h4 := size_flat (n := l.length) hsz hj hd ht hB (by rcases h3 with ⟨h, rfl⟩ | h; exact .inl ⟨h, rfl⟩; exact .inr h)
  exact ⟨l, by rw [← flat1]; exact h1, h2, h4⟩
end Go.Proofs.Ytlojfbnimmdehaa.kit

/- Mix -/
namespace Go.Proofs.Ytlojfbnimmdehaa.mix
open Go.RowKit

/-- the second world is the first one, with new memory -/
abbrev Gr (w w' : World) : Prop := Below w.heap.size w w'
theorem Gr.refl (w : World) : Gr w w := Below.refl _ _
theorem Gr.trans {a b c : World} (h : Gr a b) (k : Gr b c) : Gr a c := Below.trans h (k.mono h.size)
theorem Gr.drew (w : World) : Gr w w.drew := (Below.refl _ _).drew
def Up (w w' : World) : Prop := Gr w w'
def Closed (S : World → Prop) : Prop := ∀ w w', S w → Gr w w' → S w'
theorem closed_up (w : World) : Closed (Up w) := fun _ _ h k => Gr.trans h k

theorem gr_same {P : Program} {f : FuncId} {args : Array Value} {w : World} {v : Value} (h : Calls P f args w fun e w' => e = .returned v ∧ w = w') : Calls P f args w fun e w' => e = .returned v ∧ Gr w w' :=
  h.mono fun _ _ ⟨h1, h2⟩ => ⟨h1, by subst h2; exact Gr.refl _⟩

section
variable {P : Program} {ops : Array Oper} {md : Region.Mode} {Q : Exit → Act → World → Prop}

def calmUpon (P : Program) (w : World) (v : Value) : Result Next → Prop
  | .ok (.value u) w' => u = v ∧ Gr w w'
  | .ok .skip w' => v = undef ∧ Gr w w'
  | .ok (.enter f args) w' => Gr w w' ∧ Calls P f args w' (fun e w'' => e = .returned v ∧ Gr w' w'')
  | _ => False
def calmAt (P : Program) (o : Oper) (a : Act) (w : World) (v : Value) : Prop := calmUpon P w v ((execOp a.eval o).run P w)
/-- in every world of the class the operation leaves one value, and only new memory -/
def CalmIn (P : Program) (ops : Array Oper) (S : World → Prop) (o : Oper) (v : Value) (a : Act) : Prop :=
  (Region.wanted o (yielded ops a.tmps) = true ∧ ∀ w, S w → calmAt P o a w v) ∨ (Region.wanted o (yielded ops a.tmps) = false ∧ v = undef)

theorem CalmIn.mono {S S' : World → Prop} {o : Oper} {v : Value} {a : Act} (hs : ∀ w, S' w → S w) (h : CalmIn P ops S o v a) : CalmIn P ops S' o v a :=
  h.imp (fun ⟨h1, h2⟩ => ⟨h1, fun w hw => h2 w (hs w hw)⟩) id
theorem CalmIn.of_same {S : World → Prop} {o : Oper} {v : Value} {a a' : Act} (hy : CalmIn P ops S o v a) (he : execOp a'.eval o = execOp a.eval o)
    (hw : Region.wanted o (yielded ops a'.tmps) = Region.wanted o (yielded ops a.tmps)) : CalmIn P ops S o v a' := by
  unfold CalmIn calmAt at *
  rw [he, hw]
  exact hy
theorem CalmIn.wpOp {S : World → Prop} {i : Nat} {o : Oper} {v : Value} {a : Act} (hi : ops[i]? = some o) (hy : CalmIn P ops S o v a) (hcl : Closed S)
    {K : Act → World → Prop} {w : World} (hS : S w) (h : ∀ w', S w' → K (a.put o.dst v) w') : wpOp P ops Q i K a w := by
  unfold Go.wpOp
  simp only [hi]
  rcases hy with ⟨hw, hv⟩ | ⟨hw, rfl⟩
  · simp only [hw, if_true]
    refine .inl ?_
    have h1 := hv w hS
    unfold calmAt at h1
    unfold Oper.wp
    generalize (execOp a.eval o).run P w = r at *
    cases r with
    | ok n w' =>
      cases n <;> simp only [calmUpon] at h1 <;> simp only [Oper.upon]
      case value u => rw [h1.1]; exact h _ (hcl _ _ hS h1.2)
      case skip => rw [← h1.1]; exact h _ (hcl _ _ hS h1.2)
      case enter f args =>
        refine h1.2.mono fun e w'' ⟨he, hg⟩ => ?_
        subst he
        exact h _ (hcl _ _ (hcl _ _ hS h1.1) hg)
    | halt x w' => simp only [calmUpon] at h1
  · simp only [hw, Bool.false_eq_true, if_false]; exact h _ hS

/-- what is kept of the operation in hand while another one is carried out -/
theorem wpOp_calm {S : World → Prop} {j : Nat} {oi oj : Oper} {v : Value} (hj : ops[j]? = some oj) (hap : oi.apart ops oj = true)
    (hsi : ∀ cs b, oi.op ≠ .select cs b) (hsj : ∀ cs b, oj.op ≠ .select cs b)
    (hQ : ∀ c a w, Q (.panic c) (a.put oi.dst v) w → Q (.panic c) a w) {K : Act → World → Prop} {a : Act} {w : World}
    (hy : CalmIn P ops S oi v a) (h : wpOp P ops Q j K (a.put oi.dst v) w) :
    wpOp P ops Q j (fun a' w' => CalmIn P ops S oi v a' ∧ K (a'.put oi.dst v) w') a w := by
  obtain ⟨h1, h2, h3⟩ := Oper.apart_spec hap
  have keep : ∀ (a : Act), CalmIn P ops S oi v a → ∀ u, CalmIn P ops S oi v (a.put oj.dst u) := fun a hy u =>
    hy.of_same (execOp_put oi hsi a oj.dst u h3) (wanted_put oi a oj.dst u h3)
  have keepD : ∀ d, CalmIn P ops S oi v { a with defers := d :: a.defers } := fun d => hy.of_same rfl rfl
  unfold wpOp at *
  simp only [hj] at *
  rw [wanted_put oj a oi.dst v h1] at h
  split
  · rename_i hw
    simp only [hw, if_true] at h
    rcases h with h | ⟨hasks, hlets⟩
    case inr => exact .inr ⟨by unfold Oper.asks at *; rw [execOp_put oj hsj a oi.dst v h1] at hasks; exact hasks, hlets⟩
    refine .inl ?_
    unfold Oper.wp at *
    rw [execOp_put oj hsj a oi.dst v h1] at h
    generalize (execOp a.eval oj).run P w = r at *
    cases r with
    | ok n w' =>
      cases n <;> simp only [Oper.upon] at h ⊢
      case value u => exact ⟨keep a hy u, by rw [← Act.put_comm a v u h2]; exact h⟩
      case skip => exact ⟨keep a hy _, by rw [← Act.put_comm a v undef h2]; exact h⟩
      case defer d =>
        refine ⟨keep _ (keepD d) _, ?_⟩
        rw [← Act.put_comm _ v undef h2, ← Act.put_defers]
        exact h
      case enter f args =>
        refine Calls.mono h fun e w'' he => ?_
        cases e with
        | returned u => exact ⟨keep a hy u, by rw [← Act.put_comm a v u h2]; exact he⟩
        | panicked c => exact hQ _ _ _ he
        | outgrown => exact he
      case row row args => exact Rows.mono h fun u w'' he => ⟨keep a hy u, by rw [← Act.put_comm a v u h2]; exact he⟩
    | halt x w' =>
      cases x <;> simp only [Oper.upon] at h ⊢
      case panic u => exact hQ _ _ _ h
  · rename_i hw
    simp only [hw] at h
    exact ⟨keep a hy _, by rw [← Act.put_comm a v undef h2]; exact h⟩

/-- whatever order the operations of the front come up in; behind each a class of worlds, no greater one -/
def wpAnyG (P : Program) (md : Region.Mode) (ops : Array Oper) (Q : Exit → Act → World → Prop) (n : Nat) (L : Array Bool → Act → World → Prop) : Nat → Array Bool → Act → (World → Prop) → Prop
  | 0, listed, a, S => ∀ w, S w → L listed a w
  | f + 1, listed, a, S => Region.ready md ops listed ≠ [] ∧
    ∀ i ∈ Region.ready md ops listed, i < n ∧ ∀ w, S w → wpOp P ops Q i (fun a' w' => ∃ S', Closed S' ∧ (∀ x, S' x → S x) ∧ S' w' ∧ wpAnyG P md ops Q n L f (listed.setIfInBounds i true) a' S') a w

theorem wpAny_of_G {n g : Nat} {L : Array Bool → Act → World → Prop} (hL : ∀ listed a w, L listed a w → wpAny P md ops Q g listed a w) :
    ∀ (f : Nat) (listed : Array Bool) (a : Act) (S : World → Prop) (w : World), S w → wpAnyG P md ops Q n L f listed a S → wpAny P md ops Q (f + g) listed a w
  | 0, listed, a, S, w, hw, h => by rw [Nat.zero_add]; exact hL _ _ _ (h w hw)
  | f + 1, listed, a, S, w, hw, h => by
    rw [show f + 1 + g = (f + g) + 1 by omega]
    exact ⟨fun h0 => absurd h0 h.1, fun i hi => wpOp_mono (fun a' w' ⟨S', _, _, hw', h'⟩ => wpAny_of_G hL f _ a' S' w' hw' h') ((h.2 i hi).2 w hw)⟩

theorem wpAnyG_first {n i : Nat} {oi : Oper} {v : Value} {L : Array Bool → Act → World → Prop} (hi : ops[i]? = some oi) (hsel : ∀ (j : Nat) (o : Oper) cs b, ops[j]? = some o → o.op ≠ .select cs b)
    (hs : Region.sinkB md ops n = true) (hc : Region.chainB md ops n = true) (hn : n < ops.size) (hin : i < n)
    (hQ : ∀ c a w, Q (.panic c) (a.put oi.dst v) w → Q (.panic c) a w)
    (hdone : ∀ listed a w, L listed a w → ∀ j ∈ Region.ready md ops listed, n ≤ j) :
    ∀ (f : Nat) (listed : Array Bool) (a : Act) (S : World → Prop), Closed S → HeadInv md ops n listed →
      (∀ j oj, ops[j]? = some oj → j ≠ i → listed.getD j true = false → (∀ e ∈ oj.after, Region.binds md e = true → e.on ≠ i) → oi.apart ops oj = true) →
      i ∈ Region.ready md ops listed → CalmIn P ops S oi v a →
      wpAnyG P md ops Q n L f (listed.setIfInBounds i true) (a.put oi.dst v) S → wpAnyG P md ops Q n L (f + 1) listed a S := by
  intro f
  induction f with
  | zero =>
    intro listed a S hcl inv _ hr hy H
    have hun := (mem_ready.1 hr).1
    refine ⟨fun h => (by rw [h] at hr; cases hr), fun j hj => ?_⟩
    have hjn : j < n := by
      rcases Nat.lt_or_ge j n with h | h
      · exact h
      · exact absurd hj (tail_waits hs hc hn inv _ i rfl hin hun j h)
    refine ⟨hjn, fun w hw => ?_⟩
    by_cases hji : j = i
    · subst hji; exact hy.wpOp hi hcl hw fun w' hw' => ⟨S, hcl, fun _ h => h, hw', H⟩
    · have := hdone _ _ _ (H w hw) j (ready_mono hj hji)
      omega
  | succ f ih =>
    intro listed a S hcl inv hfree hr hy H
    have hun := (mem_ready.1 hr).1
    refine ⟨fun h => (by rw [h] at hr; cases hr), fun j hj => ?_⟩
    have hjn : j < n := by
      rcases Nat.lt_or_ge j n with h | h
      · exact h
      · exact absurd hj (tail_waits hs hc hn inv _ i rfl hin hun j h)
    refine ⟨hjn, fun w hw => ?_⟩
    by_cases hji : j = i
    · subst hji; exact hy.wpOp hi hcl hw fun w' hw' => ⟨S, hcl, fun _ h => h, hw', H⟩
    · have h1 := (H.2 j (ready_mono hj hji)).2 w hw
      obtain ⟨hjun, oj, hoj, hall⟩ := mem_ready.1 hj
      have hnot : ∀ e ∈ oj.after, Region.binds md e = true → e.on ≠ i := fun e he hb heq => by
        have h1 := hall e he hb
        rw [heq, getD_both hun] at h1
        cases h1
      have h2 := wpOp_calm hoj (hfree j oj hoj hji hjun hnot) (fun cs b => hsel i oi cs b hi) (fun cs b => hsel j oj cs b hoj) hQ hy h1
      have hfree' : ∀ k ok, ops[k]? = some ok → k ≠ i → (listed.setIfInBounds j true).getD k true = false →
          (∀ e ∈ ok.after, Region.binds md e = true → e.on ≠ i) → oi.apart ops ok = true := fun k ok hk hki hun hno => by
        refine hfree k ok hk hki ?_ hno
        by_cases hjk : j = k
        · subst hjk; exact hjun
        · rw [getD_set_ne true hjk] at hun; exact hun
      refine wpOp_mono (fun a' w' h3 => ?_) h2
      obtain ⟨h3, S', hcl', hsub, hw', h4⟩ := h3
      refine ⟨S', hcl', hsub, hw', ih (listed.setIfInBounds j true) a' S' hcl' (inv.set hj hjn) hfree' (ready_mono hr (Ne.symm hji)) (h3.mono hsub) ?_⟩
      rw [Array.setIfInBounds_comm _ _ hji]
      exact h4

/-- THE WALK of the front, in the text's order: 'true': a calm operation; 'false': a maker; then the tail. -/
def wpM (P : Program) (ops : Array Oper) (Q : Exit → Act → World → Prop) (L : Act → World → Prop) : List Bool → List Oper → Act → (World → Prop) → Prop
  | true :: ks, o :: rest, a, S => ∃ v, (if Region.wanted o (yielded ops a.tmps) then ∀ w, S w → calmAt P o a w v else v = undef) ∧ wpM P ops Q L ks rest (a.put o.dst v) S
  | false :: ks, o :: rest, a, S => ∀ w, S w → if Region.wanted o (yielded ops a.tmps) then
      o.wp P a w (fun a' w' => ∃ S', Closed S' ∧ (∀ x, S' x → S x) ∧ S' w' ∧ wpM P ops Q L ks rest a' S') Q
    else wpM P ops Q L ks rest (a.put o.dst undef) S
  | _, _, a, S => ∀ w, S w → L a w

def orderM (md : Region.Mode) (ops : Array Oper) (g : Nat) : List Bool → Nat → Array Bool → Bool
  | true :: ks, k, listed => (Region.ready md ops listed).contains k && Region.free md ops listed k && orderM md ops g ks (k + 1) (listed.setIfInBounds k true)
  | false :: ks, k, listed => decide (Region.ready md ops listed = [k]) && orderM md ops g ks (k + 1) (listed.setIfInBounds k true)
  | [], k, listed => Region.seqB md ops g k listed
def lexM (md : Region.Mode) (ops : Array Oper) (ks : List Bool) : Bool :=
  Region.noSelect ops && decide (ks.length < ops.size) && Region.sinkB md ops ks.length && Region.chainB md ops ks.length && orderM md ops (ops.size - ks.length) ks 0 (Array.replicate ops.size false)

theorem wpAnyG_lex {n g : Nat} {Lq : Act → World → Prop} (hsel : Region.noSelect ops = true) (hs : Region.sinkB md ops n = true) (hc : Region.chainB md ops n = true) (hn : n < ops.size)
    (hQ : ∀ c a d v w, Q (.panic c) (a.put d v) w → Q (.panic c) a w) :
    ∀ (ks : List Bool) (l : List Oper) (k : Nat) (listed : Array Bool) (a : Act) (S : World → Prop), Closed S → l.length = ks.length → (∀ j, j < l.length → l[j]? = ops[k + j]?) → k + l.length = n → HeadInv md ops n listed →
    orderM md ops g ks k listed = true → wpM P ops Q Lq ks l a S →
    wpAnyG P md ops Q n (fun listed' a' w' => Region.seqB md ops g n listed' = true ∧ Lq a' w') ks.length listed a S
  | [], [], k, listed, a, S, _, _, _, hk, _, hB, h => by
    have : k = n := by simpa using hk
    subst this
    exact fun w hw => ⟨by simpa [orderM] using hB, h w hw⟩
  | [], _ :: _, _, _, _, _, _, hlen, _, _, _, _, _ => by simp at hlen
  | _ :: _, [], _, _, _, _, _, hlen, _, _, _, _, _ => by simp at hlen
  | true :: ks, o :: l, k, listed, a, S, hcl, hlen, hl, hk, inv, hB, h => by
    have h0 : ops[k]? = some o := by simpa using (hl 0 (by simp)).symm
    simp only [orderM, Bool.and_eq_true] at hB
    obtain ⟨⟨hr, hf⟩, hB'⟩ := hB
    have hkn : k < n := by simp only [List.length_cons] at hk; omega
    have hr' : k ∈ Region.ready md ops listed := by simpa using hr
    obtain ⟨v, hy, hK⟩ := h
    have hy' : CalmIn P ops S o v a := by
      by_cases hw : Region.wanted o (yielded ops a.tmps) = true
      · rw [if_pos hw] at hy; exact .inl ⟨hw, hy⟩
      · rw [if_neg hw] at hy; exact .inr ⟨by simpa using hw, hy⟩
    exact wpAnyG_first h0 (Region.noSelect_spec hsel) hs hc hn hkn (fun c a w => hQ c a o.dst v w) (fun listed' a' w' hL => seqB_ready hL.1) ks.length listed a S hcl inv (Region.free_spec h0 hf) hr' hy'
      (wpAnyG_lex hsel hs hc hn hQ ks l (k + 1) _ _ S hcl (by simpa using hlen) (fun j hj => by have := hl (j + 1) (by simp; omega); simpa [Nat.add_assoc, Nat.add_comm 1 j] using this) (by simp only [List.length_cons] at hk; omega) (inv.set hr' hkn) hB' hK)
  | false :: ks, o :: l, k, listed, a, S, hcl, hlen, hl, hk, inv, hB, h => by
    have h0 : ops[k]? = some o := by simpa using (hl 0 (by simp)).symm
    simp only [orderM, Bool.and_eq_true, decide_eq_true_eq] at hB
    obtain ⟨hr, hB'⟩ := hB
    have hkn : k < n := by simp only [List.length_cons] at hk; omega
    have hr' : k ∈ Region.ready md ops listed := by simp [hr]
    have next : ∀ a' S', Closed S' → wpM P ops Q Lq ks l a' S' → wpAnyG P md ops Q n (fun listed' a' w' => Region.seqB md ops g n listed' = true ∧ Lq a' w') ks.length (listed.setIfInBounds k true) a' S' := fun a' S' hcl' hK =>
      wpAnyG_lex hsel hs hc hn hQ ks l (k + 1) _ _ S' hcl' (by simpa using hlen) (fun j hj => by have := hl (j + 1) (by simp; omega); simpa [Nat.add_assoc, Nat.add_comm 1 j] using this) (by simp only [List.length_cons] at hk; omega) (inv.set hr' hkn) hB' hK
    refine ⟨by rw [hr]; simp, fun i hi => ?_⟩
    obtain rfl : i = k := by rw [hr] at hi; simpa using hi
    refine ⟨hkn, fun w hw => ?_⟩
    have h1 := h w hw
    unfold wpOp
    simp only [h0]
    split
    · rename_i hwt
      rw [if_pos hwt] at h1
      exact .inl (Oper.wp_mono (fun a' w' ⟨S', hcl', hsub, hw', hK⟩ => ⟨S', hcl', hsub, hw', next _ _ hcl' hK⟩) h1)
    · rename_i hwt
      rw [if_neg hwt] at h1
      exact ⟨S, hcl, fun _ h => h, hw, next _ _ hcl h1⟩

/-- THE RULE. 'ks': a mark for each operation of the front ('true': calm; 'false': a maker); what is behind them is the tail. 'S': a class of worlds that grows with new memory. -/
theorem wp_region_mix {id : Nat} {a : Act} {w : World} {l : List Oper} (ks : List Bool) (hm : P.follows .mixedOrders = true) (hB : lexM .any l.toArray ks = true)
    (hQ : ∀ c a d v w, Q (.panic c) (a.put d v) w → Q (.panic c) a w) (S : World → Prop) (hcl : Closed S) (hS : S w.drew)
    (h : wpM P l.toArray Q (fun a' w' => wpList P l.toArray Q (l.drop ks.length) a' w') ks (l.take ks.length) a S) : (Code.region id l.toArray true).wp P Q a w := by
  simp only [lexM, Bool.and_eq_true, decide_eq_true_eq] at hB
  obtain ⟨⟨⟨⟨hsel, hn⟩, hs⟩, hc⟩, hlex⟩ := hB
  have hn' : ks.length < l.length := by simpa using hn
  have htl : (l.take ks.length).length = ks.length := by simp; omega
  have hdl : (l.drop ks.length).length = l.toArray.size - ks.length := by simp
  have inv0 : HeadInv .any l.toArray ks.length (Array.replicate l.toArray.size false) :=
    ⟨by simp, fun j oj _ hl => (by rw [getD_replicate_false] at hl; cases hl), fun t _ ht => getD_in (by simpa using ht) (getD_replicate_false _ _)⟩
  have H := wpAnyG_lex (md := .any) (g := l.toArray.size - ks.length) hsel hs hc hn hQ ks (l.take ks.length) 0 _ a S hcl htl (fun j hj => by
    have hj' : j < ks.length := by rw [htl] at hj; exact hj
    simp [hj']) (by simpa using htl) inv0 hlex h
  refine wp_region_any hm ?_
  have := wpAny_of_G (Q := Q) (g := l.toArray.size - ks.length) (fun listed a' w' hL => by
    have := wpAny_of_seq (md := .any) (Q' := Q) (l.drop ks.length) ks.length listed a' w' (fun j => by simp [List.getElem?_drop]) (by rw [hdl]; exact hL.1) hL.2
    rwa [hdl] at this) _ _ _ S w.drew hS H
  rw [show ks.length + (l.toArray.size - ks.length) = l.toArray.size by omega] at this
  exact this

/-- the same, the number of the front's operations written out -/
theorem mix {id : Nat} {a : Act} {w : World} {l : List Oper} (n : Nat) (ks : List Bool) (hn : ks.length = n) (hm : P.follows .mixedOrders = true) (hB : lexM .any l.toArray ks = true)
    (hQ : ∀ c a d v w, Q (.panic c) (a.put d v) w → Q (.panic c) a w) (S : World → Prop) (hcl : Closed S) (hS : S w.drew)
    (h : wpM P l.toArray Q (fun a' w' => wpList P l.toArray Q (l.drop n) a' w') ks (l.take n) a S) : (Code.region id l.toArray true).wp P Q a w := by
  subst hn; exact wp_region_mix ks hm hB hQ S hcl hS h

section
variable {L : Act → World → Prop} {ks : List Bool} {o : Oper} {rest : List Oper} {a : Act} {S : World → Prop}
/-- an operation that yields a value and leaves the world as it is -/
theorem wpM_val {u : Value} (hw : Region.wanted o (yielded ops a.tmps) = true) (h : ∀ w, S w → (execOp a.eval o).run P w = .ok (.value u) w) (hk : wpM P ops Q L ks rest (a.put o.dst u) S) :
    wpM P ops Q L (true :: ks) (o :: rest) a S :=
  ⟨u, by rw [if_pos hw]; intro w hS; unfold calmAt; rw [h w hS]; exact ⟨rfl, Gr.refl _⟩, hk⟩
theorem wpM_move (x : Operand) (hg : o.guard = none) (ho : o.op = .move x) (hk : wpM P ops Q L ks rest (a.put o.dst (a.eval x)) S) : wpM P ops Q L (true :: ks) (o :: rest) a S :=
  wpM_val (by simp [Region.wanted, hg]) (fun w _ => BigFrame.run_move x ho w) hk
/-- an operation that is passed over -/
theorem wpM_skip (hw : Region.wanted o (yielded ops a.tmps) = false) (hk : wpM P ops Q L ks rest (a.put o.dst undef) S) :
    wpM P ops Q L (true :: ks) (o :: rest) a S :=
  ⟨undef, by rw [if_neg (by rw [hw]; exact Bool.false_ne_true)], hk⟩
/-- a call that hands back one value, whatever world of the class it is made in, and leaves new memory alone -/
theorem wpM_call {f : FuncId} {args : Array Value} {v : Value} (hw : Region.wanted o (yielded ops a.tmps) = true) (he : ∀ w, (execOp a.eval o).run P w = .ok (.enter f args) w)
    (hc : ∀ w, S w → Calls P f args w fun e w' => e = .returned v ∧ Gr w w') (hk : wpM P ops Q L ks rest (a.put o.dst v) S) :
    wpM P ops Q L (true :: ks) (o :: rest) a S :=
  ⟨v, by rw [if_pos hw]; intro w hS; unfold calmAt; rw [he w]; exact ⟨Gr.refl _, hc w hS⟩, hk⟩
/-- a maker: whatever it leaves, new memory alone -/
theorem wpM_maker (hg : o.guard = none) (hcl : Closed S)
    (h : ∀ w, S w → (∀ x, Gr w x → S x) → ∀ K : Act → World → Prop, (∀ a' w', Gr w w' → wpM P ops Q L ks rest a' (Up w') → K a' w') → o.wp P a w K Q) :
    wpM P ops Q L (false :: ks) (o :: rest) a S := fun w hw => by
  rw [if_pos (by simp [Region.wanted, hg])]
  exact h w hw (fun x hx => hcl w x hw hx) _ fun a' w' hg hK => ⟨Up w', closed_up _, fun x hx => hcl w x hw (Gr.trans hg hx), Gr.refl _, hK⟩
theorem wpM_end {l : List Oper} (h : ∀ w, S w → L a w) : wpM P ops Q L [] l a S := h
end
end
end Go.Proofs.Ytlojfbnimmdehaa.mix

/- Eng -/
namespace Go.Proofs.Ytlojfbnimmdehaa.eng
open Go.RowKit kit mix

/-! ### slots -/
abbrev Fr := List (Nat × Value)
def look : Fr → Nat → Option Value
  | [], _ => none
  | (k, v) :: r, i => bif Nat.beq k i then some v else look r i
/-- what is known of the slots -/
structure Rep (n : Nat) (a : Act) (fr : Fr) : Prop where
  size : a.tmps.size = n
  defers : a.defers = []
  get : ∀ i v, look fr i = some v → a.tmps[i]? = some v
theorem Rep.put {n : Nat} {a : Act} {fr : Fr} (h : Rep n a fr) {d : Nat} (hd : Nat.blt d n = true) (v : Value) : Rep n (a.put (some d) v) ((d, v) :: fr) := by
  have hd' : d < n := Nat.le_of_ble_eq_true hd
  refine ⟨by simp [Act.put, h.size], h.defers, fun i u hi => ?_⟩
  unfold look at hi
  simp only [Act.put]
  cases e : Nat.beq d i
  · rw [e] at hi
    rw [Array.getElem?_setIfInBounds_ne (Nat.ne_of_beq_eq_false e)]
    exact h.get i u hi
  · rw [e] at hi
    obtain rfl : d = i := Nat.eq_of_beq_eq_true e
    simp only [cond_true, Option.some.injEq] at hi
    subst hi
    rw [Array.getElem?_setIfInBounds_self_of_lt (by rw [h.size]; exact hd')]
theorem Rep.put_none {n : Nat} {a : Act} {fr : Fr} (h : Rep n a fr) (v : Value) : Rep n (a.put none v) fr := h
/-- a frame that knows no more -/
def Subs : Fr → Fr → Prop
  | [], _ => True
  | (i, v) :: r, fr => look fr i = some v ∧ Subs r fr
theorem subs_get {fr' fr : Fr} (h : Subs fr' fr) {i : Nat} {v : Value} (hl : look fr' i = some v) : look fr i = some v := by
  induction fr' with
  | nil => cases hl
  | cons x r ih =>
    obtain ⟨k, u⟩ := x
    unfold look at hl
    cases e : Nat.beq k i
    · rw [e] at hl; exact ih h.2 hl
    · rw [e] at hl
      obtain rfl : k = i := Nat.eq_of_beq_eq_true e
      simp only [cond_true, Option.some.injEq] at hl
      subst hl; exact h.1
theorem Rep.sub {n : Nat} {a : Act} {fr fr' : Fr} (h : Rep n a fr) (hs : Subs fr' fr) : Rep n a fr' := ⟨h.size, h.defers, fun i v hl => h.get i v (subs_get hs hl)⟩
def ev (fr : Fr) : Operand → Option Value
  | .tmp t => look fr t
  | .const v => some v
  | .global g => some (.pointer (some ⟨g, 0, none⟩))
  | .func f => some (.func (.func f) #[] #[])
theorem Rep.ev {n : Nat} {a : Act} {fr : Fr} (h : Rep n a fr) {x : Operand} {v : Value} (hx : ev fr x = some v) : a.eval x = v := by
  cases x with
  | tmp t => simp [Act.eval, Array.getD_eq_getD_getElem?, h.get t v hx]
  | const u => simpa [eng.ev, Act.eval] using hx
  | global g => simpa [eng.ev, Act.eval] using hx
  | func f => simpa [eng.ev, Act.eval] using hx
/-- the slot of a guard -/
theorem Rep.yield {n : Nat} {a : Act} {fr : Fr} (h : Rep n a fr) {ops : Array Oper} {j d : Nat} {v : Value} (hj : (ops[j]?).bind (·.dst) = some d) (hl : look fr d = some v) :
    yielded ops a.tmps j = match v with | .bool b => some b | _ => none := by
  unfold yielded
  rw [hj]
  simp only [Option.bind_some, h.get d v hl]
  cases v <;> rfl

/-! ### memory -/
/-- something that the call owns: its block, further blocks, what holds of them -/
structure Own where
  blk : Option Nat
  more : Nat → Prop
  holds : World → Prop
  lt : ∀ w, holds w → ∀ k, (blk = some k ∨ more k) → k < w.heap.size
  stay : ∀ w w', holds w → w.heap.size ≤ w'.heap.size → (∀ k, (blk = some k ∨ more k) → w'.heap[k]? = w.heap[k]?) → holds w'
def Own.foot (o : Own) (k : Nat) : Prop := o.blk = some k ∨ o.more k
/-- a block that is known whole -/
def blkO (g : Nat) (cs : Array Value) (T : TypeId) : Own :=
  ⟨some g, fun _ => False, fun w => w.heap[g]? = some (.cells cs T (0, 0)), fun w h k hk => by simp only [Option.some.injEq, or_false] at hk; subst hk; exact (Array.getElem?_eq_some_iff.1 h).1,
    fun w w' h _ hb => by rw [hb g (.inl rfl)]; exact h⟩
/-- a slice that the call may append to -/
def rowO (e : TypeId) (size : Nat) (v : Value) (n : Nat) (xs : List Value) : Own :=
  ⟨v.ownBlock, fun _ => False, fun w => w.ownsRow 0 e size v n xs, fun w h k hk => (h.lt k (hk.elim id False.elim)).2, fun w w' h _ hb => by
    refine ⟨h.1, ?_⟩
    rcases h.2 with hn | ⟨g, cap, cur, rfl, hb0, hg, rest⟩
    · exact .inl hn
    · exact .inr ⟨g, cap, cur, rfl, hb0, by rw [hb g (.inl rfl)]; exact hg, rest⟩⟩
/-- cells that may be read and written -/
def wrO (g : Nat) (xs : List Value) : Own :=
  ⟨some g, fun _ => False, fun w => g < w.heap.size ∧ Wr w g 0 xs, fun w h k hk => by simp only [Option.some.injEq, or_false] at hk; subst hk; exact h.1,
    fun w w' h hs hb => ⟨Nat.lt_of_lt_of_le h.1 hs, fun j u hj => by
      rw [World.cell?_of_block (w := w) (a := ⟨g, 0 + j, none⟩) (hb g (.inl rfl)), World.frozen?_of_block (w := w) (a := ⟨g, 0 + j, none⟩) (hb g (.inl rfl))]
      exact h.2 j u hj⟩⟩
/-- things owned, apart from each other, in blocks of which p holds -/
structure OwnsP (p : Nat → Prop) (w : World) (L : List Own) : Prop where
  all : ∀ (i : Nat) (o : Own), L[i]? = some o → o.holds w ∧ ∀ k, o.foot k → p k
  apart : ∀ (i j : Nat) (o o' : Own), i ≠ j → L[i]? = some o → L[j]? = some o' → ∀ k, o.foot k → ¬ o'.foot k
abbrev Owns (B : Nat) (w : World) (L : List Own) : Prop := OwnsP (fun k => B ≤ k) w L
section
variable {p p' : Nat → Prop}
theorem Owns.nil (B : Nat) (w : World) : Owns B w [] := ⟨fun i o h => by simp at h, fun i j o o' _ h => by simp at h⟩
theorem OwnsP.nil (w : World) : OwnsP p w [] := ⟨fun i o h => by simp at h, fun i j o o' _ h => by simp at h⟩
theorem OwnsP.gr {w w' : World} {L : List Own} (h : OwnsP p w L) (hg : Gr w w') : OwnsP p w' L :=
  ⟨fun i o hi => ⟨o.stay w w' (h.all i o hi).1 hg.size fun k hk => hg.block k (o.lt w (h.all i o hi).1 k hk), (h.all i o hi).2⟩, h.apart⟩
theorem OwnsP.mono {w : World} {L : List Own} (h : OwnsP p w L) (hb : ∀ k, p k → p' k) : OwnsP p' w L :=
  ⟨fun i o hi => ⟨(h.all i o hi).1, fun k hk => hb k ((h.all i o hi).2 k hk)⟩, h.apart⟩
theorem OwnsP.one {w : World} {o : Own} (h : o.holds w) (hb : ∀ k, o.foot k → p k) : OwnsP p w [o] :=
  ⟨fun i o' hi => by
    match i, hi with
    | 0, hi => simp only [List.getElem?_cons_zero, Option.some.injEq] at hi; subst hi; exact ⟨h, hb⟩
    | i + 1, hi => simp at hi,
   fun i j a b hij hi hj => by
    match i, j, hi, hj with
    | 0, 0, _, _ => exact absurd rfl hij
    | i + 1, _, hi, _ => simp at hi
    | 0, j + 1, _, hj => simp at hj⟩
theorem Owns.one {B : Nat} {w : World} {o : Own} (h : o.holds w) (hb : ∀ k, o.blk = some k → B ≤ k) (hmo : ∀ k, o.more k → B ≤ k := by intro k hk; exact False.elim hk) : Owns B w [o] := OwnsP.one h fun k hk => hk.elim (hb k) (hmo k)
/-- two lists, apart from each other -/
theorem OwnsP.both {w : World} {L L' : List Own} (h : OwnsP p w L) (h' : OwnsP p w L') (ha : ∀ (i j : Nat) (o o' : Own), L[i]? = some o → L'[j]? = some o' → ∀ k, o.foot k → ¬ o'.foot k) : OwnsP p w (L ++ L') := by
  refine ⟨fun i o hi => ?_, fun i j o o' hij hi hj => ?_⟩
  · rw [List.getElem?_append] at hi
    split at hi
    · exact h.all i o hi
    · exact h'.all _ o hi
  · intro k hk hk'
    rw [List.getElem?_append] at hi hj
    split at hi <;> split at hj
    · exact h.apart i j o o' hij hi hj k hk hk'
    · exact ha _ _ o o' hi hj k hk hk'
    · exact ha _ _ o' o hj hi k hk' hk
    · exact h'.apart (i - L.length) (j - L.length) o o' (by omega) hi hj k hk hk'
/-- some of them -/
theorem OwnsP.pick {w : World} {L L' : List Own} (h : OwnsP p w L) (is : List Nat) (hn : is.Nodup) (hl : L' = is.filterMap fun i => L[i]?) : OwnsP p w L' := by
  subst hl
  induction is with
  | nil => exact OwnsP.nil _
  | cons i is ih =>
    rw [List.nodup_cons] at hn
    have ih := ih hn.2
    have mem : ∀ j o, (is.filterMap fun i => L[i]?)[j]? = some o → ∃ q ∈ is, L[q]? = some o := fun j o hj => by
      have := List.mem_of_getElem? hj
      rw [List.mem_filterMap] at this
      exact this
    cases e : L[i]? with
    | none => rw [List.filterMap_cons_none e]; exact ih
    | some o0 =>
      rw [List.filterMap_cons_some e]
      refine ⟨fun j o hj => ?_, fun j j' o o' hij hj hj' => ?_⟩
      · match j, hj with
        | 0, hj => simp only [List.getElem?_cons_zero, Option.some.injEq] at hj; subst hj; exact h.all i _ e
        | j + 1, hj => exact ih.all j o (by simpa using hj)
      · match j, j', hj, hj' with
        | 0, 0, _, _ => exact absurd rfl hij
        | 0, j' + 1, hj, hj' =>
          simp only [List.getElem?_cons_zero, Option.some.injEq] at hj; subst hj
          obtain ⟨q, hq, hq'⟩ := mem j' o' (by simpa using hj')
          exact h.apart i q _ o' (fun e => hn.1 (e ▸ hq)) e hq'
        | j + 1, 0, hj, hj' =>
          simp only [List.getElem?_cons_zero, Option.some.injEq] at hj'; subst hj'
          obtain ⟨q, hq, hq'⟩ := mem j o (by simpa using hj)
          exact h.apart q i o _ (fun e => hn.1 (e ▸ hq)) hq' e
        | j + 1, j' + 1, hj, hj' => exact ih.apart j j' o o' (by omega) (by simpa using hj) (by simpa using hj')
end
/-- where a walk begins: a world, and which older blocks the call may turn -/
structure Base where
  w : World
  X : Nat → Prop
instance : Coe World Base := ⟨fun w => ⟨w, fun _ => False⟩⟩
/-- a call that may turn what L tells -/
def Base.on (w : World) (L : List Own) : Base := ⟨w, fun k => ∃ o ∈ L, o.foot k⟩
def Base.may (W : Base) (k : Nat) : Prop := W.w.heap.size ≤ k ∨ W.X k
/-- older blocks are as they were, but for those that may be turned -/
structure BelowB (W : Base) (w : World) : Prop where
  os : w.os = W.w.os
  tape : w.tape = W.w.tape
  output : w.output = W.w.output
  size : W.w.heap.size ≤ w.heap.size
  block : ∀ k, k < W.w.heap.size → ¬ W.X k → w.heap[k]? = W.w.heap[k]?
/-- a world in which the call has made L, and turned nothing else since W -/
structure Mem (W : Base) (L : List Own) (w : World) : Prop where
  low : BelowB W w
  owns : OwnsP W.may w L
theorem Mem.start (W : World) : Mem W [] W := ⟨⟨rfl, rfl, rfl, Nat.le_refl _, fun _ _ _ => rfl⟩, OwnsP.nil _⟩
theorem BelowB.gr {W : Base} {w w' : World} (h : BelowB W w) (hg : Gr w w') : BelowB W w' :=
  ⟨hg.os.trans h.os, hg.tape.trans h.tape, hg.output.trans h.output, Nat.le_trans h.size hg.size, fun k hk hx => (hg.block k (Nat.lt_of_lt_of_le hk h.size)).trans (h.block k hk hx)⟩
theorem Mem.below {W w : World} {L : List Own} (h : Mem W L w) : Below W.heap.size W w := ⟨h.low.os, h.low.tape, h.low.output, h.low.size, fun k hk => h.low.block k hk id⟩
theorem Mem.newer {W w : World} {L : List Own} (h : Mem W L w) : Owns W.heap.size w L := h.owns.mono fun _ hk => hk.elim id False.elim
section
variable {W : Base}
theorem Mem.gr {w w' : World} {L : List Own} (h : Mem W L w) (hg : Gr w w') : Mem W L w' := ⟨h.low.gr hg, h.owns.gr hg⟩
theorem Mem.drew {w : World} {L : List Own} (h : Mem W L w) : Mem W L w.drew := h.gr (Gr.drew w)
theorem closed_mem (W : Base) (L : List Own) : Closed (Mem W L) := fun _ _ h k => h.gr k
theorem Mem.pick {w : World} {L L' : List Own} (h : Mem W L w) (is : List Nat) (hn : is.Nodup) (hl : L' = is.filterMap fun i => L[i]?) : Mem W L' w := ⟨h.low, h.owns.pick is hn hl⟩
/-- what is newer lies apart -/
theorem Mem.append {w w' : World} {L L' : List Own} (h : Mem W L w) (hg : Gr w w') (h' : Owns w.heap.size w' L') : Mem W (L ++ L') w' := by
  have hsz : W.w.heap.size ≤ w.heap.size := h.low.size
  refine ⟨h.low.gr hg, OwnsP.both (h.owns.gr hg) (h'.mono fun k hk => .inl (Nat.le_trans hsz hk)) fun i j o o' hi hj k hk hk' => ?_⟩
  have a1 := o.lt w (h.owns.all i o hi).1 k hk
  have a2 : w.heap.size ≤ k := (h'.all _ o' hj).2 k hk'
  omega
/-- one of them has changed, or has moved into new memory -/
theorem Mem.turn {w w' : World} {L : List Own} (h : Mem W L w) {i : Nat} {o o' : Own} (hi : L[i]? = some o) (hg : w.grownBy w' o.blk) (ho : o'.holds w') (hb : ∀ k, o'.blk = some k → o.blk = some k ∨ w.heap.size ≤ k) (hmo : ∀ k, o'.more k → o.foot k := by intro k hk; exact False.elim hk) : Mem W (L.set i o') w' := by
  have hle : W.w.heap.size ≤ w.heap.size := h.low.size
  have hoB := (h.owns.all i o hi).2
  have hlen : i < L.length := (List.getElem?_eq_some_iff.1 hi).1
  have hb' : ∀ k, o'.foot k → o.foot k ∨ w.heap.size ≤ k := fun k hk => hk.elim (fun h => (hb k h).imp .inl id) (fun h => .inl (hmo k h))
  refine ⟨⟨hg.os.trans h.low.os, hg.tape.trans h.low.tape, hg.output.trans h.low.output, Nat.le_trans hle hg.size, fun k hk hx => ?_⟩, ?_, ?_⟩
  · rw [hg.block k (Nat.lt_of_lt_of_le hk hle) fun e => (hoB k (.inl e.symm)).elim (fun h => by omega) hx]
    exact h.low.block k hk hx
  · intro j q hj
    by_cases e : i = j
    · subst e
      rw [List.getElem?_set_self hlen] at hj
      simp only [Option.some.injEq] at hj; subst hj
      exact ⟨ho, fun k hk => (hb' k hk).elim (hoB k) (fun h => .inl (Nat.le_trans hle h))⟩
    · rw [List.getElem?_set_ne e] at hj
      have h1 := h.owns.all j q hj
      refine ⟨q.stay w w' h1.1 hg.size fun k hk => hg.block k (q.lt w h1.1 k hk) fun e' => ?_, h1.2⟩
      exact h.owns.apart i j o q e hi hj k (.inl e'.symm) hk
  · intro j j' q q' hij hj hj' k hk hk'
    by_cases e : i = j
    · subst e
      rw [List.getElem?_set_self hlen] at hj
      rw [List.getElem?_set_ne hij] at hj'
      simp only [Option.some.injEq] at hj; subst hj
      have h2 := (h.owns.all j' q' hj').1
      rcases hb' k hk with h1 | h1
      · exact h.owns.apart i j' o q' hij hi hj' k h1 hk'
      · have := q'.lt w h2 k hk'; omega
    · rw [List.getElem?_set_ne e] at hj
      have h2 := (h.owns.all j q hj).1
      by_cases e' : i = j'
      · subst e'
        rw [List.getElem?_set_self hlen] at hj'
        simp only [Option.some.injEq] at hj'; subst hj'
        rcases hb' k hk' with h1 | h1
        · exact h.owns.apart i j o q e hi hj k h1 hk
        · have := q.lt w h2 k hk; omega
      · rw [List.getElem?_set_ne e'] at hj'
        exact h.owns.apart j j' q q' hij hj hj' k hk hk'
/-- two of them, seen as one -/
theorem Mem.merge {w : World} {R : List Own} {o1 o2 : Own} (o : Own) (h : Mem W ([o1, o2] ++ R) w) (hf : ∀ k, o.foot k → o1.foot k ∨ o2.foot k) (hh : o1.holds w → o2.holds w → o.holds w) : Mem W (R ++ [o]) w := by
  have h1 := h.owns.all 0 o1 rfl
  have h2 := h.owns.all 1 o2 rfl
  refine ⟨h.low, OwnsP.both ⟨fun i q hi => h.owns.all (i + 2) q (by simpa using hi), fun i j q q' hij hi hj => h.owns.apart (i + 2) (j + 2) q q' (by omega) (by simpa using hi) (by simpa using hj)⟩ (OwnsP.one (hh h1.1 h2.1) fun k hk => (hf k hk).elim (h1.2 k) (h2.2 k)) ?_⟩
  · intro i j q q' hi hj k hk hk'
    match j, hj with
    | 0, hj =>
      simp only [List.getElem?_cons_zero, Option.some.injEq] at hj; subst hj
      have hi' : ([o1, o2] ++ R)[i + 2]? = some q := by simpa using hi
      rcases hf k hk' with h3 | h3
      · exact h.owns.apart 0 (i + 2) o1 q (by omega) rfl hi' k h3 hk
      · exact h.owns.apart 1 (i + 2) o2 q (by omega) rfl hi' k h3 hk
    | j + 1, hj => simp at hj
theorem Mem.get {w : World} {L : List Own} (h : Mem W L w) {i : Nat} {o : Own} (hi : L[i]? = some o) : o.holds w := (h.owns.all i o hi).1
/-- a part of them is handed over to a call -/
theorem Mem.over {w : World} {L : List Own} (h : Mem W L w) : Mem (Base.on w L) L w :=
  ⟨⟨rfl, rfl, rfl, Nat.le_refl _, fun _ _ _ => rfl⟩, fun i o hi => ⟨(h.owns.all i o hi).1, fun _ hk => .inr ⟨o, List.mem_of_getElem? hi, hk⟩⟩, h.owns.apart⟩
/-- what the call has left of it; the others stay -/
theorem Mem.back {w w' : World} {L R O : List Own} (h : Mem W (L ++ R) w) (h' : Mem (Base.on w L) O w') : Mem W (R ++ O) w' := by
  have hle : W.w.heap.size ≤ w.heap.size := h.low.size
  have hL : ∀ o ∈ L, ∀ k, o.foot k → W.may k := fun o ho k hk => by
    obtain ⟨i, hi⟩ := List.getElem?_of_mem ho
    exact (h.owns.all i o (by rw [List.getElem?_append_left (List.getElem?_eq_some_iff.1 hi).1]; exact hi)).2 k hk
  have hR : ∀ (i : Nat) (o : Own), R[i]? = some o → o.holds w ∧ (∀ k, o.foot k → W.may k) ∧ ∀ k, o.foot k → k < w.heap.size ∧ ¬ (Base.on w L).X k := fun i o hi => by
    have hi' : (L ++ R)[L.length + i]? = some o := by rw [List.getElem?_append_right (by omega)]; simpa using hi
    have h1 := h.owns.all _ o hi'
    refine ⟨h1.1, h1.2, fun k hk => ⟨o.lt w h1.1 k hk, ?_⟩⟩
    rintro ⟨q, hq, hqk⟩
    obtain ⟨j, hj⟩ := List.getElem?_of_mem hq
    have hjl := (List.getElem?_eq_some_iff.1 hj).1
    exact h.owns.apart j (L.length + i) q o (by omega) (by rw [List.getElem?_append_left hjl]; exact hj) hi' k hqk hk
  refine ⟨⟨h'.low.os.trans h.low.os, h'.low.tape.trans h.low.tape, h'.low.output.trans h.low.output, Nat.le_trans hle h'.low.size, fun k hk hx => ?_⟩, OwnsP.both ⟨fun i o hi => ?_, ?_⟩ ?_ ?_⟩
  · rw [h'.low.block k (Nat.lt_of_lt_of_le hk hle) ?_]
    · exact h.low.block k hk hx
    · rintro ⟨o, ho, hok⟩
      exact (hL o ho k hok).elim (fun h => by omega) hx
  · obtain ⟨h1, h2, h3⟩ := hR i o hi
    exact ⟨o.stay w w' h1 h'.low.size fun k hk => h'.low.block k (h3 k hk).1 (h3 k hk).2, h2⟩
  · intro i j o o' hij hi hj
    exact h.owns.apart (L.length + i) (L.length + j) o o' (by omega) (by rw [List.getElem?_append_right (by omega)]; simpa using hi) (by rw [List.getElem?_append_right (by omega)]; simpa using hj)
  · exact h'.owns.mono fun k hk => hk.elim (fun h1 => .inl (Nat.le_trans hle h1)) fun ⟨o, ho, hok⟩ => hL o ho k hok
  · intro i j o o' hi hj k hk hk'
    obtain ⟨h1, h2, h3⟩ := hR i o hi
    rcases (h'.owns.all j o' hj).2 k hk' with h4 | h4
    · have h4 : w.heap.size ≤ k := h4
      have := (h3 k hk).1; omega
    · exact (h3 k hk).2 h4
end
/-- memory that was there when the call began -/
theorem Mem.cell {W w : World} {L : List Own} (h : Mem W L w) {p : Addr} {v : Value} (hp : W.cell? p = some v) : w.cell? p = some v := by
  rw [h.below.cell (World.block_lt_of_cell? W p hp)]; exact hp
/-- memory of an older world that the call can't turn -/
structure Old (W0 : World) (W : Base) : Prop where
  below : Below W0.heap.size W0 W.w
  free : ∀ k, k < W0.heap.size → ¬ W.X k
theorem Old.self (W : World) : Old W W := ⟨Below.refl _ _, fun _ _ => id⟩
theorem Old.mem {W0 : World} {W : Base} (ho : Old W0 W) {L : List Own} {w : World} (h : Mem W L w) : Below W0.heap.size W0 w :=
  ⟨h.low.os.trans ho.below.os, h.low.tape.trans ho.below.tape, h.low.output.trans ho.below.output, Nat.le_trans ho.below.size h.low.size, fun k hk => (h.low.block k (Nat.lt_of_lt_of_le hk ho.below.size) (ho.free k hk)).trans (ho.below.block k hk)⟩
theorem Old.cell {W0 : World} {W : Base} (ho : Old W0 W) {L : List Own} {w : World} (h : Mem W L w) {p : Addr} {v : Value} (hp : W0.cell? p = some v) : w.cell? p = some v := by
  rw [(ho.mem h).cell (World.block_lt_of_cell? W0 p hp)]; exact hp
/-- a call on what the caller has made later can't turn it either -/
theorem Old.on {W0 : World} {W : Base} (ho : Old W0 W) {L L' : List Own} {w : World} (h : Mem W L w) (hs : ∀ o ∈ L', o ∈ L) : Old W0 (Base.on w L') :=
  ⟨ho.mem h, fun k hk ⟨o, hm, hb⟩ => by
    obtain ⟨i, hi⟩ := List.getElem?_of_mem (hs o hm)
    rcases (h.owns.all i o hi).2 k hb with h1 | h1
    · have := ho.below.size
      have h1 : W.w.heap.size ≤ k := h1
      omega
    · exact ho.free k hk h1⟩
end Go.Proofs.Ytlojfbnimmdehaa.eng

/- Step -/
namespace Go.Proofs.Ytlojfbnimmdehaa.eng
open Go.RowKit kit mix

/-- code from which Q is come to, of whatever frame and world of which fr and L are known -/
structure T (P : Program) (n : Nat) (W : Base) (c : Code) (Q : Exit → Act → World → Prop) (fr : Fr) (L : List Own) : Prop where
  go : ∀ a w, Rep n a fr → Mem W L w → c.wp P Q a w
/-- an exit -/
structure E (n : Nat) (W : Base) (e : Exit) (Q : Exit → Act → World → Prop) (fr : Fr) (L : List Own) : Prop where
  go : ∀ a w, Rep n a fr → Mem W L w → Q e a w
/-- operations in the text's order -/
structure TL (P : Program) (n : Nat) (W : Base) (ops : Array Oper) (Q : Exit → Act → World → Prop) (l : List Oper) (fr : Fr) (L : List Own) : Prop where
  go : ∀ a w, Rep n a fr → Mem W L w → wpList P ops Q l a w
/-- operations of a region that draws its order -/
structure TM (P : Program) (n : Nat) (W : Base) (ops : Array Oper) (Q : Exit → Act → World → Prop) (K : Act → World → Prop) (ks : List Bool) (l : List Oper) (fr : Fr) (L : List Own) : Prop where
  go : ∀ a, Rep n a fr → wpM P ops Q K ks l a (Mem W L)
/-- what an operation yields -/
structure RR (P : Program) (n : Nat) (W : Base) (o : Oper) (fr : Fr) (L : List Own) (v : Value) : Prop where
  go : ∀ a w, Rep n a fr → Mem W L w → (execOp a.eval o).run P w = .ok (.value v) w
/-- what a call may hand back -/
structure Spec (ι : Type) where
  ok : ι → Prop
  val : ι → Value
  own : ι → List Own
def Meets {ι : Type} (S : Spec ι) (w : World) (e : Ending) (w' : World) : Prop := ∃ x, S.ok x ∧ e = .returned (S.val x) ∧ Gr w w' ∧ Owns w.heap.size w' (S.own x)
/-- one value -/
def ret (v : Value) : Spec Unit := ⟨fun _ => True, fun _ => v, fun _ => []⟩
theorem meets_ret {v : Value} {w w' : World} {e : Ending} (h : e = .returned v) (hg : Gr w w') : Meets (ret v) w e w' := ⟨(), trivial, h, hg, Owns.nil _ _⟩
theorem of_meets {v : Value} {w w' : World} {e : Ending} (h : Meets (ret v) w e w') : e = .returned v ∧ Gr w w' := let ⟨_, _, h1, h2, _⟩ := h; ⟨h1, h2⟩

section
variable {P : Program} {n : Nat} {W : Base} {Q : Exit → Act → World → Prop} {fr : Fr} {L : List Own}

theorem T_seq {x y : Code} (h : T P n W x (Exit.then (y.wp P Q) Q) fr L) : T P n W (x.seq y) Q fr L := .mk fun a w hr hm => wp_seq (h.go a w hr hm)
theorem T_skip (h : E n W .normal Q fr L) : T P n W .skip Q fr L := .mk fun a w hr hm => wp_skip (h.go a w hr hm)
theorem T_exit {id : Nat} (h : E n W (.exit id) Q fr L) : T P n W (.exit id) Q fr L := .mk fun a w hr hm => wp_exit (h.go a w hr hm)
theorem T_ret (h : E n W .ret Q fr L) : T P n W .ret Q fr L := .mk fun a w hr hm => wp_ret (h.go a w hr hm)
theorem T_block {id : Nat} {c : Code} (h : T P n W c (Exit.inBlock id Q) fr L) : T P n W (.block id c) Q fr L := .mk fun a w hr hm => wp_block (h.go a w hr hm)
theorem T_condT {c : Operand} {x y : Code} (hc : ev fr c = some (.bool true)) (h : T P n W x Q fr L) : T P n W (.cond c x y) Q fr L := .mk fun a w hr hm => wp_cond_true (hr.ev hc) (h.go a w hr hm)
theorem T_condF {c : Operand} {x y : Code} (hc : ev fr c = some (.bool false)) (h : T P n W y Q fr L) : T P n W (.cond c x y) Q fr L := .mk fun a w hr hm => wp_cond_false (hr.ev hc) (h.go a w hr hm)
theorem T_cond {c : Operand} {x y : Code} {t : Bool} (hc : ev fr c = some (.bool t)) (ht : t = true → T P n W x Q fr L) (hf : t = false → T P n W y Q fr L) : T P n W (.cond c x y) Q fr L := by
  cases t
  · exact T_condF hc (hf rfl)
  · exact T_condT hc (ht rfl)
/-- the same with less known -/
theorem T_sub {c : Code} (fr' : Fr) (hs : Subs fr' fr) (h : T P n W c Q fr' L) : T P n W c Q fr L := .mk fun a w hr hm => h.go a w (hr.sub hs) hm
theorem E_sub {e : Exit} (fr' : Fr) (hs : Subs fr' fr) (h : E n W e Q fr' L) : E n W e Q fr L := .mk fun a w hr hm => h.go a w (hr.sub hs) hm
theorem T_pick {c : Code} {L' : List Own} (is : List Nat) (hn : is.Nodup) (hl : L' = is.filterMap fun i => L[i]?) (h : T P n W c Q fr L') : T P n W c Q fr L := .mk fun a w hr hm => h.go a w hr (hm.pick is hn hl)
theorem E_pick {e : Exit} {L' : List Own} (is : List Nat) (hn : is.Nodup) (hl : L' = is.filterMap fun i => L[i]?) (h : E n W e Q fr L') : E n W e Q fr L := .mk fun a w hr hm => h.go a w hr (hm.pick is hn hl)

theorem E_then {y : Code} (h : T P n W y Q fr L) : E n W .normal (Exit.then (y.wp P Q) Q) fr L := ⟨h.go⟩
theorem E_thenX {id : Nat} {K : Act → World → Prop} (h : E n W (.exit id) Q fr L) : E n W (.exit id) (Exit.then K Q) fr L := ⟨h.go⟩
theorem E_thenR {K : Act → World → Prop} (h : E n W .ret Q fr L) : E n W .ret (Exit.then K Q) fr L := ⟨h.go⟩
theorem E_blockN {id : Nat} (h : E n W .normal Q fr L) : E n W .normal (Exit.inBlock id Q) fr L := ⟨h.go⟩
theorem E_blockR {id : Nat} (h : E n W .ret Q fr L) : E n W .ret (Exit.inBlock id Q) fr L := ⟨h.go⟩
theorem E_blockX {id : Nat} (h : E n W .normal Q fr L) : E n W (.exit id) (Exit.inBlock id Q) fr L := .mk fun a w hr hm => by
  show (if id = id then Q .normal a w else Q (.exit id) a w)
  rw [if_pos rfl]; exact h.go a w hr hm
theorem E_blockO {id id' : Nat} (hne : Nat.beq id' id = false) (h : E n W (.exit id') Q fr L) : E n W (.exit id') (Exit.inBlock id Q) fr L := .mk fun a w hr hm => by
  show (if id' = id then Q .normal a w else Q (.exit id') a w)
  rw [if_neg (Nat.ne_of_beq_eq_false hne)]; exact h.go a w hr hm

/-- a round's end: the state at a smaller measure -/
def Rnd {ι : Type} (n : Nat) (W : Base) (I : ι → Prop) (F : ι → Fr) (M : ι → List Own) (μ : ι → Nat) (x : ι) (a : Act) (w : World) : Prop := ∃ x', I x' ∧ μ x' < μ x ∧ Rep n a (F x') ∧ Mem W (M x') w
/-- a meeting point -/
def Mid {ι : Type} (n : Nat) (W : Base) (I : ι → Prop) (F : ι → Fr) (M : ι → List Own) (a : Act) (w : World) : Prop := ∃ i, I i ∧ Rep n a (F i) ∧ Mem W (M i) w
/-- a state that several ways come to -/
theorem T_mid {x y : Code} {ι : Type} (I : ι → Prop) (F : ι → Fr) (M : ι → List Own)
    (hx : T P n W x (Exit.then (Mid n W I F M) Q) fr L) (hy : ∀ i, I i → T P n W y Q (F i) (M i)) : T P n W (x.seq y) Q fr L := .mk fun a w hr hm =>
  wp_seq (wp_mono (hx.go a w hr hm) fun e a w h => by
    cases e with
    | normal => obtain ⟨i, h1, h2, h3⟩ := h; exact (hy i h1).go a w h2 h3
    | _ => exact h)
theorem E_mid {ι : Type} {I : ι → Prop} {F : ι → Fr} {M : ι → List Own} (i : ι) (hi : I i) (hf : Subs (F i) fr) (hl : L = M i) : E n W .normal (Exit.then (Mid n W I F M) Q) fr L :=
  ⟨fun _ _ hr hm => ⟨i, hi, hr.sub hf, hl ▸ hm⟩⟩
/-- a loop: I: what holds of its state; F: the slots; M: memory; μ goes down -/
theorem T_loop {c : Code} {ι : Type} (I : ι → Prop) (F : ι → Fr) (M : ι → List Own) (μ : ι → Nat) (x0 : ι) (h0 : I x0) (hf : Subs (F x0) fr) (hl : L = M x0)
    (round : ∀ x, I x → T P n W c (Exit.then (Rnd n W I F M μ x) Q) (F x) (M x)) : T P n W (.loop c) Q fr L := by
  refine ⟨fun a w hr hm => ?_⟩
  refine wp_loop_ghost (fun k a w => ∃ x, μ x = k ∧ I x ∧ Rep n a (F x) ∧ Mem W (M x) w) (μ x0) ⟨x0, rfl, h0, hr.sub hf, hl ▸ hm⟩ ?_
  rintro k a w ⟨x, rfl, hi, hr, hm⟩
  refine wp_mono ((round x hi).go a w hr hm) fun e a w h => ?_
  cases e with
  | normal => obtain ⟨x', h1, h2, h3, h4⟩ := h; exact ⟨μ x', h2, x', rfl, h1, h3, h4⟩
  | _ => exact h
theorem E_round {ι : Type} {I : ι → Prop} {F : ι → Fr} {M : ι → List Own} {μ : ι → Nat} {x : ι} (x' : ι) (hi : I x') (hμ : μ x' < μ x) (hf : Subs (F x') fr) (hl : L = M x') :
    E n W .normal (Exit.then (Rnd n W I F M μ x) Q) fr L :=
  ⟨fun _ _ hr hm => ⟨x', hi, hμ, hr.sub hf, hl ▸ hm⟩⟩

/-! ### the call's own end -/
theorem E_ret {fn : Func} {R : Ending → World → Prop} (h : ∀ a w, Rep n a fr → Mem W L w → ∃ v, (results fn a.tmps).run P w = .ok v w ∧ R (.returned v) w) : E n W .ret (bodyPost P fn R) fr L :=
  ⟨fun a w hr hm => ⟨hr.defers, h a w hr hm⟩⟩
theorem E_ret1 {fn : Func} {R : Ending → World → Prop} {t : Tmp} {v : Value} (hres : fn.results = #[.tmp t]) (hv : look fr t = some v) (h : ∀ w, Mem W L w → R (.returned v) w) : E n W .ret (bodyPost P fn R) fr L :=
  E_ret fun a w hr hm => ⟨v, by simp [results, hres, Array.getD_eq_getD_getElem?, hr.get t v hv], h w hm⟩
theorem E_ret2 {fn : Func} {R : Ending → World → Prop} {t u : Tmp} {v z : Value} (hres : fn.results = #[.tmp t, .tmp u]) (hv : look fr t = some v) (hz : look fr u = some z) (h : ∀ w, Mem W L w → R (.returned (.tuple #[v, z])) w) : E n W .ret (bodyPost P fn R) fr L :=
  E_ret fun a w hr hm => ⟨_, by simp [results, hres, Array.getD_eq_getD_getElem?, hr.get t v hv, hr.get u z hz], h w hm⟩
theorem E_ret3 {fn : Func} {R : Ending → World → Prop} {t u s : Tmp} {v z y : Value} (hres : fn.results = #[.tmp t, .tmp u, .tmp s]) (hv : look fr t = some v) (hz : look fr u = some z) (hy : look fr s = some y) (h : ∀ w, Mem W L w → R (.returned (.tuple #[v, z, y])) w) : E n W .ret (bodyPost P fn R) fr L :=
  E_ret fun a w hr hm => ⟨_, by simp [results, hres, Array.getD_eq_getD_getElem?, hr.get t v hv, hr.get u z hz, hr.get s y hy], h w hm⟩
theorem Mem.meets {ι : Type} {S : Spec ι} {W w : World} (x : ι) (hm : Mem W L w) (hx : S.ok x) (is : List Nat) (hn : is.Nodup) (hl : S.own x = is.filterMap fun i => L[i]?) : Meets S W (.returned (S.val x)) w :=
  ⟨x, hx, rfl, hm.below, hm.newer.pick is hn hl⟩
theorem Mem.ret {v : Value} {W w : World} (hm : Mem W L w) : Meets (ret v) W (.returned v) w := ⟨(), trivial, rfl, hm.below, Owns.nil _ _⟩
/-- one value, told by an equation -/
theorem E_ret1e {fn : Func} {W : World} {t : Tmp} {v v0 : Value} (hres : fn.results = #[.tmp t]) (hv : look fr t = some v) (h : v = v0) : E n W .ret (bodyPost P fn (Meets (ret v0) W)) fr L := by
  subst h; exact E_ret1 hres hv fun w hm => hm.ret
theorem E_ret2e {fn : Func} {W : World} {t u : Tmp} {v z v0 : Value} (hres : fn.results = #[.tmp t, .tmp u]) (hv : look fr t = some v) (hz : look fr u = some z) (h : .tuple #[v, z] = v0) : E n W .ret (bodyPost P fn (Meets (ret v0) W)) fr L := by
  subst h; exact E_ret2 hres hv hz fun w hm => hm.ret
theorem E_ret3e {fn : Func} {W : World} {t u s : Tmp} {v z y v0 : Value} (hres : fn.results = #[.tmp t, .tmp u, .tmp s]) (hv : look fr t = some v) (hz : look fr u = some z) (hy : look fr s = some y) (h : .tuple #[v, z, y] = v0) : E n W .ret (bodyPost P fn (Meets (ret v0) W)) fr L := by
  subst h; exact E_ret3 hres hv hz hy fun w hm => hm.ret
/-- the call's beginning -/
def frameOf : Nat → List Value → Fr
  | _, [] => []
  | k, v :: r => (k, v) :: frameOf (k + 1) r
theorem look_frameOf : ∀ (vs : List Value) (k i : Nat) (v : Value), look (frameOf k vs) i = some v → k ≤ i ∧ vs[i - k]? = some v
  | [], _, _, _, h => by cases h
  | u :: r, k, i, v, h => by
    unfold frameOf look at h
    cases e : Nat.beq k i
    · rw [e] at h
      have hne := Nat.ne_of_beq_eq_false e
      obtain ⟨h1, h2⟩ := look_frameOf r (k + 1) i v h
      refine ⟨by omega, ?_⟩
      rw [show i - k = (i - (k + 1)) + 1 by omega, List.getElem?_cons_succ]; exact h2
    · rw [e] at h
      obtain rfl : k = i := Nat.eq_of_beq_eq_true e
      simp only [cond_true, Option.some.injEq] at h
      subst h; simp
theorem enter {w : World} {f : FuncId} {fn : Func} {c : Code} {args : List Value} {R : Ending → World → Prop} (hf : P.funcs[f]? = some fn) (hb : fn.body = some c) (hn : fn.ntmps = n) (hle : Nat.ble args.length n = true)
    (h : T P n w c (bodyPost P fn R) (frameOf 0 args) []) : Calls P f args.toArray w R := by
  have hle' : args.length ≤ n := Nat.le_of_ble_eq_true hle
  refine calls_of_wp hf hb (h.go _ w ⟨?_, rfl, fun i v hi => ?_⟩ (Mem.start w))
  · simp [hn]; omega
  · obtain ⟨_, h2⟩ := look_frameOf args 0 i v hi
    have hlt := (List.getElem?_eq_some_iff.1 h2).1
    rw [Array.getElem?_append_left (by simpa using hlt)]
    simpa using h2

/-- the same of a call that may turn memory which it is handed over -/
theorem enterB {B : Base} {w : World} {f : FuncId} {fn : Func} {c : Code} {args : List Value} {R : Ending → World → Prop} (hm : Mem B L w) (hf : P.funcs[f]? = some fn) (hb : fn.body = some c) (hn : fn.ntmps = n) (hle : Nat.ble args.length n = true)
    (h : T P n B c (bodyPost P fn R) (frameOf 0 args) L) : Calls P f args.toArray w R := by
  have hle' : args.length ≤ n := Nat.le_of_ble_eq_true hle
  refine calls_of_wp hf hb (h.go _ w ⟨?_, rfl, fun i v hi => ?_⟩ hm)
  · simp [hn]; omega
  · obtain ⟨_, h2⟩ := look_frameOf args 0 i v hi
    have hlt := (List.getElem?_eq_some_iff.1 h2).1
    rw [Array.getElem?_append_left (by simpa using hlt)]
    simpa using h2

/-! ### regions -/
section
variable {ops : Array Oper} {K : Act → World → Prop} {ks : List Bool} {o : Oper} {rest : List Oper} {v : Value} {d : Nat}
theorem T_region {id : Nat} {l : List Oper} (h : TL P n W l.toArray Q l fr L) : T P n W (.region id l.toArray false) Q fr L := .mk fun a w hr hm => wp_region_lit (h.go a w hr hm)
theorem TL_nil (h : E n W .normal Q fr L) : TL P n W ops Q [] fr L := .mk fun a w hr hm => wpList_nil (h.go a w hr hm)
theorem wanted_none {a : Act} (hg : o.guard = none) : Region.wanted o (yielded ops a.tmps) = true := by simp [Region.wanted, hg]
theorem wanted_yes {a : Act} {j e : Nat} {b : Bool} (hr : Rep n a fr) (hg : o.guard = some (j, b)) (hj : (ops[j]?).bind (·.dst) = some e) (hl : look fr e = some (.bool b)) : Region.wanted o (yielded ops a.tmps) = true := by
  simp [Region.wanted, hg, hr.yield hj hl]
def notB (b : Bool) : Value → Bool
  | .bool c => c != b
  | _ => true
theorem wanted_no {a : Act} {j e : Nat} {b : Bool} {u : Value} (hr : Rep n a fr) (hg : o.guard = some (j, b)) (hj : (ops[j]?).bind (·.dst) = some e) (hl : look fr e = some u) (hu : notB b u = true) : Region.wanted o (yielded ops a.tmps) = false := by
  simp only [Region.wanted, hg, hr.yield hj hl]
  cases u <;> first | rfl | (rename_i c; cases c <;> cases b <;> first | rfl | cases hu)
theorem TL_val (hr : RR P n W o fr L v) (hg : o.guard = none) (hd : o.dst = some d) (hn : Nat.blt d n = true) (h : TL P n W ops Q rest ((d, v) :: fr) L) : TL P n W ops Q (o :: rest) fr L := .mk fun a w hrep hm =>
  wpList_plain hg fun K hK => by
    unfold Oper.wp; rw [hr.go a w hrep hm]; rw [Oper.upon_value, hd]
    exact hK _ _ (h.go _ w (hrep.put hn v) hm)
theorem TL_gval {j e : Nat} {b : Bool} (hr : RR P n W o fr L v) (hg : o.guard = some (j, b)) (hj : (ops[j]?).bind (·.dst) = some e) (hl : look fr e = some (.bool b)) (hd : o.dst = some d) (hn : Nat.blt d n = true) (h : TL P n W ops Q rest ((d, v) :: fr) L) : TL P n W ops Q (o :: rest) fr L := .mk fun a w hrep hm =>
  BigFrame.wpList_want (wanted_yes hrep hg hj hl) fun K hK => by
    unfold Oper.wp; rw [hr.go a w hrep hm]; rw [Oper.upon_value, hd]
    exact hK _ _ (h.go _ w (hrep.put hn v) hm)
theorem TL_skip {j e : Nat} {b : Bool} {u : Value} (hg : o.guard = some (j, b)) (hj : (ops[j]?).bind (·.dst) = some e) (hl : look fr e = some u) (hu : notB b u = true) (hd : o.dst = some d) (hn : Nat.blt d n = true) (h : TL P n W ops Q rest ((d, undef) :: fr) L) : TL P n W ops Q (o :: rest) fr L := .mk fun a w hrep hm =>
  wpList_skip (wanted_no hrep hg hj hl hu) (by rw [hd]; exact h.go _ w (hrep.put hn undef) hm)
/-- a comparison that is not decided yet -/
theorem TL_split {p : Prop} {inst : Decidable p} (hr : RR P n W o fr L (.bool (decide p))) (hg : o.guard = none) (hd : o.dst = some d) (hn : Nat.blt d n = true) (ht : p → TL P n W ops Q rest ((d, .bool true) :: fr) L) (hf : ¬ p → TL P n W ops Q rest ((d, .bool false) :: fr) L) : TL P n W ops Q (o :: rest) fr L := by
  by_cases h : p
  · exact TL_val (by rwa [decide_eq_true h] at hr) hg hd hn (ht h)
  · exact TL_val (by rwa [decide_eq_false h] at hr) hg hd hn (hf h)
theorem TL_gsplitv {p : Prop} {inst : Decidable p} {j e : Nat} {b : Bool} (hr : RR P n W o fr L (.bool (decide p))) (hg : o.guard = some (j, b)) (hj : (ops[j]?).bind (·.dst) = some e) (hl : look fr e = some (.bool b)) (hd : o.dst = some d) (hn : Nat.blt d n = true) (ht : p → TL P n W ops Q rest ((d, .bool true) :: fr) L) (hf : ¬ p → TL P n W ops Q rest ((d, .bool false) :: fr) L) : TL P n W ops Q (o :: rest) fr L := by
  by_cases h : p
  · exact TL_gval (by rwa [decide_eq_true h] at hr) hg hj hl hd hn (ht h)
  · exact TL_gval (by rwa [decide_eq_false h] at hr) hg hj hl hd hn (hf h)
theorem Rep.also {a : Act} {e : Nat} {v : Value} (h : Rep n a fr) (hl : look fr e = some v) : Rep n a ((e, v) :: fr) := ⟨h.size, h.defers, fun i u hi => by
    unfold look at hi
    cases c : Nat.beq e i
    · rw [c] at hi; exact h.get i u hi
    · rw [c] at hi
      obtain rfl : e = i := Nat.eq_of_beq_eq_true c
      simp only [cond_true, Option.some.injEq] at hi
      subst hi; exact h.get e v hl⟩
theorem TL_gsplit {j e : Nat} {b0 b : Bool} (_ : o.guard = some (j, b0)) (_ : (ops[j]?).bind (·.dst) = some e) (hl : look fr e = some (.bool b)) (ht : b = true → TL P n W ops Q (o :: rest) ((e, .bool true) :: fr) L) (hf : b = false → TL P n W ops Q (o :: rest) ((e, .bool false) :: fr) L) : TL P n W ops Q (o :: rest) fr L := .mk fun a w hr hm => by
  cases b
  · exact (hf rfl).go a w (hr.also hl) hm
  · exact (ht rfl).go a w (hr.also hl) hm
theorem TL_isT {j e : Nat} {b0 : Bool} (_ : o.guard = some (j, b0)) (_ : (ops[j]?).bind (·.dst) = some e) (_ : look fr e = some (.bool true)) (h : TL P n W ops Q (o :: rest) fr L) : TL P n W ops Q (o :: rest) fr L := h
theorem TL_isF {j e : Nat} {b0 : Bool} (_ : o.guard = some (j, b0)) (_ : (ops[j]?).bind (·.dst) = some e) (_ : look fr e = some (.bool false)) (h : TL P n W ops Q (o :: rest) fr L) : TL P n W ops Q (o :: rest) fr L := h
theorem T_condS {c : Tmp} {x y : Code} {b : Bool} (hl : look fr c = some (.bool b)) (ht : b = true → T P n W x Q ((c, .bool true) :: fr) L) (hf : b = false → T P n W y Q ((c, .bool false) :: fr) L) : T P n W (.cond (.tmp c) x y) Q fr L := .mk fun a w hr hm => by
  cases b
  · exact wp_cond_false (hr.ev (x := .tmp c) hl) ((hf rfl).go a w (hr.also hl) hm)
  · exact wp_cond_true (hr.ev (x := .tmp c) hl) ((ht rfl).go a w (hr.also hl) hm)
/-- the same region with less known -/
theorem TL_sub (fr' : Fr) (hs : Subs fr' fr) (h : TL P n W ops Q rest fr' L) : TL P n W ops Q rest fr L := .mk fun a w hr hm => h.go a w (hr.sub hs) hm
/-- a call -/
theorem TL_call {f : FuncId} {args : Array Value} {ι : Type} {S : Spec ι} (he : ∀ a w, Rep n a fr → (execOp a.eval o).run P w = .ok (.enter f args) w) (hc : ∀ w, Mem W L w → Calls P f args w (Meets S w)) (hg : o.guard = none) (hd : o.dst = some d) (hn : Nat.blt d n = true)
    (h : ∀ x, S.ok x → TL P n W ops Q rest ((d, S.val x) :: fr) (L ++ S.own x)) : TL P n W ops Q (o :: rest) fr L := .mk fun a w hrep hm =>
  wpList_plain hg fun K hK => by
    unfold Oper.wp; rw [he a w hrep, Oper.upon_enter]
    refine (hc w hm).mono fun e w' ⟨x, h1, h2, h3, h4⟩ => ?_
    subst h2
    simp only [hd]
    exact hK _ _ ((h x h1).go _ w' (hrep.put hn _) (hm.append h3 h4))
theorem TL_gcall {f : FuncId} {args : Array Value} {ι : Type} {S : Spec ι} {j e : Nat} {b : Bool} (he : ∀ a w, Rep n a fr → (execOp a.eval o).run P w = .ok (.enter f args) w) (hc : ∀ w, Mem W L w → Calls P f args w (Meets S w)) (hg : o.guard = some (j, b)) (hj : (ops[j]?).bind (·.dst) = some e) (hl : look fr e = some (.bool b)) (hd : o.dst = some d) (hn : Nat.blt d n = true)
    (h : ∀ x, S.ok x → TL P n W ops Q rest ((d, S.val x) :: fr) (L ++ S.own x)) : TL P n W ops Q (o :: rest) fr L := .mk fun a w hrep hm =>
  BigFrame.wpList_want (wanted_yes hrep hg hj hl) fun K hK => by
    unfold Oper.wp; rw [he a w hrep, Oper.upon_enter]
    refine (hc w hm).mono fun e w' ⟨x, h1, h2, h3, h4⟩ => ?_
    subst h2
    simp only [hd]
    exact hK _ _ ((h x h1).go _ w' (hrep.put hn _) (hm.append h3 h4))
/-- a call that turns memory which it is handed over: 'is' of L, 'js' stay behind -/
def MeetsB {ι : Type} (S : Spec ι) (B : Base) (e : Ending) (w' : World) : Prop := ∃ x, S.ok x ∧ e = .returned (S.val x) ∧ Mem B (S.own x) w'
theorem Mem.meetsB {ι : Type} {S : Spec ι} {w : World} (x : ι) (hm : Mem W L w) (hx : S.ok x) (is : List Nat) (hn : is.Nodup) (hl : S.own x = is.filterMap fun i => L[i]?) : MeetsB S W (.returned (S.val x)) w :=
  ⟨x, hx, rfl, hm.pick is hn hl⟩
theorem split_pick {is js : List Nat} {Lx R : List Own} (hlx : Lx = is.filterMap fun i => L[i]?) (hlr : R = js.filterMap fun i => L[i]?) : Lx ++ R = (is ++ js).filterMap fun i => L[i]? := by
  rw [List.filterMap_append, ← hlx, ← hlr]
theorem TL_callB {f : FuncId} {args : Array Value} {ι : Type} {S : Spec ι} (is js : List Nat) {Lx R : List Own} (hn2 : (is ++ js).Nodup) (hlx : Lx = is.filterMap fun i => L[i]?) (hlr : R = js.filterMap fun i => L[i]?)
    (he : ∀ a w, Rep n a fr → (execOp a.eval o).run P w = .ok (.enter f args) w) (hc : ∀ w, Mem W L w → Mem (Base.on w Lx) Lx w → Calls P f args w (MeetsB S (Base.on w Lx))) (hg : o.guard = none) (hd : o.dst = some d) (hn : Nat.blt d n = true)
    (h : ∀ x, S.ok x → TL P n W ops Q rest ((d, S.val x) :: fr) (R ++ S.own x)) : TL P n W ops Q (o :: rest) fr L := .mk fun a w hrep hm =>
  wpList_plain hg fun K hK => by
    have hm2 : Mem W (Lx ++ R) w := hm.pick (is ++ js) hn2 (split_pick hlx hlr)
    have hm3 : Mem W Lx w := hm.pick is (List.nodup_append.1 hn2).1 hlx
    unfold Oper.wp; rw [he a w hrep, Oper.upon_enter]
    refine (hc w hm hm3.over).mono fun e w' ⟨x, h1, h2, h3⟩ => ?_
    subst h2
    simp only [hd]
    exact hK _ _ ((h x h1).go _ w' (hrep.put hn _) (hm2.back h3))
/-- the same, no result being kept -/
theorem TL_callB0 {f : FuncId} {args : Array Value} {ι : Type} {S : Spec ι} (is js : List Nat) {Lx R : List Own} (hn2 : (is ++ js).Nodup) (hlx : Lx = is.filterMap fun i => L[i]?) (hlr : R = js.filterMap fun i => L[i]?)
    (he : ∀ a w, Rep n a fr → (execOp a.eval o).run P w = .ok (.enter f args) w) (hc : ∀ w, Mem W L w → Mem (Base.on w Lx) Lx w → Calls P f args w (MeetsB S (Base.on w Lx))) (hg : o.guard = none) (hd : o.dst = none)
    (h : ∀ x, S.ok x → TL P n W ops Q rest fr (R ++ S.own x)) : TL P n W ops Q (o :: rest) fr L := .mk fun a w hrep hm =>
  wpList_plain hg fun K hK => by
    have hm2 : Mem W (Lx ++ R) w := hm.pick (is ++ js) hn2 (split_pick hlx hlr)
    have hm3 : Mem W Lx w := hm.pick is (List.nodup_append.1 hn2).1 hlx
    unfold Oper.wp; rw [he a w hrep, Oper.upon_enter]
    refine (hc w hm hm3.over).mono fun e w' ⟨x, h1, h2, h3⟩ => ?_
    subst h2
    simp only [hd]
    exact hK _ _ ((h x h1).go _ w' (hrep.put_none _) (hm2.back h3))
/-- whatever an operation does -/
theorem TL_any (hg : o.guard = none) (h : ∀ a w, Rep n a fr → Mem W L w → ∀ K : Act → World → Prop, (∀ a w, wpList P ops Q rest a w → K a w) → o.wp P a w K Q) : TL P n W ops Q (o :: rest) fr L := .mk fun a w hrep hm =>
  wpList_plain hg fun K hK => h a w hrep hm K hK

/-! a region that draws its order -/
theorem T_draw {id : Nat} {l : List Oper} (k : Nat) (ks : List Bool) (hk : ks.length = k) (hm : P.follows .mixedOrders = true) (hB : lexM .any l.toArray ks = true)
    (hQ : ∀ c a d v w, Q (.panic c) (Act.put a d v) w → Q (.panic c) a w)
    (h : TM P n W l.toArray Q (fun a' w' => wpList P l.toArray Q (l.drop k) a' w') ks (l.take k) fr L) : T P n W (.region id l.toArray true) Q fr L := .mk fun a _ hr hmm =>
  mix.mix k ks hk hm hB (fun c a d v w => hQ c a d v w) (Mem W L) (closed_mem W L) hmm.drew (h.go a hr)
theorem TM_end {l : List Oper} (h : TL P n W ops Q l fr L) : TM P n W ops Q (fun a' w' => wpList P ops Q l a' w') [] [] fr L := .mk fun a hr => wpM_end fun w hw => h.go a w hr hw
theorem TM_val (hr : RR P n W o fr L v) (hg : o.guard = none) (hd : o.dst = some d) (hn : Nat.blt d n = true) (h : TM P n W ops Q K ks rest ((d, v) :: fr) L) : TM P n W ops Q K (true :: ks) (o :: rest) fr L := .mk fun a hrep =>
  wpM_val (wanted_none hg) (fun w hS => hr.go a w hrep hS) (by rw [hd]; exact h.go _ (hrep.put hn v))
theorem TM_gval {j e : Nat} {b : Bool} (hr : RR P n W o fr L v) (hg : o.guard = some (j, b)) (hj : (ops[j]?).bind (·.dst) = some e) (hl : look fr e = some (.bool b)) (hd : o.dst = some d) (hn : Nat.blt d n = true) (h : TM P n W ops Q K ks rest ((d, v) :: fr) L) : TM P n W ops Q K (true :: ks) (o :: rest) fr L := .mk fun a hrep =>
  wpM_val (wanted_yes hrep hg hj hl) (fun w hS => hr.go a w hrep hS) (by rw [hd]; exact h.go _ (hrep.put hn v))
theorem TM_skip {j e : Nat} {b : Bool} {u : Value} (hg : o.guard = some (j, b)) (hj : (ops[j]?).bind (·.dst) = some e) (hl : look fr e = some u) (hu : notB b u = true) (hd : o.dst = some d) (hn : Nat.blt d n = true) (h : TM P n W ops Q K ks rest ((d, undef) :: fr) L) : TM P n W ops Q K (true :: ks) (o :: rest) fr L := .mk fun a hrep =>
  wpM_skip (wanted_no hrep hg hj hl hu) (by rw [hd]; exact h.go _ (hrep.put hn undef))
theorem TM_call {f : FuncId} {args : Array Value} (he : ∀ a w, Rep n a fr → (execOp a.eval o).run P w = .ok (.enter f args) w) (hc : ∀ w, Mem W L w → Calls P f args w (Meets (ret v) w)) (hg : o.guard = none) (hd : o.dst = some d) (hn : Nat.blt d n = true)
    (h : TM P n W ops Q K ks rest ((d, v) :: fr) L) : TM P n W ops Q K (true :: ks) (o :: rest) fr L := .mk fun a hrep =>
  wpM_call (wanted_none hg) (fun w => he a w hrep) (fun w hw => (hc w hw).mono fun _ _ h => of_meets h) (by rw [hd]; exact h.go _ (hrep.put hn v))
theorem TM_gcall {f : FuncId} {args : Array Value} {j e : Nat} {b : Bool} (he : ∀ a w, Rep n a fr → (execOp a.eval o).run P w = .ok (.enter f args) w) (hc : ∀ w, Mem W L w → Calls P f args w (Meets (ret v) w)) (hg : o.guard = some (j, b)) (hj : (ops[j]?).bind (·.dst) = some e) (hl : look fr e = some (.bool b)) (hd : o.dst = some d) (hn : Nat.blt d n = true)
    (h : TM P n W ops Q K ks rest ((d, v) :: fr) L) : TM P n W ops Q K (true :: ks) (o :: rest) fr L := .mk fun a hrep =>
  wpM_call (wanted_yes hrep hg hj hl) (fun w => he a w hrep) (fun w hw => (hc w hw).mono fun _ _ h => of_meets h) (by rw [hd]; exact h.go _ (hrep.put hn v))
/-- a guarded operation whose guard is met -/
theorem TL_metg {q e : Nat} {b : Bool} (hg : o.guard = some (q, b)) (hj : (ops[q]?).bind (·.dst) = some e) (hl : look fr e = some (.bool b)) (h : TL P n W ops Q ({ o with guard := none } :: rest) fr L) : TL P n W ops Q (o :: rest) fr L := .mk fun a w hr hm => by
  have h1 := h.go a w hr hm
  unfold wpList at h1 ⊢
  rw [if_pos (wanted_none rfl)] at h1
  rw [if_pos (wanted_yes hr hg hj hl)]
  exact h1
/-! the same with the guard asked first (what does not fit falls at once) -/
theorem TL_valg (hg : o.guard = none) (hr : RR P n W o fr L v) (hd : o.dst = some d) (hn : Nat.blt d n = true) (h : TL P n W ops Q rest ((d, v) :: fr) L) : TL P n W ops Q (o :: rest) fr L := TL_val hr hg hd hn h
theorem TL_gvalg {j e : Nat} {b : Bool} (hg : o.guard = some (j, b)) (hj : (ops[j]?).bind (·.dst) = some e) (hl : look fr e = some (.bool b)) (hr : RR P n W o fr L v) (hd : o.dst = some d) (hn : Nat.blt d n = true) (h : TL P n W ops Q rest ((d, v) :: fr) L) : TL P n W ops Q (o :: rest) fr L := TL_gval hr hg hj hl hd hn h
theorem TM_valg (hg : o.guard = none) (hr : RR P n W o fr L v) (hd : o.dst = some d) (hn : Nat.blt d n = true) (h : TM P n W ops Q K ks rest ((d, v) :: fr) L) : TM P n W ops Q K (true :: ks) (o :: rest) fr L := TM_val hr hg hd hn h
theorem TM_gvalg {j e : Nat} {b : Bool} (hg : o.guard = some (j, b)) (hj : (ops[j]?).bind (·.dst) = some e) (hl : look fr e = some (.bool b)) (hr : RR P n W o fr L v) (hd : o.dst = some d) (hn : Nat.blt d n = true) (h : TM P n W ops Q K ks rest ((d, v) :: fr) L) : TM P n W ops Q K (true :: ks) (o :: rest) fr L := TM_gval hr hg hj hl hd hn h
end
end
end Go.Proofs.Ytlojfbnimmdehaa.eng

/- Ops -/
namespace Go.Proofs.Ytlojfbnimmdehaa.eng
open Go.RowKit kit mix

/-- a text -/
def str (l : List UInt8) : Value := .string ⟨l.toArray⟩
theorem str_of (s : ByteArray) : Value.string s = str s.data.toList := by unfold str; congr
/-- a type's layout: is it a struct or an array; how many cells has it? -/
structure Ty (P : Program) (t : TypeId) (agg : Bool) (c : Nat) : Prop where
  agg : ∀ w, (isAgg t).run P w = .ok agg w
  size : ∀ w, (sizeOf t).run P w = .ok c w
def tyB (P : Program) (t : TypeId) (agg : Bool) (c : Nat) : Bool :=
  (match P.underlying t with | some (.struct _) => agg | some (.array _ _) => agg | some _ => !agg | none => false) && (match P.info? t with | some i => Nat.beq i.size c | none => false)
theorem Ty.of {P : Program} {t : TypeId} {agg : Bool} {c : Nat} (h : tyB P t agg c = true) : Ty P t agg c := by
  unfold tyB at h
  rw [Bool.and_eq_true] at h
  obtain ⟨h1, h2⟩ := h
  refine ⟨fun w => ?_, fun w => ?_⟩
  · cases e : P.underlying t with
    | none => rw [e] at h1; cases h1
    | some d =>
      rw [e] at h1
      cases agg <;> cases d <;> first | (cases h1; done) | simp [isAgg, run_underlying e]
  · cases e : P.info? t with
    | none => rw [e] at h2; cases h2
    | some i =>
      rw [e] at h2
      obtain rfl : i.size = c := Nat.eq_of_beq_eq_true h2
      simp [sizeOf, typeInfo, e]
section
variable {P : Program} {n : Nat} {W : Base} {fr : Fr} {L : List Own} {dst : Option Tmp} {ty : TypeId} {pos : String} {after : Array Edge} {guard : Option (Nat × Bool)}

theorem rr_move {x : Operand} {v : Value} (hx : ev fr x = some v) : RR P n W ⟨dst, .move x, ty, pos, after, guard⟩ fr L v := .mk fun a w hr _ => by
  show Result.ok (Next.value (a.eval x)) w = _; rw [hr.ev hx]
theorem rr_assign {x : Operand} {v : Value} (hx : ev fr x = some v) : RR P n W ⟨dst, .assign x, ty, pos, after, guard⟩ fr L v := .mk fun a w hr _ => by
  show Result.ok (Next.value (a.eval x)) w = _; rw [hr.ev hx]
theorem rr_pickT {c x y : Operand} {v : Value} (hc : ev fr c = some (.bool true)) (hx : ev fr x = some v) : RR P n W ⟨dst, .pick c x y, ty, pos, after, guard⟩ fr L v := .mk fun a w hr _ => by
  simp [execOp, hr.ev hc, hr.ev hx, asBool]
theorem rr_pickF {c x y : Operand} {v : Value} (hc : ev fr c = some (.bool false)) (hy : ev fr y = some v) : RR P n W ⟨dst, .pick c x y, ty, pos, after, guard⟩ fr L v := .mk fun a w hr _ => by
  simp [execOp, hr.ev hc, hr.ev hy, asBool]
theorem rr_extract {t : Operand} {i : Nat} {vs : Array Value} {v : Value} (ht : ev fr t = some (.tuple vs)) (hv : vs[i]? = some v) : RR P n W ⟨dst, .extract t i, ty, pos, after, guard⟩ fr L v := .mk fun a w hr _ => by
  simp [execOp, hr.ev ht, Instr.extract, hv]

/-! numbers -/
section
variable {t u : TypeId} {x y : Operand} {k : IntKind} {m m' : Int}
theorem rr_int {op : BinOp} {v : Value} (hx : ev fr x = some (.int k m)) (hy : ev fr y = some (.int k m')) (h : ∀ w, (binOp op t (.int k m) (.int k m')).run P w = .ok v w) : RR P n W ⟨dst, .binOp op t x y u, ty, pos, after, guard⟩ fr L v := .mk fun a w hr _ => by
  have e : (eqGuard op t x y (.int k m) (.int k m')).run P w = .ok () w := by
    unfold eqGuard; cases op <;> rfl
  simp [execOp, hr.ev hx, hr.ev hy, e, h]
theorem rr_add (hx : ev fr x = some (.int k m)) (hy : ev fr y = some (.int k m')) : RR P n W ⟨dst, .binOp .add t x y u, ty, pos, after, guard⟩ fr L (.int k (k.wrap (m + m'))) := rr_int hx hy fun w => by simp [binOp, Op.intArith]
theorem rr_sub (hx : ev fr x = some (.int k m)) (hy : ev fr y = some (.int k m')) : RR P n W ⟨dst, .binOp .sub t x y u, ty, pos, after, guard⟩ fr L (.int k (k.wrap (m - m'))) := rr_int hx hy fun w => by simp [binOp, Op.intArith]
theorem rr_mul (hx : ev fr x = some (.int k m)) (hy : ev fr y = some (.int k m')) : RR P n W ⟨dst, .binOp .mul t x y u, ty, pos, after, guard⟩ fr L (.int k (k.wrap (m * m'))) := rr_int hx hy fun w => by simp [binOp, Op.intArith]
theorem rr_addw {r : Int} (hx : ev fr x = some (.int k m)) (hy : ev fr y = some (.int k m')) (h : k.wrap (m + m') = r) : RR P n W ⟨dst, .binOp .add t x y u, ty, pos, after, guard⟩ fr L (.int k r) := h ▸ rr_add hx hy
theorem wrap_in {r : Int} (h0 : -9223372036854775808 ≤ r) (h1 : r ≤ 9223372036854775807) : IntKind.i64.wrap r = r := IntWalk.i64_in _ (by omega)
theorem rr_add64 {r : Int} (hx : ev fr x = some (.int .i64 m)) (hy : ev fr y = some (.int .i64 m')) (h0 : -9223372036854775808 ≤ m + m') (h1 : m + m' ≤ 9223372036854775807) (hr : m + m' = r) : RR P n W ⟨dst, .binOp .add t x y u, ty, pos, after, guard⟩ fr L (.int .i64 r) := by
  have := rr_add (P := P) (n := n) (W := W) (L := L) (dst := dst) (ty := ty) (pos := pos) (after := after) (guard := guard) (t := t) (u := u) hx hy; rwa [wrap_in h0 h1, hr] at this
theorem rr_sub64 {r : Int} (hx : ev fr x = some (.int .i64 m)) (hy : ev fr y = some (.int .i64 m')) (h0 : -9223372036854775808 ≤ m - m') (h1 : m - m' ≤ 9223372036854775807) (hr : m - m' = r) : RR P n W ⟨dst, .binOp .sub t x y u, ty, pos, after, guard⟩ fr L (.int .i64 r) := by
  have := rr_sub (P := P) (n := n) (W := W) (L := L) (dst := dst) (ty := ty) (pos := pos) (after := after) (guard := guard) (t := t) (u := u) hx hy; rwa [wrap_in h0 h1, hr] at this
theorem rr_mul64 {r : Int} (hx : ev fr x = some (.int .i64 m)) (hy : ev fr y = some (.int .i64 m')) (h0 : -9223372036854775808 ≤ m * m') (h1 : m * m' ≤ 9223372036854775807) (hr : m * m' = r) : RR P n W ⟨dst, .binOp .mul t x y u, ty, pos, after, guard⟩ fr L (.int .i64 r) := by
  have := rr_mul (P := P) (n := n) (W := W) (L := L) (dst := dst) (ty := ty) (pos := pos) (after := after) (guard := guard) (t := t) (u := u) hx hy; rwa [wrap_in h0 h1, hr] at this
/-- comparisons: what they say, as a Bool -/
theorem rr_lss {b : Bool} (hx : ev fr x = some (.int k m)) (hy : ev fr y = some (.int k m')) (h : decide (m < m') = b) : RR P n W ⟨dst, .binOp .lss t x y u, ty, pos, after, guard⟩ fr L (.bool b) := rr_int hx hy fun w => by simp [binOp, Op.intCmp, ← h]
theorem rr_leq {b : Bool} (hx : ev fr x = some (.int k m)) (hy : ev fr y = some (.int k m')) (h : decide (m ≤ m') = b) : RR P n W ⟨dst, .binOp .leq t x y u, ty, pos, after, guard⟩ fr L (.bool b) := rr_int hx hy fun w => by simp [binOp, Op.intCmp, ← h]
theorem rr_gtr {b : Bool} (hx : ev fr x = some (.int k m)) (hy : ev fr y = some (.int k m')) (h : decide (m' < m) = b) : RR P n W ⟨dst, .binOp .gtr t x y u, ty, pos, after, guard⟩ fr L (.bool b) := rr_int hx hy fun w => by simp [binOp, Op.intCmp, ← h]
theorem rr_geq {b : Bool} (hx : ev fr x = some (.int k m)) (hy : ev fr y = some (.int k m')) (h : decide (m' ≤ m) = b) : RR P n W ⟨dst, .binOp .geq t x y u, ty, pos, after, guard⟩ fr L (.bool b) := rr_int hx hy fun w => by simp [binOp, Op.intCmp, ← h]
theorem rr_eql {b : Bool} (hx : ev fr x = some (.int k m)) (hy : ev fr y = some (.int k m')) (h : decide (m = m') = b) : RR P n W ⟨dst, .binOp .eql t x y u, ty, pos, after, guard⟩ fr L (.bool b) := rr_int hx hy fun w => by
  have : (m == m') = b := by rw [← h]; exact Bool.beq_eq_decide_eq m m'
  simp [binOp, Op.intCmp, this]
theorem rr_neq {b : Bool} (hx : ev fr x = some (.int k m)) (hy : ev fr y = some (.int k m')) (h : decide (m ≠ m') = b) : RR P n W ⟨dst, .binOp .neq t x y u, ty, pos, after, guard⟩ fr L (.bool b) := rr_int hx hy fun w => by
  have : (m != m') = b := by rw [← h, bne, Bool.beq_eq_decide_eq]; simp
  simp [binOp, Op.intCmp, this]
theorem rr_bits {op : BinOp} {r : Int} (hop : op = .and ∨ op = .or ∨ op = .xor ∨ op = .andNot) (hx : ev fr x = some (.int k m)) (hy : ev fr y = some (.int k m')) (h : bits op k m m' = r) : RR P n W ⟨dst, .binOp op t x y u, ty, pos, after, guard⟩ fr L (.int k r) := rr_int hx hy fun w => by
  subst h; rcases hop with rfl | rfl | rfl | rfl <;> simp [binOp, Op.intBits, bits]
theorem rr_shift {op : BinOp} {k' : IntKind} {v : Value} (hop : op = .shl ∨ op = .shr) (hx : ev fr x = some (.int k m)) (hy : ev fr y = some (.int k' m')) (h : ∀ w, (Op.shift op k m k' m').run P w = .ok v w) : RR P n W ⟨dst, .binOp op t x y u, ty, pos, after, guard⟩ fr L v := .mk fun a w hr _ => by
  have e : (eqGuard op t x y (.int k m) (.int k' m')).run P w = .ok () w := by unfold eqGuard; rcases hop with rfl | rfl <;> rfl
  rcases hop with rfl | rfl <;> simp [execOp, hr.ev hx, hr.ev hy, e, binOp, h]
theorem rr_and {r : Int} (hx : ev fr x = some (.int k m)) (hy : ev fr y = some (.int k m')) (h : bits .and k m m' = r) : RR P n W ⟨dst, .binOp .and t x y u, ty, pos, after, guard⟩ fr L (.int k r) := rr_bits (.inl rfl) hx hy h
theorem rr_or {r : Int} (hx : ev fr x = some (.int k m)) (hy : ev fr y = some (.int k m')) (h : bits .or k m m' = r) : RR P n W ⟨dst, .binOp .or t x y u, ty, pos, after, guard⟩ fr L (.int k r) := rr_bits (.inr (.inl rfl)) hx hy h
theorem rr_xor {r : Int} (hx : ev fr x = some (.int k m)) (hy : ev fr y = some (.int k m')) (h : bits .xor k m m' = r) : RR P n W ⟨dst, .binOp .xor t x y u, ty, pos, after, guard⟩ fr L (.int k r) := rr_bits (.inr (.inr (.inl rfl))) hx hy h
theorem rr_shl {k' : IntKind} {v : Value} (hx : ev fr x = some (.int k m)) (hy : ev fr y = some (.int k' m')) (h : ∀ w, (Op.shift .shl k m k' m').run P w = .ok v w) : RR P n W ⟨dst, .binOp .shl t x y u, ty, pos, after, guard⟩ fr L v := rr_shift (.inl rfl) hx hy h
theorem rr_shr {k' : IntKind} {v : Value} (hx : ev fr x = some (.int k m)) (hy : ev fr y = some (.int k' m')) (h : ∀ w, (Op.shift .shr k m k' m').run P w = .ok v w) : RR P n W ⟨dst, .binOp .shr t x y u, ty, pos, after, guard⟩ fr L v := rr_shift (.inr rfl) hx hy h
theorem rr_conv {k' : IntKind} {r : Int} (hs : P.underlying t = some (.int k')) (hd : P.underlying u = some (.int k)) (hx : ev fr x = some (.int k' m)) (h : k.wrap m = r) : RR P n W ⟨dst, .convert t u x, ty, pos, after, guard⟩ fr L (.int k r) := .mk fun a w hr _ => by
  simp [execOp, hr.ev hx, convert, run_underlying hs, run_underlying hd, Conv.intToInt, h]
end
theorem rr_not {t : TypeId} {x : Operand} {b c : Bool} (hx : ev fr x = some (.bool b)) (h : (!b) = c) : RR P n W ⟨dst, .unOp .not t x, ty, pos, after, guard⟩ fr L (.bool c) := .mk fun a w hr _ => by
  subst h; simp [execOp, hr.ev hx, Op.unary]
theorem rr_min {t u : TypeId} {x y : Operand} {m m' r : Int} (hx : ev fr x = some (.int .i64 m)) (hy : ev fr y = some (.int .i64 m')) (h : min m m' = r) : RR P n W ⟨dst, .call { callee := .builtin .min, args := #[x, y], argTypes := #[t, u] }, ty, pos, after, guard⟩ fr L (.int .i64 r) := .mk fun a w hr _ => by
  subst h
  have h1 := hr.ev hx
  have h2 := hr.ev hy
  have e : (if m' < m then m' else m) = min m m' := by split <;> omega
  simp [BigFrame.execOp_builtin, BigFrame.builtin_min, h1, h2, Builtin.min_, Builtin.min2, e]
theorem rr_max {t u : TypeId} {x y : Operand} {m m' r : Int} (hx : ev fr x = some (.int .i64 m)) (hy : ev fr y = some (.int .i64 m')) (h : max m m' = r) : RR P n W ⟨dst, .call { callee := .builtin .max, args := #[x, y], argTypes := #[t, u] }, ty, pos, after, guard⟩ fr L (.int .i64 r) := .mk fun a w hr _ => by
  subst h
  have h1 := hr.ev hx
  have h2 := hr.ev hy
  have e : (if m' > m then m' else m) = max m m' := by split <;> omega
  have e2 : (if m < m' then m' else m) = max m m' := e
  simp [BigFrame.execOp_builtin, BigFrame.builtin_max, h1, h2, Builtin.max_, Builtin.max2, e2]
/-! truth values -/
theorem run_eqBool {t : TypeId} {a b : Bool} (ht : P.underlying t = some .bool) (d : Nat) (w : World) : (Op.equalIn (d + 1) t (.bool a) (.bool b)).run P w = .ok (a == b) w := by simp [Op.equalIn, run_underlying ht]
theorem rr_booleq {t u : TypeId} {x y : Operand} {a b c : Bool} (ht : P.underlying t = some .bool) (hx : ev fr x = some (.bool a)) (hy : ev fr y = some (.bool b)) (h : (a == b) = c) : RR P n W ⟨dst, .binOp .eql t x y u, ty, pos, after, guard⟩ fr L (.bool c) := .mk fun ac w hr _ => by
  have e : (eqGuard .eql t x y (.bool a) (.bool b)).run P w = .ok () w := rfl
  have e2 : (binOp .eql t (.bool a) (.bool b)).run P w = .ok (.bool c) w := by
    show ((Op.equal t (.bool a) (.bool b)) >>= fun r => pure (Value.bool r)).run P w = _
    have : (Op.equal t (.bool a) (.bool b)).run P w = .ok (a == b) w := run_eqBool ht 9999 w
    rw [Sem.run_bind, this, h]; rfl
  simp [execOp, hr.ev hx, hr.ev hy, e, e2]
theorem rr_boolne {t u : TypeId} {x y : Operand} {a b c : Bool} (ht : P.underlying t = some .bool) (hx : ev fr x = some (.bool a)) (hy : ev fr y = some (.bool b)) (h : (!(a == b)) = c) : RR P n W ⟨dst, .binOp .neq t x y u, ty, pos, after, guard⟩ fr L (.bool c) := .mk fun ac w hr _ => by
  have e : (eqGuard .neq t x y (.bool a) (.bool b)).run P w = .ok () w := rfl
  have e2 : (binOp .neq t (.bool a) (.bool b)).run P w = .ok (.bool c) w := by
    show ((Op.equal t (.bool a) (.bool b)) >>= fun r => pure (Value.bool (!r))).run P w = _
    have : (Op.equal t (.bool a) (.bool b)).run P w = .ok (a == b) w := run_eqBool ht 9999 w
    rw [Sem.run_bind, this]
    show Result.ok (Value.bool (!(a == b))) w = _
    rw [h]
  simp [execOp, hr.ev hx, hr.ev hy, e, e2]
/-! texts -/
section
variable {t u : TypeId} {x y : Operand} {l l' : List UInt8}
theorem rr_strlen (ht : P.underlying t = some .string) (hx : ev fr x = some (str l)) : RR P n W ⟨dst, .call { callee := .builtin .len, args := #[x], argTypes := #[t] }, ty, pos, after, guard⟩ fr L (.int .i64 l.length) := .mk fun a w hr _ => by
  have hx' := hr.ev hx
  unfold str at hx'
  have hsz : (ByteArray.mk l.toArray).size = l.length := List.size_toArray
  simp [BigFrame.execOp_builtin, BigFrame.builtin_len, Builtin.len_, hx', run_underlying ht, goInt, hsz]
theorem str_toList (l : List UInt8) : (ByteArray.mk l.toArray).toList = l := by
  have h : ∀ (m : List UInt8) (i : Nat) (r : List UInt8), i + m.length = l.length → l.drop i = m → ByteArray.toList.loop ⟨l.toArray⟩ i r = r.reverse ++ m := by
    intro m
    induction m with
    | nil =>
      intro i r hi _
      unfold ByteArray.toList.loop
      rw [if_neg (by simp [ByteArray.size] at *; omega)]; simp
    | cons b m ih =>
      intro i r hi hd
      unfold ByteArray.toList.loop
      have hlt : i < l.length := by simp at hi; omega
      rw [if_pos (by simpa [ByteArray.size] using hlt)]
      rw [List.drop_eq_getElem_cons hlt] at hd
      injection hd with h1 h2
      rw [ih (i + 1) _ (by simp at hi; omega) h2]
      have : (ByteArray.mk l.toArray).get! i = b := by simp [ByteArray.get!, hlt, h1]
      rw [this]; simp
  unfold ByteArray.toList
  rw [h l 0 [] (by simp) rfl]; simp
theorem rr_streq {b : Bool} (hx : ev fr x = some (str l)) (hy : ev fr y = some (str l')) (h : decide (l = l') = b) : RR P n W ⟨dst, .binOp .eql t x y u, ty, pos, after, guard⟩ fr L (.bool b) := .mk fun a w hr _ => by
  have e : (eqGuard .eql t x y (str l) (str l')).run P w = .ok () w := rfl
  have e2 : (l == l') = b := by rw [← h]; exact Bool.beq_eq_decide_eq l l'
  unfold str at *
  simp [execOp, hr.ev hx, hr.ev hy, e, binOp, Op.stringOp, e2]
theorem rr_strne {b : Bool} (hx : ev fr x = some (str l)) (hy : ev fr y = some (str l')) (h : decide (l ≠ l') = b) : RR P n W ⟨dst, .binOp .neq t x y u, ty, pos, after, guard⟩ fr L (.bool b) := .mk fun a w hr _ => by
  have e : (eqGuard .neq t x y (str l) (str l')).run P w = .ok () w := rfl
  have e2 : (!(l == l')) = b := by rw [← h, Bool.beq_eq_decide_eq]; simp
  unfold str at *
  simp [execOp, hr.ev hx, hr.ev hy, e, binOp, Op.stringOp, e2]
theorem rr_stradd (hx : ev fr x = some (str l)) (hy : ev fr y = some (str l')) (h : l.length + l'.length ≤ 9223372036854775807) : RR P n W ⟨dst, .binOp .add t x y u, ty, pos, after, guard⟩ fr L (str (l ++ l')) := .mk fun a w hr _ => by
  have e : (eqGuard .add t x y (str l) (str l')).run P w = .ok () w := rfl
  have e2 := run_string_add_sum (P := P) w ⟨l.toArray⟩ ⟨l'.toArray⟩ (by simpa [ByteArray.size] using h)
  rw [ByteArray.mk_append_mk] at e2
  unfold str at *
  simp [execOp, hr.ev hx, hr.ev hy, e, binOp, e2]
theorem rr_stridx {i : Int} {b : UInt8} {k : IntKind} (ht : P.underlying t = some .string) (hx : ev fr x = some (str l)) (hy : ev fr y = some (.int k i)) (h0 : 0 ≤ i) (h : l[i.toNat]? = some b) : RR P n W ⟨dst, .index t x y, ty, pos, after, guard⟩ fr L (.int .u8 b.toNat) := .mk fun a w hr _ => by
  have hlt := (List.getElem?_eq_some_iff.1 h).1
  have e : (if 0 ≤ i then (ByteArray.mk l.toArray)[i.toNat]? else none) = some b := by
    rw [if_pos h0]
    have hs : i.toNat < (ByteArray.mk l.toArray).size := by simpa [ByteArray.size] using hlt
    rw [getElem?_pos (ByteArray.mk l.toArray) i.toNat hs]
    have := (List.getElem?_eq_some_iff.1 h).2
    exact congrArg some (by rw [← this]; rfl)
  unfold str at *
  simp only [execOp, hr.ev hx, hr.ev hy, Instr.index, asIntOf, Sem.run_bind, Sem.run_pure, Result.andThen_ok, run_underlying ht, e]
/-- 's[lo:hi]', either bound left out or not -/
theorem rr_strslice {lo hi : Option Operand} {i j : Int} (ht : P.underlying t = some .string) (hx : ev fr x = some (str l)) (hlo : match lo with | none => i = 0 | some z => ∃ k, ev fr z = some (.int k i)) (hhi : match hi with | none => j = l.length | some z => ∃ k, ev fr z = some (.int k j))
    (h0 : 0 ≤ i) (h1 : i ≤ j) (h2 : j ≤ l.length) : RR P n W ⟨dst, .slice t x lo hi none, ty, pos, after, guard⟩ fr L (str ((l.take j.toNat).drop i.toNat)) := .mk fun a w hr _ => by
  have hsz : (ByteArray.mk l.toArray).size = l.length := by simp [ByteArray.size]
  have ex : ∀ p q, (ByteArray.mk l.toArray).extract p q = ⟨((l.take q).drop p).toArray⟩ := fun p q => by
    apply ByteArray.ext; simp [ByteArray.data_extract, List.extract_eq_take_drop, List.drop_take]
  have h2' : j ≤ ((ByteArray.mk l.toArray).size : Int) := by rw [hsz]; exact h2
  have h0j : 0 ≤ j := by omega
  have ej : (j.toNat : Int) = j := Int.toNat_of_nonneg h0j
  unfold str at *
  cases lo <;> cases hi
  · simp only at hlo hhi
    subst hlo hhi
    simp [execOp, hr.ev hx, Instr.sliceAt, Instr.slice, run_underlying ht, Instr.sliceBounds]
  · obtain ⟨k, hk⟩ := hhi
    simp only at hlo
    subst hlo
    simp [execOp, hr.ev hx, hr.ev hk, Instr.sliceAt, Instr.slice, run_underlying ht, Instr.sliceBounds, run_sliceBound, ex, hsz, h0j, h2]
  · obtain ⟨k, hk⟩ := hlo
    simp only at hhi
    subst hhi
    simp [execOp, hr.ev hx, hr.ev hk, Instr.sliceAt, Instr.slice, run_underlying ht, Instr.sliceBounds, run_sliceBound, ex, hsz, h0, h1]
  · obtain ⟨k, hk⟩ := hlo
    obtain ⟨k', hk'⟩ := hhi
    have h1' : i ≤ (j.toNat : Int) := by omega
    have hb := fun c => run_sliceBound (P := P) w k i j.toNat c h0 h1'
    simp [execOp, hr.ev hx, hr.ev hk, hr.ev hk', Instr.sliceAt, Instr.slice, run_underlying ht, Instr.sliceBounds, run_sliceBound w k' j, hb, ex, hsz, h0j, h2]
/-- 's[i:]', 's[:j]', 's[i:j]' -/
theorem rr_strfrom {z : Operand} {k : IntKind} {i : Nat} (ht : P.underlying t = some .string) (hx : ev fr x = some (str l)) (hz : ev fr z = some (.int k (i : Int))) (h : i ≤ l.length) : RR P n W ⟨dst, .slice t x (some z) none none, ty, pos, after, guard⟩ fr L (str (l.drop i)) := by
  have := rr_strslice (P := P) (n := n) (W := W) (fr := fr) (L := L) (dst := dst) (ty := ty) (pos := pos) (after := after) (guard := guard) (lo := some z) (hi := none) (i := (i : Int)) (j := (l.length : Int)) ht hx ⟨k, hz⟩ rfl (by omega) (by omega) (by omega)
  rwa [Int.toNat_natCast, Int.toNat_natCast, List.take_of_length_le (Nat.le_refl _)] at this
theorem rr_strupto {z : Operand} {k : IntKind} {j : Nat} (ht : P.underlying t = some .string) (hx : ev fr x = some (str l)) (hz : ev fr z = some (.int k (j : Int))) (h : j ≤ l.length) : RR P n W ⟨dst, .slice t x none (some z) none, ty, pos, after, guard⟩ fr L (str (l.take j)) := by
  have := rr_strslice (P := P) (n := n) (W := W) (fr := fr) (L := L) (dst := dst) (ty := ty) (pos := pos) (after := after) (guard := guard) (lo := none) (hi := some z) (i := 0) (j := (j : Int)) ht hx rfl ⟨k, hz⟩ (by omega) (by omega) (by omega)
  rwa [Int.toNat_natCast, Int.toNat_zero, List.drop_zero] at this
theorem rr_strsub {z z' : Operand} {k k' : IntKind} {i j : Nat} (ht : P.underlying t = some .string) (hx : ev fr x = some (str l)) (hz : ev fr z = some (.int k (i : Int))) (hz' : ev fr z' = some (.int k' (j : Int))) (h0 : i ≤ j) (h : j ≤ l.length) : RR P n W ⟨dst, .slice t x (some z) (some z') none, ty, pos, after, guard⟩ fr L (str ((l.drop i).take (j - i))) := by
  have := rr_strslice (P := P) (n := n) (W := W) (fr := fr) (L := L) (dst := dst) (ty := ty) (pos := pos) (after := after) (guard := guard) (lo := some z) (hi := some z') (i := (i : Int)) (j := (j : Int)) ht hx ⟨k, hz⟩ ⟨k', hz'⟩ (by omega) (by omega) (by omega)
  rwa [Int.toNat_natCast, Int.toNat_natCast, List.drop_take] at this
end
end
end Go.Proofs.Ytlojfbnimmdehaa.eng

/- Opm -/
namespace Go.Proofs.Ytlojfbnimmdehaa.eng
open Go.RowKit kit mix

section
variable {P : Program} {n : Nat} {W : Base} {fr : Fr} {L : List Own} {dst : Option Tmp} {ty : TypeId} {pos : String} {after : Array Edge} {guard : Option (Nat × Bool)}
/-! ### reading -/
/-- a cell that holds v whenever L is known -/
def At (W : Base) (L : List Own) (p : Addr) (v : Value) : Prop := ∀ w, Mem W L w → w.cell? p = some v
theorem at_old {W : World} {p : Addr} {v : Value} (h : W.cell? p = some v) : At W L p v := fun _ hm => hm.cell h
theorem at_old0 {W0 : World} {p : Addr} {v : Value} (ho : Old W0 W) (h : W0.cell? p = some v) : At W L p v := fun _ hm => ho.cell hm h
theorem at_blk {i g off : Nat} {cs : Array Value} {T : TypeId} {v : Value} (hi : L[i]? = some (blkO g cs T)) (hv : cs[off]? = some v) : At W L ⟨g, off, none⟩ v := fun w hm => by
  rw [cell_of_row w g off cs T (0, 0) (hm.get hi)]; exact hv
theorem at_row {i g off size cap m k : Nat} {e : TypeId} {xs : List Value} {v : Value} (hi : L[i]? = some (rowO e size (.slice (some ⟨g, 0, none⟩) m cap) k xs)) (hv : xs[off]? = some v) : At W L ⟨g, off, none⟩ v := fun w hm => by
  have h : w.ownsRow 0 e size (.slice (some ⟨g, 0, none⟩) m cap) k xs := hm.get hi
  have := h.cells (g := g) rfl off v hv
  rwa [addr_add, Nat.zero_add] at this
theorem at_wr {i g off : Nat} {xs : List Value} {v : Value} (hi : L[i]? = some (wrO g xs)) (hv : xs[off]? = some v) : At W L ⟨g, off, none⟩ v := fun w hm => by
  have h : g < w.heap.size ∧ Wr w g 0 xs := hm.get hi
  have := (h.2 off v hv).1
  rwa [Nat.zero_add] at this
/-- reading cells of a slice that came in -/
theorem at_rd {W : World} {b off j : Nat} {xs : List Value} {v : Value} (h : Rd W b off xs) (hv : xs[j]? = some v) : At W L ⟨b, off + j, none⟩ v := at_old (h j v hv)
theorem rr_load1 {t : TypeId} {x : Operand} {p : Addr} {c : Nat} {v : Value} (hT : Ty P t false c) (hx : ev fr x = some (.pointer (some p))) (h : At W L p v) : RR P n W ⟨dst, .load t x, ty, pos, after, guard⟩ fr L v := .mk fun a w hr hm => by
  simp [execOp, hr.ev hx, Instr.loadAt, Instr.sureAddr, loadVar, hT.agg, h w hm]
theorem rr_loadN {t : TypeId} {x : Operand} {b off c : Nat} {cs : List Value} (hT : Ty P t true c) (hx : ev fr x = some (.pointer (some ⟨b, off, none⟩))) (hl : cs.length = c) (h : ∀ j v, cs[j]? = some v → At W L ⟨b, off + j, none⟩ v) : RR P n W ⟨dst, .load t x, ty, pos, after, guard⟩ fr L (.agg cs.toArray) := .mk fun a w hr hm => by
  subst hl
  have := run_loadCells_list (P := P) w ⟨b, off, none⟩ cs fun j v hj => by rw [addr_add]; exact h j v hj w hm
  simp [execOp, hr.ev hx, Instr.loadAt, Instr.sureAddr, loadVar, hT.agg, hT.size, this]
/-- a block that is known whole, read whole -/
theorem rr_loadB {t : TypeId} {x : Operand} {i g c : Nat} {cs : Array Value} {T : TypeId} (hT : Ty P t true c) (hx : ev fr x = some (.pointer (some ⟨g, 0, none⟩))) (hi : L[i]? = some (blkO g cs T)) (hl : cs.size = c) : RR P n W ⟨dst, .load t x, ty, pos, after, guard⟩ fr L (.agg cs) := by
  have := rr_loadN (P := P) (n := n) (W := W) (L := L) (dst := dst) (ty := ty) (pos := pos) (after := after) (guard := guard) (cs := cs.toList) hT hx (by simpa using hl) fun j v hj => by rw [Nat.zero_add]; exact at_blk hi (by simpa using hj)
  simpa using this
theorem at_rdm {W : World} {α : Type} {f : α → Value} {b off j : Nat} {l : List α} (h : Rd W b off (l.map f)) (hj : j < l.length) : At W L ⟨b, off + j, none⟩ (f l[j]) := at_rd h (by simp [hj])
/-! ### addresses -/
structure Fld (P : Program) (s : TypeId) (f o : Nat) : Prop where
  run : ∀ (a : Addr) w, (Instr.fieldAt s (.pointer (some a)) f).run P w = .ok (.pointer (some (a.add o))) w
def fldB (P : Program) (s : TypeId) (f o : Nat) : Bool :=
  match P.underlying s with
  | some (.struct fs) => (match fs[f]? with | some d => Nat.beq d.offset o && (match P.info? d.type with | some i => !(Nat.beq i.size 0) | none => false) | none => false)
  | _ => false
theorem Fld.of {P : Program} {s : TypeId} {f o : Nat} (h : fldB P s f o = true) : Fld P s f o := by
  unfold fldB at h
  cases e : P.underlying s with
  | none => rw [e] at h; cases h
  | some d =>
    rw [e] at h
    cases d <;> try (cases h; done)
    rename_i fs
    simp only at h
    cases e2 : fs[f]? with
    | none => rw [e2] at h; cases h
    | some d =>
      rw [e2] at h
      simp only [Bool.and_eq_true] at h
      obtain ⟨h1, h2⟩ := h
      obtain rfl := Nat.eq_of_beq_eq_true h1
      cases e3 : P.info? d.type with
      | none => rw [e3] at h2; cases h2
      | some i =>
        rw [e3] at h2
        simp only [Bool.not_eq_true'] at h2
        have := Nat.ne_of_beq_eq_false h2
        exact ⟨fun a w => by simp [Instr.fieldAt, run_underlying e, e2, Instr.sureAddr, fieldPlace, sizeOf, typeInfo, e3, this]⟩
theorem rr_field {s : TypeId} {x : Operand} {f o b off r : Nat} (hf : Fld P s f o) (hx : ev fr x = some (.pointer (some ⟨b, off, none⟩))) (hr : off + o = r) : RR P n W ⟨dst, .fieldAddr s x f, ty, pos, after, guard⟩ fr L (.pointer (some ⟨b, r, none⟩)) := .mk fun a w h _ => by
  subst hr
  simp [execOp, h.ev hx, hf.run, addr_add]
theorem rr_idx {t e : TypeId} {x y : Operand} {agg : Bool} {c b off len cap r : Nat} {k : IntKind} {i : Int} (ht : P.underlying t = some (.slice e)) (he : Ty P e agg c) (hx : ev fr x = some (.slice (some ⟨b, off, none⟩) len cap)) (hy : ev fr y = some (.int k i)) (h0 : 0 ≤ i) (h1 : i < len) (hr : off + i.toNat * c = r) :
    RR P n W ⟨dst, .indexAddr t x y, ty, pos, after, guard⟩ fr L (.pointer (some ⟨b, r, none⟩)) := .mk fun a w h _ => by
  subst hr
  simp [execOp, h.ev hx, h.ev hy, Instr.indexAt, asIntOf, run_underlying ht, he.size, h0, h1, addr_add]
/-- an index that is a number of Nat's -/
theorem rr_idx1 {t e : TypeId} {x y : Operand} {agg : Bool} {b off len cap j : Nat} {k : IntKind} (ht : P.underlying t = some (.slice e)) (he : Ty P e agg 1) (hx : ev fr x = some (.slice (some ⟨b, off, none⟩) len cap)) (hy : ev fr y = some (.int k (j : Int))) (h1 : j < len) :
    RR P n W ⟨dst, .indexAddr t x y, ty, pos, after, guard⟩ fr L (.pointer (some ⟨b, off + j, none⟩)) := rr_idx ht he hx hy (by omega) (by omega) (by simp)
theorem rr_idxc {t e : TypeId} {x y : Operand} {agg : Bool} {c b off len cap j : Nat} {k : IntKind} (ht : P.underlying t = some (.slice e)) (he : Ty P e agg c) (hx : ev fr x = some (.slice (some ⟨b, off, none⟩) len cap)) (hy : ev fr y = some (.int k (j : Int))) (h1 : j < len) :
    RR P n W ⟨dst, .indexAddr t x y, ty, pos, after, guard⟩ fr L (.pointer (some ⟨b, off + j * c, none⟩)) := rr_idx ht he hx hy (by omega) (by omega) (by simp)
theorem rr_aidx {t e : TypeId} {x y : Operand} {agg : Bool} {c b off len r : Nat} {k : IntKind} {i : Int} (ht : P.underlying t = some (.array len e)) (he : Ty P e agg c) (hx : ev fr x = some (.pointer (some ⟨b, off, none⟩))) (hy : ev fr y = some (.int k i)) (h0 : 0 ≤ i) (h1 : i < len) (hr : off + i.toNat * c = r) :
    RR P n W ⟨dst, .indexAddr t x y, ty, pos, after, guard⟩ fr L (.pointer (some ⟨b, r, none⟩)) := .mk fun a w h _ => by
  subst hr
  simp [execOp, h.ev hx, h.ev hy, Instr.indexAt, asIntOf, run_underlying ht, he.size, h0, h1, addr_add, Instr.sureAddr]
theorem rr_aidxc {t e : TypeId} {x y : Operand} {agg : Bool} {c b off len j : Nat} {k : IntKind} (ht : P.underlying t = some (.array len e)) (he : Ty P e agg c) (hx : ev fr x = some (.pointer (some ⟨b, off, none⟩))) (hy : ev fr y = some (.int k (j : Int))) (h1 : j < len) :
    RR P n W ⟨dst, .indexAddr t x y, ty, pos, after, guard⟩ fr L (.pointer (some ⟨b, off + j * c, none⟩)) := rr_aidx ht he hx hy (by omega) (by omega) (by simp)
theorem rr_aidx1 {t e : TypeId} {x y : Operand} {agg : Bool} {b off len j : Nat} {k : IntKind} (ht : P.underlying t = some (.array len e)) (he : Ty P e agg 1) (hx : ev fr x = some (.pointer (some ⟨b, off, none⟩))) (hy : ev fr y = some (.int k (j : Int))) (h1 : j < len) :
    RR P n W ⟨dst, .indexAddr t x y, ty, pos, after, guard⟩ fr L (.pointer (some ⟨b, off + j, none⟩)) := rr_aidx ht he hx hy (by omega) (by omega) (by simp)
/-- an array's element, the array being a value -/
theorem rr_arridx {t e : TypeId} {x y : Operand} {len j : Nat} {k : IntKind} {cs : Array Value} {v : Value} (ht : P.underlying t = some (.array len e)) (he : Ty P e false 1) (hx : ev fr x = some (.agg cs)) (hy : ev fr y = some (.int k (j : Int))) (h1 : j < len) (hv : cs[j]? = some v) :
    RR P n W ⟨dst, .index t x y, ty, pos, after, guard⟩ fr L v := .mk fun a w h _ => by
  have h0 : (0 : Int) ≤ (j : Int) ∧ (j : Int) < (len : Int) := by omega
  simp [execOp, h.ev hx, h.ev hy, Instr.index, asIntOf, run_underlying ht, he.size, h1, part, he.agg, hv]
theorem rr_len {t e : TypeId} {x : Operand} {p : Option Addr} {m cap : Nat} (ht : P.underlying t = some (.slice e)) (hx : ev fr x = some (.slice p m cap)) : RR P n W ⟨dst, .call { callee := .builtin .len, args := #[x], argTypes := #[t] }, ty, pos, after, guard⟩ fr L (.int .i64 m) := .mk fun a w hr _ => by
  have hx' := hr.ev hx
  simp [BigFrame.execOp_builtin, BigFrame.builtin_len, Builtin.len_, hx', run_underlying ht, goInt]
theorem rr_rowlen {t e e' : TypeId} {x : Operand} {i size m : Nat} {v : Value} {xs : List Value} (ht : P.underlying t = some (.slice e)) (hi : L[i]? = some (rowO e' size v m xs)) (hx : ev fr x = some v) : RR P n W ⟨dst, .call { callee := .builtin .len, args := #[x], argTypes := #[t] }, ty, pos, after, guard⟩ fr L (.int .i64 m) := .mk fun a w hr hm => by
  have h : w.ownsRow 0 e' size v m xs := hm.get hi
  rcases h.2 with ⟨rfl, rfl⟩ | ⟨g, cap, cur, rfl, _⟩
  · exact (rr_len (P := P) (W := W) (L := L) ht hx).go a w hr hm
  · exact (rr_len (P := P) (W := W) (L := L) ht hx).go a w hr hm
/-- the array behind an own slice that isn't empty -/
theorem T_row {c : Code} {Q : Exit → Act → World → Prop} {i size m : Nat} {e : TypeId} {v : Value} {xs : List Value} (hi : L[i]? = some (rowO e size v m xs)) (h0 : 0 < m) (h : ∀ g cap, v = .slice (some ⟨g, 0, none⟩) m cap → T P n W c Q fr L) : T P n W c Q fr L := .mk fun a w hr hm => by
  have h1 : w.ownsRow 0 e size v m xs := hm.get hi
  rcases h1.2 with ⟨_, rfl⟩ | ⟨g, cap, cur, hv, _⟩
  · omega
  · exact (h g cap hv).go a w hr hm
/-- what an own slice is: nothing, or an array's beginning -/
theorem T_rowc {c : Code} {Q : Exit → Act → World → Prop} {i size m : Nat} {e : TypeId} {v : Value} {xs : List Value} (hi : L[i]? = some (rowO e size v m xs)) (h0 : v = .slice none 0 0 → m = 0 → T P n W c Q fr L) (h : ∀ g cap, v = .slice (some ⟨g, 0, none⟩) m cap → T P n W c Q fr L) : T P n W c Q fr L := .mk fun a w hr hm => by
  have h1 : w.ownsRow 0 e size v m xs := hm.get hi
  rcases h1.2 with ⟨hv, rfl⟩ | ⟨g, cap, cur, hv, _⟩
  · exact (h0 hv rfl).go a w hr hm
  · exact (h g cap hv).go a w hr hm
theorem T_len {c : Code} {Q : Exit → Act → World → Prop} {i size m : Nat} {e : TypeId} {v : Value} {xs : List Value} (hi : L[i]? = some (rowO e size v m xs)) (h : xs.length = m * size → T P n W c Q fr L) : T P n W c Q fr L := .mk fun a w hr hm => by
  have h1 : w.ownsRow 0 e size v m xs := hm.get hi
  exact (h h1.1).go a w hr hm
/-- a slice as a whole: cells that can be read as long as L is known -/
def SlL (W : Base) (L : List Own) (v : Value) (m : Nat) (xs : List Value) : Prop := ∀ w, Mem W L w → Sl w v m xs
theorem sl_old {W : World} {v : Value} {m : Nat} {xs : List Value} (h : Sl W v m xs) : SlL W L v m xs := fun w hm => by
  obtain ⟨base, cap, h1, h2, h3, h4⟩ := h
  exact ⟨base, cap, h1, h2, h3, fun hn => let ⟨b, off, h5, h6⟩ := h4 hn; ⟨b, off, h5, fun j u hj => hm.cell (h6 j u hj)⟩⟩
theorem sl_row {i size m : Nat} {e : TypeId} {v : Value} {xs : List Value} (hi : L[i]? = some (rowO e size v m xs)) : SlL W L v m xs := fun _ hm => Sl.of_own (hm.get hi)

/-! ### writing and making -/
section
variable {Q : Exit → Act → World → Prop} {ops : Array Oper} {rest : List Oper} {d : Nat}
/-- a new block with these cells -/
theorem TL_box {t : TypeId} {x : Operand} {v : Value} {cs : Array Value} (hx : ev fr x = some v) (hv : v.cells = cs) (hn : Nat.blt d n = true) (h : ∀ g, TL P n W ops Q rest ((d, .pointer (some ⟨g, 0, none⟩)) :: fr) (L ++ [blkO g cs t])) :
    TL P n W ops Q (⟨some d, .box t x, ty, pos, after, none⟩ :: rest) fr L := TL_any rfl fun a w hr hm K hK => by
  subst hv
  have e : (execOp a.eval ⟨some d, .box t x, ty, pos, after, none⟩).run P w = .ok (.value (.pointer (some ⟨w.heap.size, 0, none⟩))) (w.alloc (.cells v.cells t)) := by
    simp [execOp, hr.ev hx, Instr.box, newVar, newRow]
  unfold Oper.wp; rw [e]
  exact hK _ _ ((h w.heap.size).go _ _ (hr.put hn _) (hm.append (gr_alloc' w _) (Owns.one (heap_alloc_new w _) fun k hk => by simp only [blkO, Option.some.injEq] at hk; omega)))
where
  gr_alloc' (w : World) (o : Obj) : Gr w (w.alloc o) := (Below.refl _ _).alloc (Nat.le_refl _) _
theorem gr_alloc (w : World) (o : Obj) : Gr w (w.alloc o) := (Below.refl _ _).alloc (Nat.le_refl _) _
theorem TL_alloc {t : TypeId} {i : TypeInfo} {z : Value} {cs : Array Value} (hi : P.info? t = some i) (hz : i.zero = some z) (hv : z.cells = cs) (hn : Nat.blt d n = true) (h : ∀ g, TL P n W ops Q rest ((d, .pointer (some ⟨g, 0, none⟩)) :: fr) (L ++ [blkO g cs t])) :
    TL P n W ops Q (⟨some d, .alloc t, ty, pos, after, none⟩ :: rest) fr L := TL_any rfl fun a w hr hm K hK => by
  subst hv
  have e : (execOp a.eval ⟨some d, .alloc t, ty, pos, after, none⟩).run P w = .ok (.value (.pointer (some ⟨w.heap.size, 0, none⟩))) (w.alloc (.cells z.cells t)) := by
    simp [execOp, Instr.alloc, zeroValue, typeInfo, hi, hz, newVar, newRow]
  unfold Oper.wp; rw [e]
  exact hK _ _ ((h w.heap.size).go _ _ (hr.put hn _) (hm.append (gr_alloc w _) (Owns.one (heap_alloc_new w _) fun k hk => by simp only [blkO, Option.some.injEq] at hk; omega)))
/-- a slice literal: its run is given -/
theorem TL_lit {t e : TypeId} {m : Nat} {parts : Array (Nat × Operand)} {cs : Array Value} (hrun : ∀ a w, Rep n a fr → (Instr.buildSlice t m (parts.map fun (i, x) => (i, a.eval x))).run P w = .ok (.slice (some ⟨w.heap.size, 0, none⟩) m m) (w.alloc (.cells cs e))) (hn : Nat.blt d n = true)
    (h : ∀ g, TL P n W ops Q rest ((d, .slice (some ⟨g, 0, none⟩) m m) :: fr) (L ++ [blkO g cs e])) :
    TL P n W ops Q (⟨some d, .buildSlice t m parts, ty, pos, after, none⟩ :: rest) fr L := TL_any rfl fun a w hr hm K hK => by
  have e' : (execOp a.eval ⟨some d, .buildSlice t m parts, ty, pos, after, none⟩).run P w = .ok (.value (.slice (some ⟨w.heap.size, 0, none⟩) m m)) (w.alloc (.cells cs e)) := by
    simp only [execOp, Sem.run_bind, hrun a w hr, Result.andThen_ok, Sem.run_pure]
  unfold Oper.wp; rw [e']
  exact hK _ _ ((h w.heap.size).go _ _ (hr.put hn _) (hm.append (gr_alloc w _) (Owns.one (heap_alloc_new w _) fun k hk => by simp only [blkO, Option.some.injEq] at hk; omega)))
/-- a slice literal of one element -/
theorem run_lit1 {t e : TypeId} {i : TypeInfo} {z v : Value} {c : Nat} (ht : P.underlying t = some (.slice e)) (hi : P.info? e = some i) (hz : i.zero = some z) (hc : i.size = c) (hzc : z.cells.size = c) (hv : v.cells.size = c) (h0 : 0 < c) (hs : c ≤ 16777216) (w : World) :
    (Instr.buildSlice t 1 #[(0, v)]).run P w = .ok (.slice (some ⟨w.heap.size, 0, none⟩) 1 1) (w.alloc (.cells v.cells e)) := by
  have hfill : Instr.fill (fun i => some (i * c, c)) ((Array.range (1 * c)).map (z.cells[· % z.cells.size]!)) [(0, v)] = some v.cells := by
    simp only [Instr.fill, hv, Nat.zero_mul, Nat.zero_add, Array.size_map, Array.size_range, Nat.one_mul]
    rw [if_neg (by simp)]
    congr 1
    have key : ∀ (l : List Value) (k : Nat) (acc : Array Value), k + l.length = acc.size → (l.zipIdx k).foldl (fun cs (x : Value × Nat) => cs.setIfInBounds (0 + x.2) x.1) acc = (acc.toList.take k ++ l).toArray := by
      intro l
      induction l with
      | nil =>
        intro k acc h
        simp at h
        simp only [List.zipIdx_nil, List.foldl_nil, List.append_nil]
        rw [List.take_of_length_le (by simp; omega)]
      | cons x l ih =>
        intro k acc h
        simp only [List.length_cons] at h
        rw [List.zipIdx_cons, List.foldl_cons, ih (k + 1) _ (by simp; omega)]
        simp only [Nat.zero_add, Array.toList_setIfInBounds]
        congr 1
        rw [List.take_succ_eq_append_getElem (by simp; omega)]
        simp [List.take_set]
        rw [List.set_eq_of_length_le (by simp; omega)]
    have := key v.cells.toList 0 ((Array.range c).map (z.cells[· % z.cells.size]!)) (by simp [hv])
    simp only [List.take_zero, List.nil_append, Array.toArray_toList] at this
    rw [← Array.foldl_toList]
    simpa [Array.toList_zipIdx] using this
  have hne : ¬ (1 * c > 2 ^ 24) := by omega
  have hne2 : ¬ (1 * c = 0) := by omega
  simp only [Instr.buildSlice, Sem.run_bind, run_underlying ht, Result.andThen_ok, sizeOf, typeInfo, run_program, hi, Sem.run_pure, hc, zeroValue, hz, if_neg hne, if_neg hne2, hfill, newRow]
  simp [newRow]
theorem TL_lit1 {t e : TypeId} {x : Operand} {i : TypeInfo} {z v : Value} {c : Nat} {cs : Array Value} (ht : P.underlying t = some (.slice e)) (hi : P.info? e = some i) (hz : i.zero = some z) (hc : i.size = c) (hzc : z.cells.size = c) (hx : ev fr x = some v) (hcs : v.cells = cs) (hv : cs.size = c) (h0 : 0 < c) (hs : c ≤ 16777216) (hn : Nat.blt d n = true)
    (h : ∀ g, TL P n W ops Q rest ((d, .slice (some ⟨g, 0, none⟩) 1 1) :: fr) (L ++ [blkO g cs e])) : TL P n W ops Q (⟨some d, .buildSlice t 1 #[(0, x)], ty, pos, after, none⟩ :: rest) fr L := by
  subst hcs
  exact TL_lit (fun a w hr => by simpa [hr.ev hx] using run_lit1 ht hi hz hc hzc hv h0 hs w) hn h
/-- append onto an own slice: where it comes to lie -/
theorem run_append_turn {t ty e : TypeId} {i : TypeInfo} {z : Value} {size bytes : Nat} (ht : P.underlying t = some (.slice e)) (hi : P.info? e = some i) (hz : i.zero = some z) (hsize : i.size = size) (hby : i.bytes = bytes) (hzs : z.cells.size = size) (hsz : 0 < size) (w : World)
    {v : Value} {m : Nat} {xs : List Value} (hown : w.ownsRow 0 e size v m xs) {a : Addr} {k c : Nat} {news : List Value} (hl : news.length = k * size) (hnews : ∀ j u, news[j]? = some u → w.cell? (a.add j) = some u) (h1 : ∀ u ∈ news, u.oneCell' = true)
    (h63 : m + k ≤ maxLen) (hbytes : (m + k) * bytes ≤ 140737488355328) :
    ∃ v' w', (Builtin.append_ #[t, t] ty #[v, .slice (some a) k c]).run P w = .ok v' w' ∧ w'.ownsRow 0 e size v' (m + k) (xs ++ news) ∧ w.grownBy w' v.ownBlock ∧ (∀ q, v'.ownBlock = some q → v.ownBlock = some q ∨ w.heap.size ≤ q) := by
  obtain ⟨v', w', hr, h2, h3, h4⟩ := run_append_own (P := P) w 0 t ty e i z size bytes ht hi hz hsize hby hzs hsz v m xs hown a k c news hl hnews h1 h63 hbytes (Nat.zero_le _)
  refine ⟨v', w', hr, h2, h3, fun q hq => ?_⟩
  have h63' : ((m + k : Nat) : Int) ≤ 9223372036854775807 := by simp only [maxLen] at h63; omega
  rcases hown.2 with ⟨rfl, rfl⟩ | ⟨g, cap, cur, rfl, hbg, hg, hnc, hcm, hcs, htake⟩
  · by_cases hk : k = 0
    · rw [h4.2 ⟨rfl, hk⟩] at hq; cases hq
    · have hr2 := run_append_nil (P := P) w t ty e i z ht hi hz a k c news (by rw [hsize]; exact hl) hnews (by omega) (by omega) (by rw [hby]; have hb := hbytes; simp only [Nat.zero_add] at hb; omega)
      rw [hr] at hr2
      injection hr2 with e1 _
      subst e1
      simp only [Value.ownBlock, Option.some.injEq] at hq
      exact .inr (by omega)
  · by_cases hroom : m + k ≤ cap
    · have hfit : m * i.size + news.length ≤ cur.size := by rw [hl, hcs, hsize, ← Nat.add_mul]; exact Nat.mul_le_mul_right _ hroom
      have hr2 := run_append_room (P := P) w t ty e i ht hi g m cap cur hg a k c news (by rw [hsize]; exact hl) hnews h1 hroom hfit
      rw [hr] at hr2
      injection hr2 with e1 _
      subst e1
      exact .inl hq
    · have holds : ∀ j u, xs[j]? = some u → w.cell? ((⟨g, 0, none⟩ : Addr).add j) = some u := hown.cells (g := g) rfl
      have hr2 := run_append_grow (P := P) w t ty e i z ht hi hz ⟨g, 0, none⟩ m cap xs (by rw [hsize]; exact hown.1) holds a k c news (by rw [hsize]; exact hl) hnews (by omega) (by omega) (growslice_fits (by omega) (by rw [hby]; exact hbytes))
      rw [hr] at hr2
      injection hr2 with e1 _
      subst e1
      simp only [Value.ownBlock, Option.some.injEq] at hq
      exact .inr (by omega)
/-- a slice type's element type, as append wants it -/
structure El (P : Program) (t e : TypeId) (size bytes : Nat) : Prop where
  ex : ∃ i z, P.underlying t = some (.slice e) ∧ P.info? e = some i ∧ i.zero = some z ∧ i.size = size ∧ i.bytes = bytes ∧ z.cells.size = size ∧ 0 < size
def elB (P : Program) (t e : TypeId) (size bytes : Nat) : Bool :=
  (match P.underlying t with | some (.slice e') => Nat.beq e' e | _ => false) && (match P.info? e with | some i => Nat.beq i.size size && Nat.beq i.bytes bytes && (match i.zero with | some z => Nat.beq z.cells.size size | none => false) | none => false) && Nat.blt 0 size
theorem El.of {t e : TypeId} {size bytes : Nat} (h : elB P t e size bytes = true) : El P t e size bytes := by
  unfold elB at h
  simp only [Bool.and_eq_true] at h
  obtain ⟨⟨h1, h2⟩, h3⟩ := h
  cases e1 : P.underlying t with
  | none => rw [e1] at h1; cases h1
  | some d =>
    rw [e1] at h1
    cases d <;> try (cases h1; done)
    rename_i e'
    obtain rfl := Nat.eq_of_beq_eq_true h1
    cases e2 : P.info? e' with
    | none => rw [e2] at h2; cases h2
    | some i =>
      rw [e2] at h2
      simp only [Bool.and_eq_true] at h2
      obtain ⟨⟨h4, h5⟩, h6⟩ := h2
      cases e3 : i.zero with
      | none => rw [e3] at h6; cases h6
      | some z =>
        rw [e3] at h6
        exact ⟨i, z, e1, e2, e3, Nat.eq_of_beq_eq_true h4, Nat.eq_of_beq_eq_true h5, Nat.eq_of_beq_eq_true h6, Nat.le_of_ble_eq_true h3⟩
/-- 'append(s, x...)' onto an own slice, of whatever can be read -/
theorem TL_append {t e : TypeId} {s x : Operand} {i size bytes m k c : Nat} {v : Value} {xs ys : List Value} {a : Addr} (hel : El P t e size bytes) (hi : L[i]? = some (rowO e size v m xs)) (hs : ev fr s = some v) (hx : ev fr x = some (.slice (some a) k c))
    (hy : ∀ j u, ys[j]? = some u → At W L (a.add j) u) (hl : ys.length = k * size) (h1 : ∀ u ∈ ys, u.oneCell' = true) (h63 : m + k ≤ 140737488355328) (hb : (m + k) * bytes ≤ 140737488355328) (hn : Nat.blt d n = true)
    (h : ∀ v', TL P n W ops Q rest ((d, v') :: fr) (L.set i (rowO e size v' (m + k) (xs ++ ys)))) :
    TL P n W ops Q (⟨some d, .call { callee := .builtin .append, args := #[s, x], argTypes := #[t, t] }, ty, pos, after, none⟩ :: rest) fr L := TL_any rfl fun act w hr hm K hK => by
  obtain ⟨inf, z, ht, hinf, hz, hsize, hby, hzs, hsz⟩ := hel.ex
  obtain ⟨v', w', hrun, h2, h3, h4⟩ := run_append_turn (ty := ty) (c := c) ht hinf hz hsize hby hzs hsz w (hm.get hi : w.ownsRow 0 e size v m xs) hl (fun j u hj => hy j u hj w hm) h1 (by unfold maxLen; omega) hb
  have e' : (execOp act.eval ⟨some d, .call { callee := .builtin .append, args := #[s, x], argTypes := #[t, t] }, ty, pos, after, none⟩).run P w = .ok (.value v') w' := by
    simp only [BigFrame.execOp_builtin, BigFrame.builtin_append, List.map_toArray, List.map_cons, List.map_nil, hr.ev hs, hr.ev hx, Sem.run_bind, hrun, Result.andThen_ok, Sem.run_pure]
  unfold Oper.wp; rw [e']
  exact hK _ _ ((h v').go _ _ (hr.put hn _) (hm.turn hi h3 h2 h4))
theorem TL_append_at {t e : TypeId} {s x : Operand} {i size bytes m k c : Nat} {v : Value} {xs ys : List Value} {p : Addr} {act : Act} {w : World} (hel : El P t e size bytes) (hi : L[i]? = some (rowO e size v m xs)) (hs : ev fr s = some v) (hx : ev fr x = some (.slice (some p) k c))
    (hy : ∀ j u, ys[j]? = some u → w.cell? (p.add j) = some u) (hl : ys.length = k * size) (h1 : ∀ u ∈ ys, u.oneCell' = true) (h63 : m + k ≤ 140737488355328) (hb : (m + k) * bytes ≤ 140737488355328) (hn : Nat.blt d n = true)
    (h : ∀ v', TL P n W ops Q rest ((d, v') :: fr) (L.set i (rowO e size v' (m + k) (xs ++ ys)))) (hr : Rep n act fr) (hm : Mem W L w) :
    wpList P ops Q (⟨some d, .call { callee := .builtin .append, args := #[s, x], argTypes := #[t, t] }, ty, pos, after, none⟩ :: rest) act w := by
  refine wpList_plain rfl fun K hK => ?_
  obtain ⟨inf, z, ht, hinf, hz, hsize, hby, hzs, hsz⟩ := hel.ex
  obtain ⟨v', w', hrun, h2, h3, h4⟩ := run_append_turn (ty := ty) (c := c) ht hinf hz hsize hby hzs hsz w (hm.get hi : w.ownsRow 0 e size v m xs) hl hy h1 (by unfold maxLen; omega) hb
  have e' : (execOp act.eval ⟨some d, .call { callee := .builtin .append, args := #[s, x], argTypes := #[t, t] }, ty, pos, after, none⟩).run P w = .ok (.value v') w' := by
    simp only [BigFrame.execOp_builtin, BigFrame.builtin_append, List.map_toArray, List.map_cons, List.map_nil, hr.ev hs, hr.ev hx, Sem.run_bind, hrun, Result.andThen_ok, Sem.run_pure]
  unfold Oper.wp; rw [e']
  exact hK _ _ ((h v').go _ _ (hr.put hn _) (hm.turn hi h3 h2 h4))
/-- the same of nothing -/
theorem TL_append0 {t e : TypeId} {s x : Operand} {i size bytes m c : Nat} {v : Value} {xs : List Value} (hel : El P t e size bytes) (hi : L[i]? = some (rowO e size v m xs)) (hs : ev fr s = some v) (hx : ev fr x = some (.slice none 0 c)) (hn : Nat.blt d n = true)
    (h : TL P n W ops Q rest ((d, v) :: fr) L) :
    TL P n W ops Q (⟨some d, .call { callee := .builtin .append, args := #[s, x], argTypes := #[t, t] }, ty, pos, after, none⟩ :: rest) fr L := TL_any rfl fun act w hr hm K hK => by
  obtain ⟨inf, z, ht, hinf, hz, hsize, hby, hzs, hsz⟩ := hel.ex
  have hown : w.ownsRow 0 e size v m xs := hm.get hi
  have e' : (execOp act.eval ⟨some d, .call { callee := .builtin .append, args := #[s, x], argTypes := #[t, t] }, ty, pos, after, none⟩).run P w = .ok (.value v) w := by
    rcases hown.2 with ⟨rfl, rfl⟩ | ⟨g, cap, cur, rfl, hbg, hg, hnc, hcm, hcs, htake⟩
    · simp [BigFrame.execOp_builtin, BigFrame.builtin_append, hr.ev hs, hr.ev hx, Builtin.append_, run_underlying ht, sizeOf, typeInfo, hinf, Builtin.lenOf, Builtin.firstCells]
    · simp [BigFrame.execOp_builtin, BigFrame.builtin_append, hr.ev hs, hr.ev hx, Builtin.append_, run_underlying ht, sizeOf, typeInfo, hinf, Builtin.lenOf, Builtin.firstCells, loadCells, hnc, storeCells]
  unfold Oper.wp; rw [e']
  exact hK _ _ (h.go _ _ (hr.put hn _) hm)
/-- a store into a block that is known whole -/
theorem TL_store {t : TypeId} {p x : Operand} {i g off c : Nat} {cs cs' : Array Value} {T : TypeId} {agg : Bool} {v : Value} (hT : Ty P t agg c) (hi : L[i]? = some (blkO g cs T)) (hp : ev fr p = some (.pointer (some ⟨g, off, none⟩))) (hx : ev fr x = some v) (hv : v.cells.size = c) (h1 : v.cells.toList.all Value.oneCell' = true)
    (hfit : off + c ≤ cs.size) (hcs : cs' = (cs.toList.take off ++ v.cells.toList ++ cs.toList.drop (off + c)).toArray) (h : TL P n W ops Q rest fr (L.set i (blkO g cs' T))) :
    TL P n W ops Q (⟨none, .store t p x, ty, pos, after, none⟩ :: rest) fr L := TL_any rfl fun act w hr hm K hK => by
  have hg : w.heap[g]? = some (.cells cs T (0, 0)) := hm.get hi
  have hst := run_storeCells_at P g off T v.cells.toList 0 cs w hg (by simp [hv]; omega) (List.all_eq_true.1 h1)
  simp only [Nat.add_zero, Array.length_toList, hv] at hst
  rw [← hcs] at hst
  have e' : (execOp act.eval ⟨none, .store t p x, ty, pos, after, none⟩).run P w = .ok .skip (w.setRow g cs') := by
    simp [execOp, hr.ev hp, hr.ev hx, Instr.storeAt, Instr.sureAddr, storeVar, hT.size, hv, hst]
  unfold Oper.wp; rw [e']
  exact hK _ _ (h.go _ _ (hr.put_none undef) (hm.turn hi ⟨rfl, rfl, rfl, by simp, fun k _ hk => setRow_other w g k _ (fun e => hk (by subst e; rfl))⟩ (setRow_heap w g cs _ T _ hg) fun k hk => .inl hk))
/-- one cell of an own slice -/
theorem TL_storeRow {t : TypeId} {p x : Operand} {i g off c size cap m k : Nat} {xs : List Value} {e : TypeId} {v : Value} (hT : Ty P t false c) (hi : L[i]? = some (rowO e size (.slice (some ⟨g, 0, none⟩) m cap) k xs)) (hp : ev fr p = some (.pointer (some ⟨g, off, none⟩))) (hx : ev fr x = some v) (hv : v.cells = #[v]) (hc : c = 1) (h1 : v.oneCell' = true)
    (hfit : off < xs.length) (h : TL P n W ops Q rest fr (L.set i (rowO e size (.slice (some ⟨g, 0, none⟩) m cap) k (xs.set off v)))) :
    TL P n W ops Q (⟨none, .store t p x, ty, pos, after, none⟩ :: rest) fr L := TL_any rfl fun act w hr hm K hK => by
  subst hc
  have hown : w.ownsRow 0 e size (.slice (some ⟨g, 0, none⟩) m cap) k xs := hm.get hi
  have hown' := hown
  rcases hown.2 with ⟨h0, _⟩ | ⟨g', cap', cur, he, hbg, hg, hnc, hcm, hcs, htake⟩
  · cases h0
  simp only [Value.slice.injEq, Option.some.injEq, Addr.mk.injEq, and_true] at he
  obtain ⟨rfl, rfl, rfl⟩ := he
  have hlen : xs.length = m * size := hown.1
  have hoff : off < cur.size := by rw [hcs]; exact Nat.lt_of_lt_of_le (by omega) (Nat.mul_le_mul_right size hnc)
  have hst := run_storeCells_at P g off e [v] 0 cur w hg (by simp; omega) (by simpa using h1)
  simp only [Nat.add_zero, List.length_singleton] at hst
  have hset : cur.toList.take off ++ [v] ++ cur.toList.drop (off + 1) = cur.toList.set off v := by
    rw [List.set_eq_take_append_cons_drop, if_pos (by simpa using hoff)]; simp
  rw [hset] at hst
  have e' : (execOp act.eval ⟨none, .store t p x, ty, pos, after, none⟩).run P w = .ok .skip (w.setRow g (cur.toList.set off v).toArray) := by
    simp [execOp, hr.ev hp, hr.ev hx, Instr.storeAt, Instr.sureAddr, storeVar, hT.size, hv, hst]
  unfold Oper.wp; rw [e']
  refine hK _ _ (h.go _ _ (hr.put_none undef) (hm.turn hi ⟨rfl, rfl, rfl, by simp, fun k _ hk => setRow_other w g k _ (fun e => hk (by subst e; rfl))⟩ ?_ fun k hk => .inl hk))
  refine ⟨by rw [List.length_set]; exact hown.1, .inr ⟨g, cap, _, rfl, hbg, setRow_heap w g cur _ e _ hg, hnc, hcm, by simp [hcs], ?_⟩⟩
  simp only [List.take_set]
  rw [htake]
/-- one cell of cells that may be written -/
theorem TL_storeWr {t : TypeId} {p x : Operand} {i g off c : Nat} {xs : List Value} {v : Value} (hT : Ty P t false c) (hi : L[i]? = some (wrO g xs)) (hp : ev fr p = some (.pointer (some ⟨g, off, none⟩))) (hx : ev fr x = some v) (hv : v.cells = #[v]) (hc : c = 1) (h1 : v.oneCell' = true)
    (hfit : off < xs.length) (h : TL P n W ops Q rest fr (L.set i (wrO g (xs.set off v)))) :
    TL P n W ops Q (⟨none, .store t p x, ty, pos, after, none⟩ :: rest) fr L := TL_any rfl fun act w hr hm K hK => by
  subst hc
  have hw : g < w.heap.size ∧ Wr w g 0 xs := hm.get hi
  have hc := hw.2.at off hfit
  rw [Nat.zero_add] at hc
  have hst := run_store P w ⟨g, off, none⟩ v .plain h1
  rw [hc.1, hc.2] at hst
  have e' : (execOp act.eval ⟨none, .store t p x, ty, pos, after, none⟩).run P w = .ok .skip (w.setCell ⟨g, off, none⟩ v) := by
    have : (⟨g, off, none⟩ : Addr).add 0 = ⟨g, off, none⟩ := rfl
    simp only [execOp, hr.ev hp, hr.ev hx, Instr.storeAt, Instr.sureAddr, storeVar, Sem.run_bind, Sem.run_pure, Result.andThen_ok, hT.size, hv, storeCells, this]
    simp [hst]
  unfold Oper.wp; rw [e']
  refine hK _ _ (h.go _ _ (hr.put_none undef) (hm.turn hi ⟨rfl, rfl, rfl, by simp [World.setCell], fun k _ hk => Below.heap_setCell _ _ _ _ (fun e => hk (by subst e; rfl))⟩ ⟨by rw [size_set]; exact hw.1, ?_⟩ fun k hk => .inl hk))
  have := hw.2.set off hfit v
  rwa [Nat.zero_add] at this
/-- '[]byte(s)' -/
theorem TL_bytes {t u e : TypeId} {x : Operand} {l : List UInt8} (ht : P.underlying t = some .string) (hu : P.underlying u = some (.slice e)) (he : P.underlying e = some (.int .u8)) (hx : ev fr x = some (str l)) (hn : Nat.blt d n = true)
    (h : ∀ g cap, l.length ≤ cap → TL P n W ops Q rest ((d, .slice (some ⟨g, 0, none⟩) l.length cap) :: fr) (L ++ [wrO g (l.map u8v)])) : TL P n W ops Q (⟨some d, .convert t u x, ty, pos, after, none⟩ :: rest) fr L := TL_any rfl fun act w hr hm K hK => by
  obtain ⟨cap, w', h1, h2, h3, h4, h5⟩ := conv_bytes (P := P) ht hu he w ⟨l.toArray⟩
  have hx' := hr.ev hx
  unfold str at hx'
  have hs : (ByteArray.mk l.toArray).size = l.length := List.size_toArray
  rw [hs] at h1 h4
  have e' : (execOp act.eval ⟨some d, .convert t u x, ty, pos, after, none⟩).run P w = .ok (.value (.slice (some ⟨w.heap.size, 0, none⟩) l.length cap)) w' := by
    simp only [execOp, hx', Sem.run_bind, h1, Result.andThen_ok, Sem.run_pure]
  unfold Oper.wp; rw [e']
  exact hK _ _ ((h w.heap.size cap h4).go _ _ (hr.put hn _) (hm.append h2 (Owns.one (o := wrO w.heap.size (l.map u8v)) ⟨h3, by simpa using h5⟩ fun k hk => by simp only [wrO, Option.some.injEq] at hk; omega)))
/-- 'string(b)' -/
theorem rr_string {t u e : TypeId} {x : Operand} {m : Nat} {v : Value} {l : List UInt8} (ht : P.underlying t = some (.slice e)) (he : P.underlying e = some (.int .u8)) (hu : P.underlying u = some .string) (hx : ev fr x = some v) (hm : m = l.length) (h : SlL W L v m (l.map u8v)) : RR P n W ⟨dst, .convert t u x, ty, pos, after, guard⟩ fr L (str l) := .mk fun a w hr hmm => by
  subst hm
  have hx' := hr.ev hx
  obtain ⟨base, cap, rfl, _, _, hrd⟩ := h w hmm
  have e' : (convert t u (.slice base l.length cap)).run P w = .ok (str l) w := by
    cases l with
    | nil =>
      cases base with
      | none => simp [convert, run_underlying ht, run_underlying hu, run_underlying he, Conv.bytesToString, str]; rfl
      | some p => simp [convert, run_underlying ht, run_underlying hu, run_underlying he, Conv.bytesToString, str, loadCells, loadCellsFrom]; rfl
    | cons b l =>
      obtain ⟨g, off, rfl, hh⟩ := hrd (by simp)
      exact conv_string ht he hu rfl hh
  simp only [execOp, hx', Sem.run_bind, e', Result.andThen_ok, Sem.run_pure]
end
/-! ### calls -/
def Enters (P : Program) (f : FuncId) : Prop := ∀ args w, (callFunc f args).run P w = .ok (.enter f args) w
def entersB (P : Program) (f : FuncId) : Bool := match P.funcs[f]? with | some fn => fn.body.isSome && !(fn.name == "runtime.NumGoroutine") | none => false
theorem Enters.of {f : FuncId} (h : entersB P f = true) : Enters P f := by
  unfold entersB at h
  cases e : P.funcs[f]? with
  | none => rw [e] at h; cases h
  | some fn =>
    rw [e] at h
    simp only [Bool.and_eq_true, Bool.not_eq_true'] at h
    intro args w
    have h1 : ¬ fn.body = none := fun hb => by rw [hb] at h; simp at h
    have h2 : ¬ fn.name = "runtime.NumGoroutine" := by simpa using h.2
    simp [callFunc, e, h2, h1]
section
variable {f : FuncId} {ts : Array TypeId} {cl x1 x2 x3 x4 x5 : Operand} {v1 v2 v3 v4 v5 : Value} {first cap : Array Value}
theorem he0 (hf : Enters P f) (hc : ev fr cl = some (.func (.func f) #[] #[])) : ∀ a w, Rep n a fr → (execOp a.eval ⟨dst, .call { callee := .value cl, args := #[], argTypes := ts }, ty, pos, after, guard⟩).run P w = .ok (.enter f #[]) w := fun a w hr => by
  have hf' : ∀ args w, (callFunc f args).run P w = .ok (.enter f args) w := hf
  simp [execOp, resolve, hr.ev hc, Deferred.ofValue, invoke, hf']
theorem he1 (hf : Enters P f) (hc : ev fr cl = some (.func (.func f) #[] #[])) (h1 : ev fr x1 = some v1) : ∀ a w, Rep n a fr → (execOp a.eval ⟨dst, .call { callee := .value cl, args := #[x1], argTypes := ts }, ty, pos, after, guard⟩).run P w = .ok (.enter f #[v1]) w := fun a w hr => by
  have hf' : ∀ args w, (callFunc f args).run P w = .ok (.enter f args) w := hf
  simp [execOp, resolve, hr.ev hc, hr.ev h1, Deferred.ofValue, invoke, hf']
theorem he2 (hf : Enters P f) (hc : ev fr cl = some (.func (.func f) #[] #[])) (h1 : ev fr x1 = some v1) (h2 : ev fr x2 = some v2) : ∀ a w, Rep n a fr → (execOp a.eval ⟨dst, .call { callee := .value cl, args := #[x1, x2], argTypes := ts }, ty, pos, after, guard⟩).run P w = .ok (.enter f #[v1, v2]) w := fun a w hr => by
  have hf' : ∀ args w, (callFunc f args).run P w = .ok (.enter f args) w := hf
  simp [execOp, resolve, hr.ev hc, hr.ev h1, hr.ev h2, Deferred.ofValue, invoke, hf']
theorem he3 (hf : Enters P f) (hc : ev fr cl = some (.func (.func f) #[] #[])) (h1 : ev fr x1 = some v1) (h2 : ev fr x2 = some v2) (h3 : ev fr x3 = some v3) : ∀ a w, Rep n a fr → (execOp a.eval ⟨dst, .call { callee := .value cl, args := #[x1, x2, x3], argTypes := ts }, ty, pos, after, guard⟩).run P w = .ok (.enter f #[v1, v2, v3]) w := fun a w hr => by
  have hf' : ∀ args w, (callFunc f args).run P w = .ok (.enter f args) w := hf
  simp [execOp, resolve, hr.ev hc, hr.ev h1, hr.ev h2, hr.ev h3, Deferred.ofValue, invoke, hf']
theorem he4 (hf : Enters P f) (hc : ev fr cl = some (.func (.func f) #[] #[])) (h1 : ev fr x1 = some v1) (h2 : ev fr x2 = some v2) (h3 : ev fr x3 = some v3) (h4 : ev fr x4 = some v4) : ∀ a w, Rep n a fr → (execOp a.eval ⟨dst, .call { callee := .value cl, args := #[x1, x2, x3, x4], argTypes := ts }, ty, pos, after, guard⟩).run P w = .ok (.enter f #[v1, v2, v3, v4]) w := fun a w hr => by
  have hf' : ∀ args w, (callFunc f args).run P w = .ok (.enter f args) w := hf
  simp [execOp, resolve, hr.ev hc, hr.ev h1, hr.ev h2, hr.ev h3, hr.ev h4, Deferred.ofValue, invoke, hf']
/-- a closure: what it has captured comes behind -/
theorem he1c (hf : Enters P f) (hc : ev fr cl = some (.func (.func f) first cap)) (h1 : ev fr x1 = some v1) : ∀ a w, Rep n a fr → (execOp a.eval ⟨dst, .call { callee := .value cl, args := #[x1], argTypes := ts }, ty, pos, after, guard⟩).run P w = .ok (.enter f (first ++ #[v1] ++ cap)) w := fun a w hr => by
  have hf' : ∀ args w, (callFunc f args).run P w = .ok (.enter f args) w := hf
  simp [execOp, resolve, hr.ev hc, hr.ev h1, Deferred.ofValue, invoke, hf']
end
end
end Go.Proofs.Ytlojfbnimmdehaa.eng

/- Cls -/
namespace Go.Proofs.Ytlojfbnimmdehaa.eng
open Go.RowKit kit mix
class Und (P : Program) (t : TypeId) (d : outParam TypeDesc) : Prop where
  eq : P.underlying t = some d
class TyC (P : Program) (t : TypeId) (agg : outParam Bool) (c : outParam Nat) : Prop where
  ty : Ty P t agg c
class FldC (P : Program) (t : TypeId) (f : Nat) (o : outParam Nat) : Prop where
  fld : Fld P t f o
class ElC (P : Program) (t : TypeId) (e : outParam TypeId) (size bytes : outParam Nat) : Prop where
  el : El P t e size bytes
class EntersC (P : Program) (f : FuncId) : Prop where
  en : Enters P f
class ZeroC (P : Program) (t : TypeId) (cs : outParam (Array Value)) : Prop where
  zero : (P.info? t).map (fun i => i.zero.map Value.cells) = some (some cs)
section
variable {P : Program} {n : Nat} {W : Base} {fr : Fr} {L : List Own} {Q : Exit → Act → World → Prop} {ops : Array Oper} {rest : List Oper} {d : Nat} {ty : TypeId} {pos : String} {after : Array Edge}
theorem ZeroC.ex {t : TypeId} {cs : Array Value} [h : ZeroC P t cs] : ∃ i z, P.info? t = some i ∧ i.zero = some z ∧ z.cells = cs := by
  have h1 := h.zero
  cases e : P.info? t with
  | none => rw [e] at h1; simp at h1
  | some i =>
    rw [e] at h1
    cases e2 : i.zero with
    | none => simp [e2] at h1
    | some z => simp [e2] at h1; exact ⟨i, z, rfl, e2, h1⟩
theorem TL_new {t : TypeId} {cs : Array Value} [ZeroC P t cs] (hn : Nat.blt d n = true) (h : ∀ g, TL P n W ops Q rest ((d, .pointer (some ⟨g, 0, none⟩)) :: fr) (L ++ [blkO g cs t])) :
    TL P n W ops Q (⟨some d, .alloc t, ty, pos, after, none⟩ :: rest) fr L := by
  obtain ⟨i, z, h1, h2, h3⟩ := ZeroC.ex (P := P) (t := t)
  exact TL_alloc h1 h2 h3 hn h
theorem TL_one {t e : TypeId} {x : Operand} {v : Value} {c bytes : Nat} {cs : Array Value} [hel : ElC P t e c bytes] (hx : ev fr x = some v) (hcs : v.cells = cs) (hv : cs.size = c) (hs : Nat.ble c 16777216 = true) (hn : Nat.blt d n = true)
    (h : ∀ g, TL P n W ops Q rest ((d, .slice (some ⟨g, 0, none⟩) 1 1) :: fr) (L ++ [blkO g cs e])) : TL P n W ops Q (⟨some d, .buildSlice t 1 #[(0, x)], ty, pos, after, none⟩ :: rest) fr L := by
  obtain ⟨inf, z, ht, hinf, hz, hsize, hby, hzs, hsz⟩ := hel.el.ex
  exact TL_lit1 ht hinf hz hsize hzs hx hcs hv hsz (Nat.le_of_ble_eq_true hs) hn h
/-- nothing, as an own slice -/
theorem Mem.nilrow {w : World} (e : TypeId) (size : Nat) (h : Mem W L w) : Mem W (L ++ [rowO e size (.slice none 0 0) 0 []]) w :=
  h.append (Gr.refl w) (Owns.one (World.ownsRow_nil _ _ _ _) fun k hk => by cases hk)
theorem T_nil {c : Code} (e : TypeId) (size : Nat) (h : T P n W c Q fr (L ++ [rowO e size (.slice none 0 0) 0 []])) : T P n W c Q fr L := ⟨fun a w hr hm => h.go a w hr (hm.nilrow e size)⟩
theorem TL_nilrow (e : TypeId) (size : Nat) (h : TL P n W ops Q rest fr (L ++ [rowO e size (.slice none 0 0) 0 []])) : TL P n W ops Q rest fr L := ⟨fun a w hr hm => h.go a w hr (hm.nilrow e size)⟩
theorem TL_pick {L' : List Own} (is : List Nat) (hn : is.Nodup) (hl : L' = is.filterMap fun i => L[i]?) (h : TL P n W ops Q rest fr L') : TL P n W ops Q rest fr L := ⟨fun a w hr hm => h.go a w hr (hm.pick is hn hl)⟩
/-- one element, just made, is appended -/
theorem TL_app1 {t e : TypeId} {s x : Operand} {i q g size bytes m : Nat} {v : Value} {xs : List Value} {cs : Array Value} {T : TypeId} [hel : ElC P t e size bytes] (hi : L[i]? = some (rowO e size v m xs)) (hq : L[q]? = some (blkO g cs T)) (hs : ev fr s = some v) (hx : ev fr x = some (.slice (some ⟨g, 0, none⟩) 1 1))
    (hl : cs.size = size) (h1 : cs.toList.all Value.oneCell' = true) (h63 : m + 1 ≤ 140737488355328) (hb : (m + 1) * bytes ≤ 140737488355328) (hn : Nat.blt d n = true)
    (h : ∀ v', TL P n W ops Q rest ((d, v') :: fr) (L.set i (rowO e size v' (m + 1) (xs ++ cs.toList)))) :
    TL P n W ops Q (⟨some d, .call { callee := .builtin .append, args := #[s, x], argTypes := #[t, t] }, ty, pos, after, none⟩ :: rest) fr L :=
  TL_append hel.el hi hs hx (fun j u hj => by rw [kit.addr_add, Nat.zero_add]; exact at_blk hq (by simpa using hj)) (by simpa using hl) (List.all_eq_true.1 h1) h63 hb hn h
theorem TL_app11 {t e : TypeId} {s x : Operand} {i q g bytes m : Nat} {v u : Value} {xs : List Value} {cs : Array Value} {T : TypeId} [hel : ElC P t e 1 bytes] (hi : L[i]? = some (rowO e 1 v m xs)) (hq : L[q]? = some (blkO g cs T)) (hs : ev fr s = some v) (hx : ev fr x = some (.slice (some ⟨g, 0, none⟩) 1 1))
    (hu : cs = #[u]) (h1 : u.oneCell' = true) (h63 : m + 1 ≤ 140737488355328) (hb : (m + 1) * bytes ≤ 140737488355328) (hn : Nat.blt d n = true)
    (h : ∀ v', TL P n W ops Q rest ((d, v') :: fr) (L.set i (rowO e 1 v' (m + 1) (xs ++ [u])))) :
    TL P n W ops Q (⟨some d, .call { callee := .builtin .append, args := #[s, x], argTypes := #[t, t] }, ty, pos, after, none⟩ :: rest) fr L := by
  subst hu
  exact TL_app1 hi hq hs hx rfl (by simp [h1]) h63 hb hn h
theorem OwnsP.front {p : Nat → Prop} {w : World} {L L' : List Own} (h : OwnsP p w (L ++ L')) : OwnsP p w L :=
  ⟨fun i o hi => h.all i o (by rw [List.getElem?_append_left (List.getElem?_eq_some_iff.1 hi).1]; exact hi),
   fun i j o o' hij hi hj => h.apart i j o o' hij (by rw [List.getElem?_append_left (List.getElem?_eq_some_iff.1 hi).1]; exact hi) (by rw [List.getElem?_append_left (List.getElem?_eq_some_iff.1 hj).1]; exact hj)⟩
theorem Mem.front {w : World} {L L' : List Own} (h : Mem W (L ++ L') w) : Mem W L w := ⟨h.low, h.owns.front⟩
theorem TL_front {L' : List Own} (h : TL P n W ops Q rest fr L) : TL P n W ops Q rest fr (L ++ L') := ⟨fun a w hr hm => h.go a w hr hm.front⟩
/-- 'append(s, u)', u of one cell: the literal and the append at one stroke -/
theorem TL_push1 {t e : TypeId} {s x : Operand} {i bytes m d' : Nat} {v u : Value} {xs : List Value} {ty' : TypeId} {pos' : String} {after' : Array Edge} [hel : ElC P t e 1 bytes] (hi : L[i]? = some (rowO e 1 v m xs)) (hx : ev fr x = some u) (hu : u.cells = #[u]) (h1 : u.oneCell' = true) (hn' : Nat.blt d' n = true)
    (hs : ev ((d', undef) :: fr) s = some v) (hne : ∀ z, s = .tmp z → Nat.beq d' z = false) (h63 : m + 1 ≤ 140737488355328) (hb : (m + 1) * bytes ≤ 140737488355328) (hn : Nat.blt d n = true)
    (h : ∀ z v', TL P n W ops Q rest ((d, v') :: (d', z) :: fr) (L.set i (rowO e 1 v' (m + 1) (xs ++ [u])))) :
    TL P n W ops Q (⟨some d', .buildSlice t 1 #[(0, x)], ty', pos', after', none⟩ :: ⟨some d, .call { callee := .builtin .append, args := #[s, .tmp d'], argTypes := #[t, t] }, ty, pos, after, none⟩ :: rest) fr L := by
  have hil : i < L.length := (List.getElem?_eq_some_iff.1 hi).1
  have hs' : ∀ z, ev ((d', z) :: fr) s = some v := fun z => by
    cases s with
    | tmp q => have e := hne q rfl; simp only [ev, look, e, cond_false] at hs ⊢; exact hs
    | const q => exact hs
    | global q => exact hs
    | func q => exact hs
  refine TL_one hx hu rfl rfl hn' fun g => ?_
  refine TL_app1 (i := i) (q := L.length) (by rw [List.getElem?_append_left hil]; exact hi) (List.getElem?_concat_length) (hs' _) (by simp [ev, look]) rfl (by simp [h1]) h63 hb hn fun v' => ?_
  rw [List.set_append_left _ _ hil]
  exact TL_front (h _ v')
/-- the same of a struct -/
theorem TL_pushN {t e : TypeId} {s x : Operand} {i c bytes m d' : Nat} {v : Value} {cs : Array Value} {xs : List Value} {ty' : TypeId} {pos' : String} {after' : Array Edge} [hel : ElC P t e c bytes] (hi : L[i]? = some (rowO e c v m xs)) (hx : ev fr x = some (.agg cs)) (hc : cs.size = c) (hs0 : Nat.ble c 16777216 = true) (h1 : cs.toList.all Value.oneCell' = true) (hn' : Nat.blt d' n = true)
    (hs : ev ((d', undef) :: fr) s = some v) (hne : ∀ z, s = .tmp z → Nat.beq d' z = false) (h63 : m + 1 ≤ 140737488355328) (hb : (m + 1) * bytes ≤ 140737488355328) (hn : Nat.blt d n = true)
    (h : ∀ z v', TL P n W ops Q rest ((d, v') :: (d', z) :: fr) (L.set i (rowO e c v' (m + 1) (xs ++ cs.toList)))) :
    TL P n W ops Q (⟨some d', .buildSlice t 1 #[(0, x)], ty', pos', after', none⟩ :: ⟨some d, .call { callee := .builtin .append, args := #[s, .tmp d'], argTypes := #[t, t] }, ty, pos, after, none⟩ :: rest) fr L := by
  have hil : i < L.length := (List.getElem?_eq_some_iff.1 hi).1
  have hs' : ∀ z, ev ((d', z) :: fr) s = some v := fun z => by
    cases s with
    | tmp q => have e := hne q rfl; simp only [ev, look, e, cond_false] at hs ⊢; exact hs
    | const q => exact hs
    | global q => exact hs
    | func q => exact hs
  refine TL_one hx rfl hc hs0 hn' fun g => ?_
  refine TL_app1 (i := i) (q := L.length) (by rw [List.getElem?_append_left hil]; exact hi) (List.getElem?_concat_length) (hs' _) (by simp [ev, look]) hc h1 h63 hb hn fun v' => ?_
  rw [List.set_append_left _ _ hil]
  exact TL_front (h _ v')
theorem E_nilrow {e' : Exit} (e : TypeId) (size : Nat) (h : E n W e' Q fr (L ++ [rowO e size (.slice none 0 0) 0 []])) : E n W e' Q fr L := ⟨fun a w hr hm => h.go a w hr (hm.nilrow e size)⟩
/-- a new slice is handed back, among other things -/
def rowS (e : TypeId) (size m : Nat) (xs : List Value) (f : Value → Value) : Spec Value := ⟨fun _ => True, f, fun v => [rowO e size v m xs]⟩
end
/-! ### what needs no memory, read off; short names for what walks say often -/
def pureV (fr : Fr) : Op → Option Value
  | .move x => ev fr x
  | .assign x => ev fr x
  | .extract t i => match ev fr t with
    | some (.tuple vs) => vs[i]?
    | _ => none
  | .pick c x y => match ev fr c with
    | some (.bool true) => ev fr x
    | some (.bool false) => ev fr y
    | _ => none
  | .unOp .not _ x => match ev fr x with
    | some (.bool true) => some (.bool false)
    | some (.bool false) => some (.bool true)
    | _ => none
  | _ => none
section
variable {P : Program} {n : Nat} {W : Base} {fr : Fr} {L : List Own} {dst : Option Tmp} {ty : TypeId} {pos : String} {after : Array Edge} {guard : Option (Nat × Bool)}
theorem qp {op : Op} {v : Value} (h : pureV fr op = some v) : RR P n W ⟨dst, op, ty, pos, after, guard⟩ fr L v := by
  unfold pureV at h
  split at h
  · exact rr_move h
  · exact rr_assign h
  · split at h
    · rename_i e; exact rr_extract e h
    · cases h
  · split at h
    · rename_i e; exact rr_pickT e h
    · rename_i e; exact rr_pickF e h
    · cases h
  · split at h
    · rename_i e
      simp only [Option.some.injEq] at h
      subst h; exact rr_not e rfl
    · rename_i e
      simp only [Option.some.injEq] at h
      subst h; exact rr_not e rfl
    · cases h
  · cases h
end
section
variable {P : Program} {n : Nat} {W : Base} {fr : Fr} {L : List Own} {Q : Exit → Act → World → Prop} {ops : Array Oper} {rest : List Oper} {d : Nat} {o : Oper} {v : Value}
theorem qv (hg : o.guard = none) (hr : RR P n W o fr L v) (hd : o.dst = some d) (hn : Nat.blt d n = true) (h : TL P n W ops Q rest ((d, v) :: fr) L) : TL P n W ops Q (o :: rest) fr L := TL_val hr hg hd hn h
theorem qg {q e : Nat} {b : Bool} (hg : o.guard = some (q, b)) (hj : (ops[q]?).bind (·.dst) = some e) (hl : look fr e = some (.bool b)) (h : TL P n W ops Q ({ o with guard := none } :: rest) fr L) : TL P n W ops Q (o :: rest) fr L := TL_metg hg hj hl h
theorem qs {j e : Nat} {b : Bool} {u : Value} (hg : o.guard = some (j, b)) (hj : (ops[j]?).bind (·.dst) = some e) (hl : look fr e = some u) (hu : notB b u = true) (hd : o.dst = some d) (hn : Nat.blt d n = true) (h : TL P n W ops Q rest ((d, undef) :: fr) L) : TL P n W ops Q (o :: rest) fr L := TL_skip hg hj hl hu hd hn h
theorem qcT {c : Operand} {x y : Code} (hc : ev fr c = some (.bool true)) (h : T P n W x Q fr L) : T P n W (.cond c x y) Q fr L := T_condT hc h
theorem qcF {c : Operand} {x y : Code} (hc : ev fr c = some (.bool false)) (h : T P n W y Q fr L) : T P n W (.cond c x y) Q fr L := T_condF hc h
theorem qT {p : Prop} [inst : Decidable p] (h : p) : decide p = true := decide_eq_true h
theorem qF {p : Prop} [inst : Decidable p] (h : ¬ p) : decide p = false := decide_eq_false h
variable {dst : Option Tmp} {ty : TypeId} {pos : String} {after : Array Edge} {guard : Option (Nat × Bool)}
theorem qlen {t e : TypeId} {x : Operand} {p : Option Addr} {m cap : Nat} (ht : P.underlying t = some (.slice e)) (hx : ev fr x = some (.slice p m cap)) : RR P n W ⟨dst, .call { callee := .builtin .len, args := #[x], argTypes := #[t] }, ty, pos, after, guard⟩ fr L (.int .i64 m) := rr_len ht hx
theorem qfld {s : TypeId} {x : Operand} {f o b off r : Nat} (hf : Fld P s f o) (hx : ev fr x = some (.pointer (some ⟨b, off, none⟩))) (hr : off + o = r) : RR P n W ⟨dst, .fieldAddr s x f, ty, pos, after, guard⟩ fr L (.pointer (some ⟨b, r, none⟩)) := rr_field hf hx hr
end
/-! ### the same, short: what is plain is found -/
section
variable {P : Program} {n : Nat} {W : Base} {fr : Fr} {L : List Own} {Q : Exit → Act → World → Prop} {ops : Array Oper} {rest : List Oper} {d : Nat} {o : Oper} {v : Value} {dst : Option Tmp} {ty : TypeId} {pos : String} {after : Array Edge} {guard : Option (Nat × Bool)} {t u : TypeId} {x y : Operand} {k : IntKind} {m m' : Int}
theorem QV (hr : RR P n W o fr L v) (h : TL P n W ops Q rest ((d, v) :: fr) L) (hg : o.guard = none := by exact rfl) (hd : o.dst = some d := by exact rfl) (hn : Nat.blt d n = true := by exact rfl) : TL P n W ops Q (o :: rest) fr L := TL_val hr hg hd hn h
theorem QP {op : Op} (h : pureV fr op = some v := by exact rfl) : RR P n W ⟨dst, op, ty, pos, after, guard⟩ fr L v := qp h
theorem QS {l : List UInt8} (hx : ev fr x = some (str l) := by exact rfl) (ht : P.underlying t = some .string := by exact Und.eq) : RR P n W ⟨dst, .call { callee := .builtin .len, args := #[x], argTypes := #[t] }, ty, pos, after, guard⟩ fr L (.int .i64 l.length) := rr_strlen ht hx
theorem QL {e : TypeId} {p : Option Addr} {m cap : Nat} (hx : ev fr x = some (.slice p m cap) := by exact rfl) (ht : P.underlying t = some (.slice e) := by exact Und.eq) : RR P n W ⟨dst, .call { callee := .builtin .len, args := #[x], argTypes := #[t] }, ty, pos, after, guard⟩ fr L (.int .i64 m) := qlen ht hx
theorem QA {s : TypeId} {f o b off r : Nat} (hx : ev fr x = some (.pointer (some ⟨b, off, none⟩)) := by exact rfl) (hf : Fld P s f o := by exact FldC.fld) (hr : off + o = r := by exact rfl) : RR P n W ⟨dst, .fieldAddr s x f, ty, pos, after, guard⟩ fr L (.pointer (some ⟨b, r, none⟩)) := rr_field hf hx hr
theorem QlT (hx : ev fr x = some (.int k m) := by exact rfl) (hy : ev fr y = some (.int k m') := by exact rfl) (h : m < m' := by omega) : RR P n W ⟨dst, .binOp .lss t x y u, ty, pos, after, guard⟩ fr L (.bool true) := rr_lss hx hy (decide_eq_true h)
theorem QlF (hx : ev fr x = some (.int k m) := by exact rfl) (hy : ev fr y = some (.int k m') := by exact rfl) (h : ¬ (m < m') := by omega) : RR P n W ⟨dst, .binOp .lss t x y u, ty, pos, after, guard⟩ fr L (.bool false) := rr_lss hx hy (decide_eq_false h)
theorem QmT (hx : ev fr x = some (.int k m) := by exact rfl) (hy : ev fr y = some (.int k m') := by exact rfl) (h : m ≤ m' := by omega) : RR P n W ⟨dst, .binOp .leq t x y u, ty, pos, after, guard⟩ fr L (.bool true) := rr_leq hx hy (decide_eq_true h)
theorem QmF (hx : ev fr x = some (.int k m) := by exact rfl) (hy : ev fr y = some (.int k m') := by exact rfl) (h : ¬ (m ≤ m') := by omega) : RR P n W ⟨dst, .binOp .leq t x y u, ty, pos, after, guard⟩ fr L (.bool false) := rr_leq hx hy (decide_eq_false h)
theorem QgT (hx : ev fr x = some (.int k m) := by exact rfl) (hy : ev fr y = some (.int k m') := by exact rfl) (h : m' < m := by omega) : RR P n W ⟨dst, .binOp .gtr t x y u, ty, pos, after, guard⟩ fr L (.bool true) := rr_gtr hx hy (decide_eq_true h)
theorem QgF (hx : ev fr x = some (.int k m) := by exact rfl) (hy : ev fr y = some (.int k m') := by exact rfl) (h : ¬ (m' < m) := by omega) : RR P n W ⟨dst, .binOp .gtr t x y u, ty, pos, after, guard⟩ fr L (.bool false) := rr_gtr hx hy (decide_eq_false h)
theorem QhT (hx : ev fr x = some (.int k m) := by exact rfl) (hy : ev fr y = some (.int k m') := by exact rfl) (h : m' ≤ m := by omega) : RR P n W ⟨dst, .binOp .geq t x y u, ty, pos, after, guard⟩ fr L (.bool true) := rr_geq hx hy (decide_eq_true h)
theorem QhF (hx : ev fr x = some (.int k m) := by exact rfl) (hy : ev fr y = some (.int k m') := by exact rfl) (h : ¬ (m' ≤ m) := by omega) : RR P n W ⟨dst, .binOp .geq t x y u, ty, pos, after, guard⟩ fr L (.bool false) := rr_geq hx hy (decide_eq_false h)
theorem QeT (hx : ev fr x = some (.int k m) := by exact rfl) (hy : ev fr y = some (.int k m') := by exact rfl) (h : m = m' := by omega) : RR P n W ⟨dst, .binOp .eql t x y u, ty, pos, after, guard⟩ fr L (.bool true) := rr_eql hx hy (decide_eq_true h)
theorem QeF (hx : ev fr x = some (.int k m) := by exact rfl) (hy : ev fr y = some (.int k m') := by exact rfl) (h : ¬ (m = m') := by omega) : RR P n W ⟨dst, .binOp .eql t x y u, ty, pos, after, guard⟩ fr L (.bool false) := rr_eql hx hy (decide_eq_false h)
theorem QnT (hx : ev fr x = some (.int k m) := by exact rfl) (hy : ev fr y = some (.int k m') := by exact rfl) (h : m ≠ m' := by omega) : RR P n W ⟨dst, .binOp .neq t x y u, ty, pos, after, guard⟩ fr L (.bool true) := rr_neq hx hy (decide_eq_true h)
theorem QnF (hx : ev fr x = some (.int k m) := by exact rfl) (hy : ev fr y = some (.int k m') := by exact rfl) (h : ¬ (m ≠ m') := by omega) : RR P n W ⟨dst, .binOp .neq t x y u, ty, pos, after, guard⟩ fr L (.bool false) := rr_neq hx hy (decide_eq_false h)
theorem QaA {r : Int} (hx : ev fr x = some (.int .i64 m) := by exact rfl) (hy : ev fr y = some (.int .i64 m') := by exact rfl) (h0 : -9223372036854775808 ≤ m + m' := by omega) (h1 : m + m' ≤ 9223372036854775807 := by omega) (hr : m + m' = r := by exact rfl) : RR P n W ⟨dst, .binOp .add t x y u, ty, pos, after, guard⟩ fr L (.int .i64 r) := rr_add64 hx hy h0 h1 hr
theorem QaS {r : Int} (hx : ev fr x = some (.int .i64 m) := by exact rfl) (hy : ev fr y = some (.int .i64 m') := by exact rfl) (h0 : -9223372036854775808 ≤ m - m' := by omega) (h1 : m - m' ≤ 9223372036854775807 := by omega) (hr : m - m' = r := by exact rfl) : RR P n W ⟨dst, .binOp .sub t x y u, ty, pos, after, guard⟩ fr L (.int .i64 r) := rr_sub64 hx hy h0 h1 hr
theorem QaM {r : Int} (hx : ev fr x = some (.int .i64 m) := by exact rfl) (hy : ev fr y = some (.int .i64 m') := by exact rfl) (h0 : -9223372036854775808 ≤ m * m' := by omega) (h1 : m * m' ≤ 9223372036854775807 := by omega) (hr : m * m' = r := by exact rfl) : RR P n W ⟨dst, .binOp .mul t x y u, ty, pos, after, guard⟩ fr L (.int .i64 r) := rr_mul64 hx hy h0 h1 hr
end
/-- code that just goes on -/
class Cd (p : Prop) (q : outParam Prop) : Prop where
  go : q → p
theorem QZ {p q : Prop} [h : Cd p q] (x : q) : p := h.go x
section
variable {P : Program} {n : Nat} {W : Base} {fr : Fr} {L : List Own} {Q : Exit → Act → World → Prop} {ops : Array Oper} {x y : Code} {id : Nat} {l : List Oper} {K : Act → World → Prop}
instance : Cd (TL P n W ops Q [] fr L) (E n W .normal Q fr L) := ⟨TL_nil⟩
instance : Cd (T P n W (x.seq y) Q fr L) (T P n W x (Exit.then (y.wp P Q) Q) fr L) := ⟨T_seq⟩
instance : Cd (T P n W (.region id l.toArray false) Q fr L) (TL P n W l.toArray Q l fr L) := ⟨T_region⟩
instance : Cd (T P n W .skip Q fr L) (E n W .normal Q fr L) := ⟨T_skip⟩
instance : Cd (T P n W (.exit id) Q fr L) (E n W (.exit id) Q fr L) := ⟨T_exit⟩
instance : Cd (T P n W .ret Q fr L) (E n W .ret Q fr L) := ⟨T_ret⟩
instance : Cd (T P n W (.block id x) Q fr L) (T P n W x (Exit.inBlock id Q) fr L) := ⟨T_block⟩
instance : Cd (E n W .normal (Exit.then (y.wp P Q) Q) fr L) (T P n W y Q fr L) := ⟨E_then⟩
instance : Cd (E n W (.exit id) (Exit.then K Q) fr L) (E n W (.exit id) Q fr L) := ⟨E_thenX⟩
instance : Cd (E n W .ret (Exit.then K Q) fr L) (E n W .ret Q fr L) := ⟨E_thenR⟩
instance : Cd (E n W .normal (Exit.inBlock id Q) fr L) (E n W .normal Q fr L) := ⟨E_blockN⟩
instance : Cd (E n W .ret (Exit.inBlock id Q) fr L) (E n W .ret Q fr L) := ⟨E_blockR⟩
end
section
variable {α β : Type}
theorem zA {a : α} {l m : List α} : a :: l ++ m = a :: (l ++ m) := rfl
theorem zB {l : List α} : [] ++ l = l := rfl
theorem zC {l : List α} : l ++ [] = l := List.append_nil l
theorem zD {f : α → Option β} {a : α} {l : List α} : List.filterMap f (a :: l) = match f a with
    | none => List.filterMap f l
    | some b => b :: List.filterMap f l := List.filterMap_cons
theorem zE {f : α → Option β} : List.filterMap f [] = [] := rfl
theorem zF {a : α} {l : List α} {i : Nat} : (a :: l)[i + 1]? = l[i]? := List.getElem?_cons_succ
theorem zG {a : α} {l : List α} : (a :: l)[0]? = some a := rfl
theorem zH {a b : α} {l : List α} : (a :: l).set 0 b = b :: l := rfl
theorem zI {a b : α} {l : List α} {i : Nat} : (a :: l).set (i + 1) b = a :: l.set i b := rfl
end
end Go.Proofs.Ytlojfbnimmdehaa.eng

/- Ty -/
namespace Go.Proofs.Ytlojfbnimmdehaa.eng
instance : Und Try.prog 2 (.int .i64) := ⟨Try.underlying2⟩
instance : TyC Try.prog 2 false 1 := ⟨Ty.of (by kernel_rfl)⟩
instance : ZeroC Try.prog 2 #[.int .i64 0] := ⟨by kernel_rfl⟩
instance : Und Try.prog 3 (.int .i64) := ⟨Try.underlying3⟩
instance : TyC Try.prog 3 false 1 := ⟨Ty.of (by kernel_rfl)⟩
instance : ZeroC Try.prog 3 #[.int .i64 0] := ⟨by kernel_rfl⟩
instance : Und Try.prog 4 (.bool) := ⟨Try.underlying4⟩
instance : TyC Try.prog 4 false 1 := ⟨Ty.of (by kernel_rfl)⟩
instance : ZeroC Try.prog 4 #[.bool false] := ⟨by kernel_rfl⟩
instance : Und Try.prog 5 (.int .u8) := ⟨Try.underlying5⟩
instance : TyC Try.prog 5 false 1 := ⟨Ty.of (by kernel_rfl)⟩
instance : ZeroC Try.prog 5 #[.int .u8 0] := ⟨by kernel_rfl⟩
instance : FldC Try.prog 7 0 0 := ⟨Fld.of (by kernel_rfl)⟩
instance : FldC Try.prog 7 1 1 := ⟨Fld.of (by kernel_rfl)⟩
instance : FldC Try.prog 7 2 2 := ⟨Fld.of (by kernel_rfl)⟩
instance : FldC Try.prog 7 3 3 := ⟨Fld.of (by kernel_rfl)⟩
instance : TyC Try.prog 7 true 4 := ⟨Ty.of (by kernel_rfl)⟩
instance : ZeroC Try.prog 7 #[.int .i64 0, .int .i64 0, .bool false, .int .u8 0] := ⟨by kernel_rfl⟩
instance : Und Try.prog 9 (.string) := ⟨Try.underlying9⟩
instance : TyC Try.prog 9 false 1 := ⟨Ty.of (by kernel_rfl)⟩
instance : ZeroC Try.prog 9 #[.string ⟨#[]⟩] := ⟨by kernel_rfl⟩
instance : Und Try.prog 12 (.int .u64) := ⟨Try.underlying12⟩
instance : TyC Try.prog 12 false 1 := ⟨Ty.of (by kernel_rfl)⟩
instance : ZeroC Try.prog 12 #[.int .u64 0] := ⟨by kernel_rfl⟩
instance : FldC Try.prog 13 0 0 := ⟨Fld.of (by kernel_rfl)⟩
instance : FldC Try.prog 13 1 1 := ⟨Fld.of (by kernel_rfl)⟩
instance : TyC Try.prog 13 true 2 := ⟨Ty.of (by kernel_rfl)⟩
instance : ZeroC Try.prog 13 #[.string ⟨#[]⟩, .int .u64 0] := ⟨by kernel_rfl⟩
instance : Und Try.prog 21 (.int .i32) := ⟨Try.underlying21⟩
instance : TyC Try.prog 21 false 1 := ⟨Ty.of (by kernel_rfl)⟩
instance : ZeroC Try.prog 21 #[.int .i32 0] := ⟨by kernel_rfl⟩
instance : Und Try.prog 22 (.slice 68) := ⟨Try.underlying22⟩
instance : TyC Try.prog 22 false 1 := ⟨Ty.of (by kernel_rfl)⟩
instance : ElC Try.prog 22 68 2 32 := ⟨El.of (by kernel_rfl)⟩
instance : ZeroC Try.prog 22 #[.slice none 0 0] := ⟨by kernel_rfl⟩
instance : FldC Try.prog 23 0 0 := ⟨Fld.of (by kernel_rfl)⟩
instance : FldC Try.prog 23 1 1 := ⟨Fld.of (by kernel_rfl)⟩
instance : FldC Try.prog 23 2 2 := ⟨Fld.of (by kernel_rfl)⟩
instance : TyC Try.prog 23 true 3 := ⟨Ty.of (by kernel_rfl)⟩
instance : ZeroC Try.prog 23 #[.int .i64 0, .int .i64 0, .slice none 0 0] := ⟨by kernel_rfl⟩
instance : FldC Try.prog 24 0 0 := ⟨Fld.of (by kernel_rfl)⟩
instance : FldC Try.prog 24 1 1 := ⟨Fld.of (by kernel_rfl)⟩
instance : FldC Try.prog 24 2 2 := ⟨Fld.of (by kernel_rfl)⟩
instance : TyC Try.prog 24 true 3 := ⟨Ty.of (by kernel_rfl)⟩
instance : ZeroC Try.prog 24 #[.int .i64 0, .int .i64 0, .slice none 0 0] := ⟨by kernel_rfl⟩
instance : Und Try.prog 25 (.slice 3) := ⟨Try.underlying25⟩
instance : TyC Try.prog 25 false 1 := ⟨Ty.of (by kernel_rfl)⟩
instance : ElC Try.prog 25 3 1 8 := ⟨El.of (by kernel_rfl)⟩
instance : ZeroC Try.prog 25 #[.slice none 0 0] := ⟨by kernel_rfl⟩
instance : Und Try.prog 26 (.slice 86) := ⟨Try.underlying26⟩
instance : TyC Try.prog 26 false 1 := ⟨Ty.of (by kernel_rfl)⟩
instance : ElC Try.prog 26 86 1 24 := ⟨El.of (by kernel_rfl)⟩
instance : ZeroC Try.prog 26 #[.slice none 0 0] := ⟨by kernel_rfl⟩
instance : Und Try.prog 27 (.slice 25) := ⟨Try.underlying27⟩
instance : TyC Try.prog 27 false 1 := ⟨Ty.of (by kernel_rfl)⟩
instance : ElC Try.prog 27 25 1 24 := ⟨El.of (by kernel_rfl)⟩
instance : ZeroC Try.prog 27 #[.slice none 0 0] := ⟨by kernel_rfl⟩
instance : FldC Try.prog 28 0 0 := ⟨Fld.of (by kernel_rfl)⟩
instance : FldC Try.prog 28 1 1 := ⟨Fld.of (by kernel_rfl)⟩
instance : TyC Try.prog 28 true 2 := ⟨Ty.of (by kernel_rfl)⟩
instance : ZeroC Try.prog 28 #[.slice none 0 0, .slice none 0 0] := ⟨by kernel_rfl⟩
instance : FldC Try.prog 29 0 0 := ⟨Fld.of (by kernel_rfl)⟩
instance : FldC Try.prog 29 1 1 := ⟨Fld.of (by kernel_rfl)⟩
instance : TyC Try.prog 29 true 2 := ⟨Ty.of (by kernel_rfl)⟩
instance : ZeroC Try.prog 29 #[.slice none 0 0, .slice none 0 0] := ⟨by kernel_rfl⟩
instance : Und Try.prog 33 (.int .i64) := ⟨Try.underlying33⟩
instance : TyC Try.prog 33 false 1 := ⟨Ty.of (by kernel_rfl)⟩
instance : ZeroC Try.prog 33 #[.int .i64 0] := ⟨by kernel_rfl⟩
instance : Und Try.prog 38 (.slice 4) := ⟨Try.underlying38⟩
instance : TyC Try.prog 38 false 1 := ⟨Ty.of (by kernel_rfl)⟩
instance : ElC Try.prog 38 4 1 1 := ⟨El.of (by kernel_rfl)⟩
instance : ZeroC Try.prog 38 #[.slice none 0 0] := ⟨by kernel_rfl⟩
instance : Und Try.prog 39 (.slice 97) := ⟨Try.underlying39⟩
instance : TyC Try.prog 39 false 1 := ⟨Ty.of (by kernel_rfl)⟩
instance : ElC Try.prog 39 97 1 8 := ⟨El.of (by kernel_rfl)⟩
instance : ZeroC Try.prog 39 #[.slice none 0 0] := ⟨by kernel_rfl⟩
instance : FldC Try.prog 40 0 0 := ⟨Fld.of (by kernel_rfl)⟩
instance : FldC Try.prog 40 1 1 := ⟨Fld.of (by kernel_rfl)⟩
instance : FldC Try.prog 40 2 2 := ⟨Fld.of (by kernel_rfl)⟩
instance : FldC Try.prog 40 3 3 := ⟨Fld.of (by kernel_rfl)⟩
instance : FldC Try.prog 40 4 4 := ⟨Fld.of (by kernel_rfl)⟩
instance : TyC Try.prog 40 true 5 := ⟨Ty.of (by kernel_rfl)⟩
instance : ZeroC Try.prog 40 #[.slice none 0 0, .slice none 0 0, .slice none 0 0, .slice none 0 0, .slice none 0 0] := ⟨by kernel_rfl⟩
instance : FldC Try.prog 41 0 0 := ⟨Fld.of (by kernel_rfl)⟩
instance : FldC Try.prog 41 1 1 := ⟨Fld.of (by kernel_rfl)⟩
instance : FldC Try.prog 41 2 2 := ⟨Fld.of (by kernel_rfl)⟩
instance : FldC Try.prog 41 3 3 := ⟨Fld.of (by kernel_rfl)⟩
instance : FldC Try.prog 41 4 4 := ⟨Fld.of (by kernel_rfl)⟩
instance : TyC Try.prog 41 true 5 := ⟨Ty.of (by kernel_rfl)⟩
instance : ZeroC Try.prog 41 #[.slice none 0 0, .slice none 0 0, .slice none 0 0, .slice none 0 0, .slice none 0 0] := ⟨by kernel_rfl⟩
instance : Und Try.prog 47 (.slice 108) := ⟨Try.underlying47⟩
instance : TyC Try.prog 47 false 1 := ⟨Ty.of (by kernel_rfl)⟩
instance : ElC Try.prog 47 108 6 48 := ⟨El.of (by kernel_rfl)⟩
instance : ZeroC Try.prog 47 #[.slice none 0 0] := ⟨by kernel_rfl⟩
instance : Und Try.prog 51 (.slice 60) := ⟨Try.underlying51⟩
instance : TyC Try.prog 51 false 1 := ⟨Ty.of (by kernel_rfl)⟩
instance : ElC Try.prog 51 60 3 24 := ⟨El.of (by kernel_rfl)⟩
instance : ZeroC Try.prog 51 #[.slice none 0 0] := ⟨by kernel_rfl⟩
instance : Und Try.prog 55 (.slice 116) := ⟨Try.underlying55⟩
instance : TyC Try.prog 55 false 1 := ⟨Ty.of (by kernel_rfl)⟩
instance : ElC Try.prog 55 116 4 32 := ⟨El.of (by kernel_rfl)⟩
instance : ZeroC Try.prog 55 #[.slice none 0 0] := ⟨by kernel_rfl⟩
instance : FldC Try.prog 59 0 0 := ⟨Fld.of (by kernel_rfl)⟩
instance : FldC Try.prog 59 1 1 := ⟨Fld.of (by kernel_rfl)⟩
instance : FldC Try.prog 59 2 2 := ⟨Fld.of (by kernel_rfl)⟩
instance : TyC Try.prog 59 true 3 := ⟨Ty.of (by kernel_rfl)⟩
instance : ZeroC Try.prog 59 #[.int .i64 0, .int .i64 0, .int .i64 0] := ⟨by kernel_rfl⟩
instance : FldC Try.prog 60 0 0 := ⟨Fld.of (by kernel_rfl)⟩
instance : FldC Try.prog 60 1 1 := ⟨Fld.of (by kernel_rfl)⟩
instance : FldC Try.prog 60 2 2 := ⟨Fld.of (by kernel_rfl)⟩
instance : TyC Try.prog 60 true 3 := ⟨Ty.of (by kernel_rfl)⟩
instance : ZeroC Try.prog 60 #[.int .i64 0, .int .i64 0, .int .i64 0] := ⟨by kernel_rfl⟩
instance : Und Try.prog 66 (.slice 71) := ⟨Try.underlying66⟩
instance : TyC Try.prog 66 false 1 := ⟨Ty.of (by kernel_rfl)⟩
instance : ElC Try.prog 66 71 2 16 := ⟨El.of (by kernel_rfl)⟩
instance : ZeroC Try.prog 66 #[.slice none 0 0] := ⟨by kernel_rfl⟩
instance : FldC Try.prog 67 0 0 := ⟨Fld.of (by kernel_rfl)⟩
instance : FldC Try.prog 67 1 1 := ⟨Fld.of (by kernel_rfl)⟩
instance : TyC Try.prog 67 true 2 := ⟨Ty.of (by kernel_rfl)⟩
instance : ZeroC Try.prog 67 #[.int .i64 0, .slice none 0 0] := ⟨by kernel_rfl⟩
instance : FldC Try.prog 68 0 0 := ⟨Fld.of (by kernel_rfl)⟩
instance : FldC Try.prog 68 1 1 := ⟨Fld.of (by kernel_rfl)⟩
instance : TyC Try.prog 68 true 2 := ⟨Ty.of (by kernel_rfl)⟩
instance : ZeroC Try.prog 68 #[.int .i64 0, .slice none 0 0] := ⟨by kernel_rfl⟩
instance : FldC Try.prog 70 0 0 := ⟨Fld.of (by kernel_rfl)⟩
instance : FldC Try.prog 70 1 1 := ⟨Fld.of (by kernel_rfl)⟩
instance : TyC Try.prog 70 true 2 := ⟨Ty.of (by kernel_rfl)⟩
instance : ZeroC Try.prog 70 #[.int .i64 0, .int .i64 0] := ⟨by kernel_rfl⟩
instance : FldC Try.prog 71 0 0 := ⟨Fld.of (by kernel_rfl)⟩
instance : FldC Try.prog 71 1 1 := ⟨Fld.of (by kernel_rfl)⟩
instance : TyC Try.prog 71 true 2 := ⟨Ty.of (by kernel_rfl)⟩
instance : ZeroC Try.prog 71 #[.int .i64 0, .int .i64 0] := ⟨by kernel_rfl⟩
instance : Und Try.prog 75 (.slice 82) := ⟨Try.underlying75⟩
instance : TyC Try.prog 75 false 1 := ⟨Ty.of (by kernel_rfl)⟩
instance : ElC Try.prog 75 82 2 16 := ⟨El.of (by kernel_rfl)⟩
instance : ZeroC Try.prog 75 #[.slice none 0 0] := ⟨by kernel_rfl⟩
instance : FldC Try.prog 82 0 0 := ⟨Fld.of (by kernel_rfl)⟩
instance : FldC Try.prog 82 1 1 := ⟨Fld.of (by kernel_rfl)⟩
instance : TyC Try.prog 82 true 2 := ⟨Ty.of (by kernel_rfl)⟩
instance : ZeroC Try.prog 82 #[.int .i64 0, .int .i64 0] := ⟨by kernel_rfl⟩
instance : Und Try.prog 86 (.slice 87) := ⟨Try.underlying86⟩
instance : TyC Try.prog 86 false 1 := ⟨Ty.of (by kernel_rfl)⟩
instance : ElC Try.prog 86 87 2 16 := ⟨El.of (by kernel_rfl)⟩
instance : ZeroC Try.prog 86 #[.slice none 0 0] := ⟨by kernel_rfl⟩
instance : FldC Try.prog 87 0 0 := ⟨Fld.of (by kernel_rfl)⟩
instance : FldC Try.prog 87 1 1 := ⟨Fld.of (by kernel_rfl)⟩
instance : TyC Try.prog 87 true 2 := ⟨Ty.of (by kernel_rfl)⟩
instance : ZeroC Try.prog 87 #[.int .i64 0, .int .i64 0] := ⟨by kernel_rfl⟩
instance : Und Try.prog 90 (.map 96 3) := ⟨Try.underlying90⟩
instance : TyC Try.prog 90 false 1 := ⟨Ty.of (by kernel_rfl)⟩
instance : ZeroC Try.prog 90 #[.map none] := ⟨by kernel_rfl⟩
instance : FldC Try.prog 91 0 0 := ⟨Fld.of (by kernel_rfl)⟩
instance : FldC Try.prog 91 1 3 := ⟨Fld.of (by kernel_rfl)⟩
instance : FldC Try.prog 91 2 4 := ⟨Fld.of (by kernel_rfl)⟩
instance : TyC Try.prog 91 true 5 := ⟨Ty.of (by kernel_rfl)⟩
instance : ZeroC Try.prog 91 #[.int .i64 0, .int .i64 0, .slice none 0 0, .slice none 0 0, .map none] := ⟨by kernel_rfl⟩
instance : FldC Try.prog 92 0 0 := ⟨Fld.of (by kernel_rfl)⟩
instance : FldC Try.prog 92 1 3 := ⟨Fld.of (by kernel_rfl)⟩
instance : FldC Try.prog 92 2 4 := ⟨Fld.of (by kernel_rfl)⟩
instance : TyC Try.prog 92 true 5 := ⟨Ty.of (by kernel_rfl)⟩
instance : ZeroC Try.prog 92 #[.int .i64 0, .int .i64 0, .slice none 0 0, .slice none 0 0, .map none] := ⟨by kernel_rfl⟩
instance : Und Try.prog 93 (.pointer 92) := ⟨Try.underlying93⟩
instance : TyC Try.prog 93 false 1 := ⟨Ty.of (by kernel_rfl)⟩
instance : ZeroC Try.prog 93 #[.pointer none] := ⟨by kernel_rfl⟩
instance : FldC Try.prog 95 0 0 := ⟨Fld.of (by kernel_rfl)⟩
instance : FldC Try.prog 95 1 1 := ⟨Fld.of (by kernel_rfl)⟩
instance : FldC Try.prog 95 2 2 := ⟨Fld.of (by kernel_rfl)⟩
instance : TyC Try.prog 95 true 3 := ⟨Ty.of (by kernel_rfl)⟩
instance : ZeroC Try.prog 95 #[.int .i64 0, .int .i64 0, .int .i64 0] := ⟨by kernel_rfl⟩
instance : FldC Try.prog 96 0 0 := ⟨Fld.of (by kernel_rfl)⟩
instance : FldC Try.prog 96 1 1 := ⟨Fld.of (by kernel_rfl)⟩
instance : FldC Try.prog 96 2 2 := ⟨Fld.of (by kernel_rfl)⟩
instance : TyC Try.prog 96 true 3 := ⟨Ty.of (by kernel_rfl)⟩
instance : ZeroC Try.prog 96 #[.int .i64 0, .int .i64 0, .int .i64 0] := ⟨by kernel_rfl⟩
instance : Und Try.prog 97 (.int .u64) := ⟨Try.underlying97⟩
instance : TyC Try.prog 97 false 1 := ⟨Ty.of (by kernel_rfl)⟩
instance : ZeroC Try.prog 97 #[.int .u64 0] := ⟨by kernel_rfl⟩
instance : Und Try.prog 101 (.slice 51) := ⟨Try.underlying101⟩
instance : TyC Try.prog 101 false 1 := ⟨Ty.of (by kernel_rfl)⟩
instance : ElC Try.prog 101 51 1 24 := ⟨El.of (by kernel_rfl)⟩
instance : ZeroC Try.prog 101 #[.slice none 0 0] := ⟨by kernel_rfl⟩
instance : FldC Try.prog 102 0 0 := ⟨Fld.of (by kernel_rfl)⟩
instance : FldC Try.prog 102 1 1 := ⟨Fld.of (by kernel_rfl)⟩
instance : TyC Try.prog 102 true 2 := ⟨Ty.of (by kernel_rfl)⟩
instance : ZeroC Try.prog 102 #[.slice none 0 0, .slice none 0 0] := ⟨by kernel_rfl⟩
instance : FldC Try.prog 103 0 0 := ⟨Fld.of (by kernel_rfl)⟩
instance : FldC Try.prog 103 1 1 := ⟨Fld.of (by kernel_rfl)⟩
instance : TyC Try.prog 103 true 2 := ⟨Ty.of (by kernel_rfl)⟩
instance : ZeroC Try.prog 103 #[.slice none 0 0, .slice none 0 0] := ⟨by kernel_rfl⟩
instance : FldC Try.prog 107 0 0 := ⟨Fld.of (by kernel_rfl)⟩
instance : FldC Try.prog 107 1 1 := ⟨Fld.of (by kernel_rfl)⟩
instance : FldC Try.prog 107 2 2 := ⟨Fld.of (by kernel_rfl)⟩
instance : FldC Try.prog 107 3 4 := ⟨Fld.of (by kernel_rfl)⟩
instance : TyC Try.prog 107 true 6 := ⟨Ty.of (by kernel_rfl)⟩
instance : ZeroC Try.prog 107 #[.int .i64 0, .int .i64 0, .int .i64 0, .int .i64 0, .int .i64 0, .int .i64 0] := ⟨by kernel_rfl⟩
instance : FldC Try.prog 108 0 0 := ⟨Fld.of (by kernel_rfl)⟩
instance : FldC Try.prog 108 1 1 := ⟨Fld.of (by kernel_rfl)⟩
instance : FldC Try.prog 108 2 2 := ⟨Fld.of (by kernel_rfl)⟩
instance : FldC Try.prog 108 3 4 := ⟨Fld.of (by kernel_rfl)⟩
instance : TyC Try.prog 108 true 6 := ⟨Ty.of (by kernel_rfl)⟩
instance : ZeroC Try.prog 108 #[.int .i64 0, .int .i64 0, .int .i64 0, .int .i64 0, .int .i64 0, .int .i64 0] := ⟨by kernel_rfl⟩
instance : FldC Try.prog 115 0 0 := ⟨Fld.of (by kernel_rfl)⟩
instance : FldC Try.prog 115 1 1 := ⟨Fld.of (by kernel_rfl)⟩
instance : FldC Try.prog 115 2 2 := ⟨Fld.of (by kernel_rfl)⟩
instance : FldC Try.prog 115 3 3 := ⟨Fld.of (by kernel_rfl)⟩
instance : TyC Try.prog 115 true 4 := ⟨Ty.of (by kernel_rfl)⟩
instance : ZeroC Try.prog 115 #[.int .i64 0, .int .i64 0, .int .i64 0, .int .i64 0] := ⟨by kernel_rfl⟩
instance : FldC Try.prog 116 0 0 := ⟨Fld.of (by kernel_rfl)⟩
instance : FldC Try.prog 116 1 1 := ⟨Fld.of (by kernel_rfl)⟩
instance : FldC Try.prog 116 2 2 := ⟨Fld.of (by kernel_rfl)⟩
instance : FldC Try.prog 116 3 3 := ⟨Fld.of (by kernel_rfl)⟩
instance : TyC Try.prog 116 true 4 := ⟨Ty.of (by kernel_rfl)⟩
instance : ZeroC Try.prog 116 #[.int .i64 0, .int .i64 0, .int .i64 0, .int .i64 0] := ⟨by kernel_rfl⟩
instance : Und Try.prog 118 (.pointer 164) := ⟨Try.underlying118⟩
instance : TyC Try.prog 118 false 1 := ⟨Ty.of (by kernel_rfl)⟩
instance : ZeroC Try.prog 118 #[.pointer none] := ⟨by kernel_rfl⟩
instance : FldC Try.prog 124 0 0 := ⟨Fld.of (by kernel_rfl)⟩
instance : FldC Try.prog 124 1 1 := ⟨Fld.of (by kernel_rfl)⟩
instance : FldC Try.prog 124 2 2 := ⟨Fld.of (by kernel_rfl)⟩
instance : FldC Try.prog 124 3 3 := ⟨Fld.of (by kernel_rfl)⟩
instance : TyC Try.prog 124 true 4 := ⟨Ty.of (by kernel_rfl)⟩
instance : ZeroC Try.prog 124 #[.slice none 0 0, .int .i64 0, .int .i64 0, .bool false] := ⟨by kernel_rfl⟩
instance : FldC Try.prog 125 0 0 := ⟨Fld.of (by kernel_rfl)⟩
instance : FldC Try.prog 125 1 1 := ⟨Fld.of (by kernel_rfl)⟩
instance : FldC Try.prog 125 2 2 := ⟨Fld.of (by kernel_rfl)⟩
instance : FldC Try.prog 125 3 3 := ⟨Fld.of (by kernel_rfl)⟩
instance : TyC Try.prog 125 true 4 := ⟨Ty.of (by kernel_rfl)⟩
instance : ZeroC Try.prog 125 #[.slice none 0 0, .int .i64 0, .int .i64 0, .bool false] := ⟨by kernel_rfl⟩
instance : Und Try.prog 132 (.slice 179) := ⟨Try.underlying132⟩
instance : TyC Try.prog 132 false 1 := ⟨Ty.of (by kernel_rfl)⟩
instance : ElC Try.prog 132 179 4 32 := ⟨El.of (by kernel_rfl)⟩
instance : ZeroC Try.prog 132 #[.slice none 0 0] := ⟨by kernel_rfl⟩
instance : FldC Try.prog 133 0 0 := ⟨Fld.of (by kernel_rfl)⟩
instance : FldC Try.prog 133 1 1 := ⟨Fld.of (by kernel_rfl)⟩
instance : FldC Try.prog 133 2 2 := ⟨Fld.of (by kernel_rfl)⟩
instance : FldC Try.prog 133 3 3 := ⟨Fld.of (by kernel_rfl)⟩
instance : TyC Try.prog 133 true 4 := ⟨Ty.of (by kernel_rfl)⟩
instance : ZeroC Try.prog 133 #[.slice none 0 0, .int .i64 0, .int .i64 0, .bool false] := ⟨by kernel_rfl⟩
instance : FldC Try.prog 134 0 0 := ⟨Fld.of (by kernel_rfl)⟩
instance : FldC Try.prog 134 1 1 := ⟨Fld.of (by kernel_rfl)⟩
instance : FldC Try.prog 134 2 2 := ⟨Fld.of (by kernel_rfl)⟩
instance : FldC Try.prog 134 3 3 := ⟨Fld.of (by kernel_rfl)⟩
instance : TyC Try.prog 134 true 4 := ⟨Ty.of (by kernel_rfl)⟩
instance : ZeroC Try.prog 134 #[.slice none 0 0, .int .i64 0, .int .i64 0, .bool false] := ⟨by kernel_rfl⟩
instance : Und Try.prog 140 (.slice 142) := ⟨Try.underlying140⟩
instance : TyC Try.prog 140 false 1 := ⟨Ty.of (by kernel_rfl)⟩
instance : ElC Try.prog 140 142 3 40 := ⟨El.of (by kernel_rfl)⟩
instance : ZeroC Try.prog 140 #[.slice none 0 0] := ⟨by kernel_rfl⟩
instance : FldC Try.prog 141 0 0 := ⟨Fld.of (by kernel_rfl)⟩
instance : FldC Try.prog 141 1 1 := ⟨Fld.of (by kernel_rfl)⟩
instance : FldC Try.prog 141 2 2 := ⟨Fld.of (by kernel_rfl)⟩
instance : TyC Try.prog 141 true 3 := ⟨Ty.of (by kernel_rfl)⟩
instance : ZeroC Try.prog 141 #[.int .i64 0, .int .i64 0, .slice none 0 0] := ⟨by kernel_rfl⟩
instance : FldC Try.prog 142 0 0 := ⟨Fld.of (by kernel_rfl)⟩
instance : FldC Try.prog 142 1 1 := ⟨Fld.of (by kernel_rfl)⟩
instance : FldC Try.prog 142 2 2 := ⟨Fld.of (by kernel_rfl)⟩
instance : TyC Try.prog 142 true 3 := ⟨Ty.of (by kernel_rfl)⟩
instance : ZeroC Try.prog 142 #[.int .i64 0, .int .i64 0, .slice none 0 0] := ⟨by kernel_rfl⟩
instance : Und Try.prog 155 (.map 9 3) := ⟨Try.underlying155⟩
instance : TyC Try.prog 155 false 1 := ⟨Ty.of (by kernel_rfl)⟩
instance : ZeroC Try.prog 155 #[.map none] := ⟨by kernel_rfl⟩
instance : Und Try.prog 162 (.map 200 97) := ⟨Try.underlying162⟩
instance : TyC Try.prog 162 false 1 := ⟨Ty.of (by kernel_rfl)⟩
instance : ZeroC Try.prog 162 #[.map none] := ⟨by kernel_rfl⟩
instance : FldC Try.prog 163 0 0 := ⟨Fld.of (by kernel_rfl)⟩
instance : FldC Try.prog 163 1 3 := ⟨Fld.of (by kernel_rfl)⟩
instance : TyC Try.prog 163 true 4 := ⟨Ty.of (by kernel_rfl)⟩
instance : ZeroC Try.prog 163 #[.int .i64 0, .int .i64 0, .slice none 0 0, .map none] := ⟨by kernel_rfl⟩
instance : FldC Try.prog 164 0 0 := ⟨Fld.of (by kernel_rfl)⟩
instance : FldC Try.prog 164 1 3 := ⟨Fld.of (by kernel_rfl)⟩
instance : TyC Try.prog 164 true 4 := ⟨Ty.of (by kernel_rfl)⟩
instance : ZeroC Try.prog 164 #[.int .i64 0, .int .i64 0, .slice none 0 0, .map none] := ⟨by kernel_rfl⟩
instance : Und Try.prog 165 (.map 60 3) := ⟨Try.underlying165⟩
instance : TyC Try.prog 165 false 1 := ⟨Ty.of (by kernel_rfl)⟩
instance : ZeroC Try.prog 165 #[.map none] := ⟨by kernel_rfl⟩
instance : Und Try.prog 176 (.slice 38) := ⟨Try.underlying176⟩
instance : TyC Try.prog 176 false 1 := ⟨Ty.of (by kernel_rfl)⟩
instance : ElC Try.prog 176 38 1 24 := ⟨El.of (by kernel_rfl)⟩
instance : ZeroC Try.prog 176 #[.slice none 0 0] := ⟨by kernel_rfl⟩
instance : FldC Try.prog 178 0 0 := ⟨Fld.of (by kernel_rfl)⟩
instance : FldC Try.prog 178 1 1 := ⟨Fld.of (by kernel_rfl)⟩
instance : FldC Try.prog 178 2 2 := ⟨Fld.of (by kernel_rfl)⟩
instance : TyC Try.prog 178 true 4 := ⟨Ty.of (by kernel_rfl)⟩
instance : ZeroC Try.prog 178 #[.bool false, .int .i64 0, .int .i64 0, .int .i64 0] := ⟨by kernel_rfl⟩
instance : FldC Try.prog 179 0 0 := ⟨Fld.of (by kernel_rfl)⟩
instance : FldC Try.prog 179 1 1 := ⟨Fld.of (by kernel_rfl)⟩
instance : FldC Try.prog 179 2 2 := ⟨Fld.of (by kernel_rfl)⟩
instance : TyC Try.prog 179 true 4 := ⟨Ty.of (by kernel_rfl)⟩
instance : ZeroC Try.prog 179 #[.bool false, .int .i64 0, .int .i64 0, .int .i64 0] := ⟨by kernel_rfl⟩
instance : Und Try.prog 182 (.pointer 186) := ⟨Try.underlying182⟩
instance : TyC Try.prog 182 false 1 := ⟨Ty.of (by kernel_rfl)⟩
instance : ZeroC Try.prog 182 #[.pointer none] := ⟨by kernel_rfl⟩
instance : FldC Try.prog 185 0 0 := ⟨Fld.of (by kernel_rfl)⟩
instance : FldC Try.prog 185 1 3 := ⟨Fld.of (by kernel_rfl)⟩
instance : FldC Try.prog 185 2 4 := ⟨Fld.of (by kernel_rfl)⟩
instance : FldC Try.prog 185 3 5 := ⟨Fld.of (by kernel_rfl)⟩
instance : TyC Try.prog 185 true 6 := ⟨Ty.of (by kernel_rfl)⟩
instance : ZeroC Try.prog 185 #[.int .i64 0, .int .i64 0, .slice none 0 0, .slice none 0 0, .slice none 0 0, .int .i64 0] := ⟨by kernel_rfl⟩
instance : FldC Try.prog 186 0 0 := ⟨Fld.of (by kernel_rfl)⟩
instance : FldC Try.prog 186 1 3 := ⟨Fld.of (by kernel_rfl)⟩
instance : FldC Try.prog 186 2 4 := ⟨Fld.of (by kernel_rfl)⟩
instance : FldC Try.prog 186 3 5 := ⟨Fld.of (by kernel_rfl)⟩
instance : TyC Try.prog 186 true 6 := ⟨Ty.of (by kernel_rfl)⟩
instance : ZeroC Try.prog 186 #[.int .i64 0, .int .i64 0, .slice none 0 0, .slice none 0 0, .slice none 0 0, .int .i64 0] := ⟨by kernel_rfl⟩
instance : Und Try.prog 191 (.pointer 3) := ⟨Try.underlying191⟩
instance : TyC Try.prog 191 false 1 := ⟨Ty.of (by kernel_rfl)⟩
instance : ZeroC Try.prog 191 #[.pointer none] := ⟨by kernel_rfl⟩
instance : Und Try.prog 198 (.slice 5) := ⟨Try.underlying198⟩
instance : TyC Try.prog 198 false 1 := ⟨Ty.of (by kernel_rfl)⟩
instance : ElC Try.prog 198 5 1 1 := ⟨El.of (by kernel_rfl)⟩
instance : ZeroC Try.prog 198 #[.slice none 0 0] := ⟨by kernel_rfl⟩
instance : FldC Try.prog 199 0 0 := ⟨Fld.of (by kernel_rfl)⟩
instance : FldC Try.prog 199 1 1 := ⟨Fld.of (by kernel_rfl)⟩
instance : TyC Try.prog 199 true 2 := ⟨Ty.of (by kernel_rfl)⟩
instance : ZeroC Try.prog 199 #[.int .i64 0, .int .i64 0] := ⟨by kernel_rfl⟩
instance : FldC Try.prog 200 0 0 := ⟨Fld.of (by kernel_rfl)⟩
instance : FldC Try.prog 200 1 1 := ⟨Fld.of (by kernel_rfl)⟩
instance : TyC Try.prog 200 true 2 := ⟨Ty.of (by kernel_rfl)⟩
instance : ZeroC Try.prog 200 #[.int .i64 0, .int .i64 0] := ⟨by kernel_rfl⟩
instance : Und Try.prog 202 (.int .u64) := ⟨Try.underlying202⟩
instance : TyC Try.prog 202 false 1 := ⟨Ty.of (by kernel_rfl)⟩
instance : ZeroC Try.prog 202 #[.int .u64 0] := ⟨by kernel_rfl⟩
instance : Und Try.prog 218 (.pointer 220) := ⟨Try.underlying218⟩
instance : TyC Try.prog 218 false 1 := ⟨Ty.of (by kernel_rfl)⟩
instance : ZeroC Try.prog 218 #[.pointer none] := ⟨by kernel_rfl⟩
instance : FldC Try.prog 219 0 0 := ⟨Fld.of (by kernel_rfl)⟩
instance : FldC Try.prog 219 1 3 := ⟨Fld.of (by kernel_rfl)⟩
instance : FldC Try.prog 219 2 4 := ⟨Fld.of (by kernel_rfl)⟩
instance : TyC Try.prog 219 true 5 := ⟨Ty.of (by kernel_rfl)⟩
instance : ZeroC Try.prog 219 #[.int .i64 0, .int .i64 0, .slice none 0 0, .int .i64 0, .int .i64 0] := ⟨by kernel_rfl⟩
instance : FldC Try.prog 220 0 0 := ⟨Fld.of (by kernel_rfl)⟩
instance : FldC Try.prog 220 1 3 := ⟨Fld.of (by kernel_rfl)⟩
instance : FldC Try.prog 220 2 4 := ⟨Fld.of (by kernel_rfl)⟩
instance : TyC Try.prog 220 true 5 := ⟨Ty.of (by kernel_rfl)⟩
instance : ZeroC Try.prog 220 #[.int .i64 0, .int .i64 0, .slice none 0 0, .int .i64 0, .int .i64 0] := ⟨by kernel_rfl⟩
instance : Und Try.prog 224 (.int .i64) := ⟨Try.underlying224⟩
instance : TyC Try.prog 224 false 1 := ⟨Ty.of (by kernel_rfl)⟩
instance : ZeroC Try.prog 224 #[.int .i64 0] := ⟨by kernel_rfl⟩
instance : Und Try.prog 231 (.int .u32) := ⟨Try.underlying231⟩
instance : TyC Try.prog 231 false 1 := ⟨Ty.of (by kernel_rfl)⟩
instance : ZeroC Try.prog 231 #[.int .u32 0] := ⟨by kernel_rfl⟩
instance : Und Try.prog 234 (.int .u64) := ⟨Try.underlying234⟩
instance : TyC Try.prog 234 false 1 := ⟨Ty.of (by kernel_rfl)⟩
instance : ZeroC Try.prog 234 #[.int .u64 0] := ⟨by kernel_rfl⟩
instance : Und Try.prog 239 (.pointer 234) := ⟨Try.underlying239⟩
instance : TyC Try.prog 239 false 1 := ⟨Ty.of (by kernel_rfl)⟩
instance : ZeroC Try.prog 239 #[.pointer none] := ⟨by kernel_rfl⟩
instance : Und Try.prog 252 (.pointer 5) := ⟨Try.underlying252⟩
instance : TyC Try.prog 252 false 1 := ⟨Ty.of (by kernel_rfl)⟩
instance : ZeroC Try.prog 252 #[.pointer none] := ⟨by kernel_rfl⟩
instance : FldC Try.prog 255 0 0 := ⟨Fld.of (by kernel_rfl)⟩
instance : FldC Try.prog 255 1 1 := ⟨Fld.of (by kernel_rfl)⟩
instance : FldC Try.prog 255 2 2 := ⟨Fld.of (by kernel_rfl)⟩
instance : FldC Try.prog 255 3 3 := ⟨Fld.of (by kernel_rfl)⟩
instance : FldC Try.prog 255 4 4 := ⟨Fld.of (by kernel_rfl)⟩
instance : FldC Try.prog 255 5 5 := ⟨Fld.of (by kernel_rfl)⟩
instance : FldC Try.prog 255 6 6 := ⟨Fld.of (by kernel_rfl)⟩
instance : FldC Try.prog 255 7 7 := ⟨Fld.of (by kernel_rfl)⟩
instance : FldC Try.prog 255 8 8 := ⟨Fld.of (by kernel_rfl)⟩
instance : FldC Try.prog 255 9 9 := ⟨Fld.of (by kernel_rfl)⟩
instance : FldC Try.prog 255 10 10 := ⟨Fld.of (by kernel_rfl)⟩
instance : TyC Try.prog 255 true 11 := ⟨Ty.of (by kernel_rfl)⟩
instance : ZeroC Try.prog 255 #[.int .u64 0, .int .u64 0, .int .u32 0, .int .u8 0, .int .u8 0, .int .u8 0, .int .u8 0, .nilFunc, .pointer none, .int .i32 0, .int .i32 0] := ⟨by kernel_rfl⟩
instance : EntersC Try.prog 3 := ⟨Enters.of (by kernel_rfl)⟩
instance : EntersC Try.prog 4 := ⟨Enters.of (by kernel_rfl)⟩
instance : EntersC Try.prog 5 := ⟨Enters.of (by kernel_rfl)⟩
instance : EntersC Try.prog 6 := ⟨Enters.of (by kernel_rfl)⟩
instance : EntersC Try.prog 7 := ⟨Enters.of (by kernel_rfl)⟩
instance : EntersC Try.prog 8 := ⟨Enters.of (by kernel_rfl)⟩
instance : EntersC Try.prog 9 := ⟨Enters.of (by kernel_rfl)⟩
instance : EntersC Try.prog 10 := ⟨Enters.of (by kernel_rfl)⟩
instance : EntersC Try.prog 11 := ⟨Enters.of (by kernel_rfl)⟩
instance : EntersC Try.prog 12 := ⟨Enters.of (by kernel_rfl)⟩
instance : EntersC Try.prog 13 := ⟨Enters.of (by kernel_rfl)⟩
instance : EntersC Try.prog 14 := ⟨Enters.of (by kernel_rfl)⟩
instance : EntersC Try.prog 15 := ⟨Enters.of (by kernel_rfl)⟩
instance : EntersC Try.prog 16 := ⟨Enters.of (by kernel_rfl)⟩
instance : EntersC Try.prog 17 := ⟨Enters.of (by kernel_rfl)⟩
instance : EntersC Try.prog 18 := ⟨Enters.of (by kernel_rfl)⟩
instance : EntersC Try.prog 19 := ⟨Enters.of (by kernel_rfl)⟩
instance : EntersC Try.prog 20 := ⟨Enters.of (by kernel_rfl)⟩
instance : EntersC Try.prog 21 := ⟨Enters.of (by kernel_rfl)⟩
instance : EntersC Try.prog 22 := ⟨Enters.of (by kernel_rfl)⟩
instance : EntersC Try.prog 23 := ⟨Enters.of (by kernel_rfl)⟩
instance : EntersC Try.prog 24 := ⟨Enters.of (by kernel_rfl)⟩
instance : EntersC Try.prog 25 := ⟨Enters.of (by kernel_rfl)⟩
instance : EntersC Try.prog 26 := ⟨Enters.of (by kernel_rfl)⟩
instance : EntersC Try.prog 27 := ⟨Enters.of (by kernel_rfl)⟩
instance : EntersC Try.prog 28 := ⟨Enters.of (by kernel_rfl)⟩
instance : EntersC Try.prog 29 := ⟨Enters.of (by kernel_rfl)⟩
instance : EntersC Try.prog 30 := ⟨Enters.of (by kernel_rfl)⟩
instance : EntersC Try.prog 31 := ⟨Enters.of (by kernel_rfl)⟩
instance : EntersC Try.prog 32 := ⟨Enters.of (by kernel_rfl)⟩
instance : EntersC Try.prog 33 := ⟨Enters.of (by kernel_rfl)⟩
instance : EntersC Try.prog 34 := ⟨Enters.of (by kernel_rfl)⟩
instance : EntersC Try.prog 35 := ⟨Enters.of (by kernel_rfl)⟩
instance : EntersC Try.prog 36 := ⟨Enters.of (by kernel_rfl)⟩
instance : EntersC Try.prog 37 := ⟨Enters.of (by kernel_rfl)⟩
instance : EntersC Try.prog 38 := ⟨Enters.of (by kernel_rfl)⟩
instance : EntersC Try.prog 39 := ⟨Enters.of (by kernel_rfl)⟩
instance : EntersC Try.prog 40 := ⟨Enters.of (by kernel_rfl)⟩
instance : EntersC Try.prog 41 := ⟨Enters.of (by kernel_rfl)⟩
instance : EntersC Try.prog 42 := ⟨Enters.of (by kernel_rfl)⟩
instance : EntersC Try.prog 43 := ⟨Enters.of (by kernel_rfl)⟩
instance : EntersC Try.prog 44 := ⟨Enters.of (by kernel_rfl)⟩
instance : EntersC Try.prog 45 := ⟨Enters.of (by kernel_rfl)⟩
instance : EntersC Try.prog 46 := ⟨Enters.of (by kernel_rfl)⟩
instance : EntersC Try.prog 47 := ⟨Enters.of (by kernel_rfl)⟩
instance : EntersC Try.prog 48 := ⟨Enters.of (by kernel_rfl)⟩
instance : EntersC Try.prog 49 := ⟨Enters.of (by kernel_rfl)⟩
instance : EntersC Try.prog 50 := ⟨Enters.of (by kernel_rfl)⟩
instance : EntersC Try.prog 51 := ⟨Enters.of (by kernel_rfl)⟩
instance : EntersC Try.prog 52 := ⟨Enters.of (by kernel_rfl)⟩
instance : EntersC Try.prog 53 := ⟨Enters.of (by kernel_rfl)⟩
instance : EntersC Try.prog 54 := ⟨Enters.of (by kernel_rfl)⟩
instance : EntersC Try.prog 55 := ⟨Enters.of (by kernel_rfl)⟩
instance : EntersC Try.prog 56 := ⟨Enters.of (by kernel_rfl)⟩
instance : EntersC Try.prog 57 := ⟨Enters.of (by kernel_rfl)⟩
instance : EntersC Try.prog 58 := ⟨Enters.of (by kernel_rfl)⟩
instance : EntersC Try.prog 59 := ⟨Enters.of (by kernel_rfl)⟩
instance : EntersC Try.prog 60 := ⟨Enters.of (by kernel_rfl)⟩
instance : EntersC Try.prog 61 := ⟨Enters.of (by kernel_rfl)⟩
instance : EntersC Try.prog 62 := ⟨Enters.of (by kernel_rfl)⟩
instance : EntersC Try.prog 63 := ⟨Enters.of (by kernel_rfl)⟩
instance : EntersC Try.prog 64 := ⟨Enters.of (by kernel_rfl)⟩
instance : EntersC Try.prog 65 := ⟨Enters.of (by kernel_rfl)⟩
instance : EntersC Try.prog 66 := ⟨Enters.of (by kernel_rfl)⟩
instance : EntersC Try.prog 67 := ⟨Enters.of (by kernel_rfl)⟩
instance : EntersC Try.prog 68 := ⟨Enters.of (by kernel_rfl)⟩
instance : EntersC Try.prog 69 := ⟨Enters.of (by kernel_rfl)⟩
instance : EntersC Try.prog 70 := ⟨Enters.of (by kernel_rfl)⟩
instance : EntersC Try.prog 71 := ⟨Enters.of (by kernel_rfl)⟩
instance : EntersC Try.prog 72 := ⟨Enters.of (by kernel_rfl)⟩
instance : EntersC Try.prog 73 := ⟨Enters.of (by kernel_rfl)⟩
instance : EntersC Try.prog 74 := ⟨Enters.of (by kernel_rfl)⟩
instance : EntersC Try.prog 75 := ⟨Enters.of (by kernel_rfl)⟩
instance : EntersC Try.prog 76 := ⟨Enters.of (by kernel_rfl)⟩
instance : EntersC Try.prog 77 := ⟨Enters.of (by kernel_rfl)⟩
instance : EntersC Try.prog 78 := ⟨Enters.of (by kernel_rfl)⟩
instance : EntersC Try.prog 79 := ⟨Enters.of (by kernel_rfl)⟩
instance : EntersC Try.prog 80 := ⟨Enters.of (by kernel_rfl)⟩
instance : EntersC Try.prog 81 := ⟨Enters.of (by kernel_rfl)⟩
instance : EntersC Try.prog 82 := ⟨Enters.of (by kernel_rfl)⟩
instance : EntersC Try.prog 83 := ⟨Enters.of (by kernel_rfl)⟩
instance : EntersC Try.prog 84 := ⟨Enters.of (by kernel_rfl)⟩
instance : EntersC Try.prog 85 := ⟨Enters.of (by kernel_rfl)⟩
instance : EntersC Try.prog 86 := ⟨Enters.of (by kernel_rfl)⟩
instance : EntersC Try.prog 87 := ⟨Enters.of (by kernel_rfl)⟩
instance : EntersC Try.prog 88 := ⟨Enters.of (by kernel_rfl)⟩
instance : EntersC Try.prog 89 := ⟨Enters.of (by kernel_rfl)⟩
instance : EntersC Try.prog 90 := ⟨Enters.of (by kernel_rfl)⟩
instance : EntersC Try.prog 91 := ⟨Enters.of (by kernel_rfl)⟩
instance : EntersC Try.prog 92 := ⟨Enters.of (by kernel_rfl)⟩
instance : EntersC Try.prog 93 := ⟨Enters.of (by kernel_rfl)⟩
instance : EntersC Try.prog 94 := ⟨Enters.of (by kernel_rfl)⟩
instance : EntersC Try.prog 95 := ⟨Enters.of (by kernel_rfl)⟩
instance : EntersC Try.prog 96 := ⟨Enters.of (by kernel_rfl)⟩
instance : EntersC Try.prog 97 := ⟨Enters.of (by kernel_rfl)⟩
instance : EntersC Try.prog 98 := ⟨Enters.of (by kernel_rfl)⟩
instance : EntersC Try.prog 99 := ⟨Enters.of (by kernel_rfl)⟩
instance : EntersC Try.prog 100 := ⟨Enters.of (by kernel_rfl)⟩
instance : EntersC Try.prog 101 := ⟨Enters.of (by kernel_rfl)⟩
instance : EntersC Try.prog 102 := ⟨Enters.of (by kernel_rfl)⟩
instance : EntersC Try.prog 103 := ⟨Enters.of (by kernel_rfl)⟩
instance : EntersC Try.prog 104 := ⟨Enters.of (by kernel_rfl)⟩
instance : EntersC Try.prog 105 := ⟨Enters.of (by kernel_rfl)⟩
instance : EntersC Try.prog 106 := ⟨Enters.of (by kernel_rfl)⟩
instance : EntersC Try.prog 107 := ⟨Enters.of (by kernel_rfl)⟩
instance : EntersC Try.prog 108 := ⟨Enters.of (by kernel_rfl)⟩
instance : EntersC Try.prog 109 := ⟨Enters.of (by kernel_rfl)⟩
instance : EntersC Try.prog 110 := ⟨Enters.of (by kernel_rfl)⟩
instance : EntersC Try.prog 111 := ⟨Enters.of (by kernel_rfl)⟩
instance : EntersC Try.prog 112 := ⟨Enters.of (by kernel_rfl)⟩
instance : EntersC Try.prog 113 := ⟨Enters.of (by kernel_rfl)⟩
instance : EntersC Try.prog 114 := ⟨Enters.of (by kernel_rfl)⟩
instance : EntersC Try.prog 115 := ⟨Enters.of (by kernel_rfl)⟩
instance : EntersC Try.prog 116 := ⟨Enters.of (by kernel_rfl)⟩
instance : EntersC Try.prog 117 := ⟨Enters.of (by kernel_rfl)⟩
instance : EntersC Try.prog 118 := ⟨Enters.of (by kernel_rfl)⟩
instance : EntersC Try.prog 119 := ⟨Enters.of (by kernel_rfl)⟩
instance : EntersC Try.prog 120 := ⟨Enters.of (by kernel_rfl)⟩
instance : EntersC Try.prog 121 := ⟨Enters.of (by kernel_rfl)⟩
instance : EntersC Try.prog 122 := ⟨Enters.of (by kernel_rfl)⟩
instance : EntersC Try.prog 123 := ⟨Enters.of (by kernel_rfl)⟩
instance : EntersC Try.prog 124 := ⟨Enters.of (by kernel_rfl)⟩
instance : EntersC Try.prog 125 := ⟨Enters.of (by kernel_rfl)⟩
instance : EntersC Try.prog 126 := ⟨Enters.of (by kernel_rfl)⟩
instance : EntersC Try.prog 127 := ⟨Enters.of (by kernel_rfl)⟩
instance : EntersC Try.prog 128 := ⟨Enters.of (by kernel_rfl)⟩
instance : EntersC Try.prog 129 := ⟨Enters.of (by kernel_rfl)⟩
instance : EntersC Try.prog 130 := ⟨Enters.of (by kernel_rfl)⟩
instance : EntersC Try.prog 131 := ⟨Enters.of (by kernel_rfl)⟩
instance : EntersC Try.prog 132 := ⟨Enters.of (by kernel_rfl)⟩
instance : EntersC Try.prog 133 := ⟨Enters.of (by kernel_rfl)⟩
instance : EntersC Try.prog 134 := ⟨Enters.of (by kernel_rfl)⟩
instance : EntersC Try.prog 135 := ⟨Enters.of (by kernel_rfl)⟩
instance : EntersC Try.prog 136 := ⟨Enters.of (by kernel_rfl)⟩
instance : EntersC Try.prog 137 := ⟨Enters.of (by kernel_rfl)⟩
instance : EntersC Try.prog 138 := ⟨Enters.of (by kernel_rfl)⟩
instance : EntersC Try.prog 139 := ⟨Enters.of (by kernel_rfl)⟩
instance : EntersC Try.prog 140 := ⟨Enters.of (by kernel_rfl)⟩
instance : EntersC Try.prog 141 := ⟨Enters.of (by kernel_rfl)⟩
instance : EntersC Try.prog 142 := ⟨Enters.of (by kernel_rfl)⟩
instance : EntersC Try.prog 143 := ⟨Enters.of (by kernel_rfl)⟩
instance : EntersC Try.prog 144 := ⟨Enters.of (by kernel_rfl)⟩
instance : EntersC Try.prog 145 := ⟨Enters.of (by kernel_rfl)⟩
instance : EntersC Try.prog 146 := ⟨Enters.of (by kernel_rfl)⟩
end Go.Proofs.Ytlojfbnimmdehaa.eng

/- OpenE -/
namespace Go.Proofs.Ytlojfbnimmdehaa.eng
open Go.RowKit kit mix
theorem u64_of {a : Int} (h : (Lit.int .u64 a).wf = true) : ∃ n : Nat, a = n ∧ n < 18446744073709551616 := by
  have : 0 ≤ a ∧ a ≤ 18446744073709551615 := by simpa [Lit.wf, IntKind.min, IntKind.max, IntKind.signed, IntKind.bits] using h
  exact ⟨a.toNat, by omega, by omega⟩
theorem u32_of {a : Int} (h : (Lit.int .u32 a).wf = true) : ∃ n : Nat, a = n ∧ n < 4294967296 := by
  have : 0 ≤ a ∧ a ≤ 4294967295 := by simpa [Lit.wf, IntKind.min, IntKind.max, IntKind.signed, IntKind.bits] using h
  exact ⟨a.toNat, by omega, by omega⟩
theorem u8_of {a : Int} (h : (Lit.int .u8 a).wf = true) : ∃ b : UInt8, a = (b.toNat : Int) := by
  have : 0 ≤ a ∧ a ≤ 255 := by simpa [Lit.wf, IntKind.min, IntKind.max, IntKind.signed, IntKind.bits] using h
  refine ⟨UInt8.ofNat a.toNat, ?_⟩
  simp; omega
theorem strs_of {w : World} {v : Value} {l : List ByteArray} (h : Sl w v l.length (l.map .string)) (hl : ∀ s ∈ l, s.size ≤ maxLen) : ∃ L : List (List UInt8), Sl w v L.length (L.map str) ∧ (∀ x ∈ L, x.length ≤ 9223372036854775807) ∧ L.length = l.length :=
  ⟨l.map (·.data.toList), by
    have e : (l.map (·.data.toList)).map str = l.map .string := by rw [List.map_map]; apply List.map_congr_left; intro s _; exact (str_of s).symm
    rw [e, List.length_map]; exact h,
   fun x hx => by
    obtain ⟨s, hs, rfl⟩ := List.mem_map.1 hx
    have := hl s hs
    unfold maxLen at this
    have e : s.data.toList.length = s.size := Array.length_toList
    omega, by simp⟩
theorem fin {P : Program} {f : FuncId} {args : Array Value} {w : World} (h : Calls P f args w (Meets (ret (.bool true)) w)) : Calls P f args w fun e w' => e = .returned (.bool true) ∧ Below w.heap.size w w' := h.mono fun _ _ h => of_meets h
end Go.Proofs.Ytlojfbnimmdehaa.eng

/- Read -/
namespace Go.Proofs.Ytlojfbnimmdehaa.eng
open Go.RowKit kit mix Go.ChangeShapes Go.WideShapes Go.ChangeAt
section
variable {H : Type} {enc0 : TypeId × Value → H} {P : Program} {W : World}
/-- a slice of elements of c cells each, of which 'is' says how they read -/
def SlX {α : Type} (W : World) (is : List Value → α → Prop) (c : Nat) (v : Value) (l : List α) : Prop :=
  ∃ base cap, v = .slice base l.length cap ∧ l.length ≤ cap ∧ cap ≤ maxLen ∧ (0 < l.length → ∃ b off, base = some ⟨b, off, none⟩ ∧ ∀ i (h : i < l.length), ∃ cs, is cs l[i] ∧ Rd W b (off + i * c) cs)
/-- what can be opened reads so -/
def Opens (enc0 : TypeId × Value → H) (P : Program) (W : World) (t : TypeId) {α : Type} (is : List Value → α → Prop) : Prop :=
  ∀ fuel cs x, DataW.trod enc0 P W 0 (fun _ => true) true fuel t cs = some x → ∃ a, is cs a
theorem Opens.mono {t : TypeId} {α : Type} {is is' : List Value → α → Prop} (h : Opens enc0 P W t is) (hi : ∀ cs a, is cs a → is' cs a) : Opens enc0 P W t is' := fun f cs x hx => let ⟨a, ha⟩ := h f cs x hx; ⟨a, hi _ _ ha⟩
def isInt (k : IntKind) (lo hi : Int) (cs : List Value) (n : Int) : Prop := cs = [.int k n] ∧ lo ≤ n ∧ n ≤ hi
def isStr (cs : List Value) (s : List UInt8) : Prop := cs = [str s] ∧ s.length ≤ 9223372036854775807
def isBool (cs : List Value) (b : Bool) : Prop := cs = [.bool b]
theorem opens_int {t : TypeId} {k : IntKind} (ht : P.underlying t = some (.int k)) : Opens enc0 P W t (isInt k k.min k.max) := fun f cs x h => by
  obtain ⟨n, h1, _, h3⟩ := DataW.trod_int ht h
  simp only [Lit.wf, Bool.and_eq_true, decide_eq_true_eq] at h3
  exact ⟨n, h1, h3.1, h3.2⟩
theorem opens_i64 {t : TypeId} (ht : P.underlying t = some (.int .i64)) : Opens enc0 P W t (isInt .i64 (-9223372036854775808) 9223372036854775807) := (opens_int ht).mono fun cs n h => ⟨h.1, by simpa [IntKind.min, IntKind.signed, IntKind.bits] using h.2.1, by simpa [IntKind.max, IntKind.signed, IntKind.bits] using h.2.2⟩
theorem opens_i16 {t : TypeId} (ht : P.underlying t = some (.int .i16)) : Opens enc0 P W t (isInt .i16 (-32768) 32767) := (opens_int ht).mono fun cs n h => ⟨h.1, by simpa [IntKind.min, IntKind.signed, IntKind.bits] using h.2.1, by simpa [IntKind.max, IntKind.signed, IntKind.bits] using h.2.2⟩
theorem opens_u64 {t : TypeId} (ht : P.underlying t = some (.int .u64)) : Opens enc0 P W t (isInt .u64 0 18446744073709551615) := (opens_int ht).mono fun cs n h => ⟨h.1, by simpa [IntKind.min, IntKind.signed, IntKind.bits] using h.2.1, by simpa [IntKind.max, IntKind.signed, IntKind.bits] using h.2.2⟩
theorem opens_u8 {t : TypeId} (ht : P.underlying t = some (.int .u8)) : Opens enc0 P W t (isInt .u8 0 255) := (opens_int ht).mono fun cs n h => ⟨h.1, by simpa [IntKind.min, IntKind.signed, IntKind.bits] using h.2.1, by simpa [IntKind.max, IntKind.signed, IntKind.bits] using h.2.2⟩
theorem opens_str {t : TypeId} (ht : P.underlying t = some .string) : Opens enc0 P W t isStr := fun f cs x h => by
  obtain ⟨s, h1, _, h3⟩ := DataW.trod_string ht h
  refine ⟨s.data.toList, by rw [h1, str_of], ?_⟩
  have e : s.data.toList.length = s.size := Array.length_toList
  unfold maxLen at h3; omega
theorem opens_bool {t : TypeId} (ht : P.underlying t = some .bool) : Opens enc0 P W t isBool := fun f cs x h => by
  obtain ⟨b, h1, _⟩ := DataW.trod_bool ht h
  exact ⟨b, h1⟩
def isSl {α : Type} (W : World) (is : List Value → α → Prop) (c : Nat) (cs : List Value) (l : List α) : Prop := ∃ v, cs = [v] ∧ SlX W is c v l
theorem opens_slice {t e : TypeId} {c : Nat} (ht : P.underlying t = some (.slice e)) (hc : P.cellsOf e = c) (hc0 : 0 < c) {α : Type} {is : List Value → α → Prop} (hd : Opens enc0 P W e is) (_ : ∀ cs a, is cs a → cs.length = c) : Opens enc0 P W t (isSl W is c) := fun fuel cs x h => by
  rcases DataW.trod_slice ht h with ⟨rfl, _⟩ | ⟨a, len, cap, elems, rest, n, _, rfl, _, _, hlc, hm, hel, hread, _⟩
  · exact ⟨[], _, rfl, none, 0, rfl, Nat.le_refl _, by decide, fun h => by simp at h⟩
  · have each : ∀ i, i < len → ∃ y : α, ∃ cs, W.cells? 0 (a.add (i * c)) c = some cs ∧ is cs y := fun i hi => by
      have h1 := hread i hi
      rw [hc, List.getElem?_eq_getElem (by omega)] at h1
      cases hcell : W.cells? 0 (a.add (i * c)) c with
      | none => rw [hcell] at h1; simp at h1
      | some cs =>
        rw [hcell] at h1
        obtain ⟨y, hy⟩ := hd n cs _ h1
        exact ⟨y, cs, rfl, hy⟩
    obtain ⟨l, hll, hp⟩ := list_of len each
    subst hll
    refine ⟨l, _, rfl, some a, cap, rfl, hlc, hm, fun h0 => ?_⟩
    obtain ⟨cs0, h1, h2⟩ := hp 0 l[0] (List.getElem?_eq_getElem h0)
    have h3 := (cells_some h1).2 0 hc0
    have hlen := (cells_some h1).1
    rw [List.getElem?_eq_getElem (by omega)] at h3
    have hsp := spot_none h3
    have e0 : a.spot = none := by
      rw [Nat.zero_mul] at hsp
      unfold Addr.add at hsp
      simpa using hsp
    obtain ⟨b, off, spot⟩ := a
    simp only at e0
    subst e0
    refine ⟨b, off, rfl, fun i hi => ?_⟩
    obtain ⟨cs, h4, h5⟩ := hp i l[i] (List.getElem?_eq_getElem hi)
    refine ⟨cs, h5, fun j u hj => ?_⟩
    have hjl : j < c := by have := (List.getElem?_eq_some_iff.1 hj).1; rw [(cells_some h4).1] at this; exact this
    have h6 := (cells_some h4).2 j hjl
    rw [addr_add, addr_add] at h6
    rw [h6]; exact hj
/-- an array: its elements one behind the other -/
def isArr {α : Type} (is : List Value → α → Prop) (m c : Nat) (cs : List Value) (l : List α) : Prop := l.length = m ∧ ∀ i (h : i < l.length), is ((cs.drop (i * c)).take c) l[i]
theorem opens_array {t e : TypeId} {m c : Nat} (ht : P.underlying t = some (.array m e)) (hc : P.cellsOf e = c) {α : Type} {is : List Value → α → Prop} (hd : Opens enc0 P W e is) : Opens enc0 P W t (fun cs l => cs.length = P.cellsOf t ∧ isArr is m c cs l) := fun fuel cs x h => by
  obtain ⟨xs, n, _, _, hl, hlen, hf⟩ := DataW.trod_array ht h
  have each : ∀ i, i < m → ∃ y : α, is ((cs.drop (i * c)).take c) y := fun i hi => by
    have h1 := hf i hi
    rw [hc, List.getElem?_eq_getElem (by omega)] at h1
    exact hd n _ _ h1
  obtain ⟨l, hll, hp⟩ := list_of m each
  exact ⟨l, hl, hll, fun i hi => hp i _ (List.getElem?_eq_getElem hi)⟩
/-- an array of numbers -/
def isInts (k : IntKind) (lo hi : Int) (m : Nat) (cs : List Value) (l : List Int) : Prop := l.length = m ∧ cs = l.map (.int k) ∧ ∀ x ∈ l, lo ≤ x ∧ x ≤ hi
theorem ints_of_arr {k : IntKind} {lo hi : Int} {m : Nat} {cs : List Value} {l : List Int} (hl : cs.length = m) (h : isArr (isInt k lo hi) m 1 cs l) : isInts k lo hi m cs l := by
  obtain ⟨h1, h2⟩ := h
  refine ⟨h1, ?_, fun x hx => ?_⟩
  · apply List.ext_getElem?
    intro i
    by_cases hi : i < l.length
    · have h3 := (h2 i hi).1
      rw [Nat.mul_one] at h3
      have hic : i < cs.length := by omega
      rw [List.drop_eq_getElem_cons hic, List.take_succ_cons, List.take_zero] at h3
      injection h3 with h3 _
      rw [List.getElem?_eq_getElem hic, List.getElem?_map, List.getElem?_eq_getElem hi, h3]; rfl
    · rw [List.getElem?_eq_none (by omega), List.getElem?_eq_none (by simp; omega)]
  · obtain ⟨i, hi, rfl⟩ := List.mem_iff_getElem.1 hx
    exact (h2 i hi).2
/-- a struct's fields -/
theorem field_of {t : TypeId} {fs : Array Field} (ht : P.underlying t = some (.struct fs)) {fuel : Nat} {cs : List Value} {x : DataW H × List MemPlace} (h : DataW.trod enc0 P W 0 (fun _ => true) true fuel t cs = some x) :
    cs.length = P.cellsOf t ∧ ∀ (i : Nat) (f : Field), fs[i]? = some f → ∀ {α : Type} {is : List Value → α → Prop}, Opens enc0 P W f.type is → ∃ a, is ((cs.drop f.offset).take (P.cellsOf f.type)) a := by
  obtain ⟨xs, n, _, _, hl, hlen, hf⟩ := DataW.trod_struct ht h
  refine ⟨hl, fun i f hi α is ho => ?_⟩
  have h1 := hf i f hi
  have : i < xs.length := by rw [hlen]; exact (Array.getElem?_eq_some_iff.1 hi).1
  rw [List.getElem?_eq_getElem this] at h1
  exact ho n _ _ h1
/-- at the top -/
theorem top_agg {t : TypeId} {fs : Array Field} (ht : P.underlying t = some (.struct fs)) {base : Nat} {v : Value} {d : DataW H} {ps : List MemPlace} (hv : Value.okWide P W .any base t v) (h : DataW.Trod enc0 P W 0 (fun _ => true) true t v d ps) : ∃ cs fuel, v = .agg cs ∧ DataW.trod enc0 P W 0 (fun _ => true) true fuel t cs.toList = some (d, ps) := by
  simp only [Value.okWide, ht] at hv
  obtain ⟨cs, rfl, _, _⟩ := hv
  obtain ⟨fuel, hf⟩ := h
  exact ⟨cs, fuel, rfl, hf⟩
theorem top_arr {t e : TypeId} {m : Nat} (ht : P.underlying t = some (.array m e)) {base : Nat} {v : Value} {d : DataW H} {ps : List MemPlace} (hv : Value.okWide P W .any base t v) (h : DataW.Trod enc0 P W 0 (fun _ => true) true t v d ps) : ∃ cs fuel, v = .agg cs ∧ DataW.trod enc0 P W 0 (fun _ => true) true fuel t cs.toList = some (d, ps) := by
  simp only [Value.okWide, ht] at hv
  obtain ⟨cs, rfl, _, _⟩ := hv
  obtain ⟨fuel, hf⟩ := h
  exact ⟨cs, fuel, rfl, hf⟩
theorem top_slice {t e : TypeId} {c : Nat} (ht : P.underlying t = some (.slice e)) (hc : P.cellsOf e = c) (hc0 : 0 < c) {α : Type} {is : List Value → α → Prop} (hd : Opens enc0 P W e is) (hl : ∀ cs a, is cs a → cs.length = c) {base : Nat} {v : Value} {d : DataW H} {ps : List MemPlace} (hv : Value.okWide P W .any base t v) (h : DataW.Trod enc0 P W 0 (fun _ => true) true t v d ps) : ∃ l, SlX W is c v l := by
  obtain ⟨a0, len, cap, rfl⟩ := okWide_slice ht hv
  obtain ⟨fuel, hf⟩ := h
  have hf' : DataW.trod enc0 P W 0 (fun _ => true) true fuel t [.slice a0 len cap] = some (d, ps) := hf
  obtain ⟨l, v', hv', hs⟩ := opens_slice ht hc hc0 hd hl _ _ _ hf'
  obtain rfl : Value.slice a0 len cap = v' := by simpa using hv'
  exact ⟨l, hs⟩
end
/-- a slice of one-cell elements -/
theorem SlX.sl {α : Type} {W : World} {is : List Value → α → Prop} {f : α → Value} {v : Value} {l : List α} (h : SlX W is 1 v l) (hf : ∀ cs a, is cs a → cs = [f a]) : Sl W v l.length (l.map f) := by
  obtain ⟨base, cap, h1, h2, h3, h4⟩ := h
  refine ⟨base, cap, h1, h2, h3, fun h0 => ?_⟩
  obtain ⟨b, off, h5, h6⟩ := h4 h0
  refine ⟨b, off, h5, fun j u hj => ?_⟩
  have hjl : j < l.length := by simpa using (List.getElem?_eq_some_iff.1 hj).1
  obtain ⟨cs, h7, h8⟩ := h6 j hjl
  have := h8 0 (f l[j]) (by rw [hf _ _ h7]; rfl)
  simp only [Nat.mul_one, Nat.add_zero] at this
  rw [this, ← hj]; simp [hjl]
/-- seen from a later world -/
theorem SlX.up {α : Type} {W w : World} {L : List Own} {is : List Value → α → Prop} {c : Nat} {v : Value} {l : List α} (h : SlX W is c v l) (hm : Mem W L w) : SlX w is c v l := by
  obtain ⟨base, cap, h1, h2, h3, h4⟩ := h
  exact ⟨base, cap, h1, h2, h3, fun h0 => let ⟨b, off, h5, h6⟩ := h4 h0; ⟨b, off, h5, fun i hi => let ⟨cs, h7, h8⟩ := h6 i hi; ⟨cs, h7, fun j u hj => hm.cell (h8 j u hj)⟩⟩⟩
end Go.Proofs.Ytlojfbnimmdehaa.eng


/- The rules of a walk in terms of what is known: code, regions in the text's order and regions that draw their order, loops, calls, returns. -/
import Derived.Test.YtnicebdkejkieaaEng
import Derived.Deep.LoopGhost
namespace Go.Proofs.Ytnicebdkejkieaa.eng
open Go.RowKit kit mix

/-- code from which Q is come to, of whatever frame and world of which fr and L are known -/
structure T (P : Program) (n : Nat) (W : Base) (c : Code) (Q : Exit → Act → World → Prop) (fr : Fr) (L : List Own) : Prop where
  go : ∀ a w, Rep n a fr → Mem W L w → c.wp P Q a w
/-- an exit -/
structure E (n : Nat) (W : Base) (e : Exit) (Q : Exit → Act → World → Prop) (fr : Fr) (L : List Own) : Prop where
  go : ∀ a w, Rep n a fr → Mem W L w → Q e a w
/-- operations in the text's order -/
structure TL (P : Program) (n : Nat) (W : Base) (ops : Array Oper) (Q : Exit → Act → World → Prop) (l : List Oper) (fr : Fr) (L : List Own) : Prop where
  go : ∀ a w, Rep n a fr → Mem W L w → wpList P ops Q l a w
/-- operations of a region that draws its order -/
structure TM (P : Program) (n : Nat) (W : Base) (ops : Array Oper) (Q : Exit → Act → World → Prop) (K : Act → World → Prop) (ks : List Bool) (l : List Oper) (fr : Fr) (L : List Own) : Prop where
  go : ∀ a, Rep n a fr → wpM P ops Q K ks l a (Mem W L)
/-- what an operation yields -/
structure RR (P : Program) (n : Nat) (W : Base) (o : Oper) (fr : Fr) (L : List Own) (v : Value) : Prop where
  go : ∀ a w, Rep n a fr → Mem W L w → (execOp a.eval o).run P w = .ok (.value v) w
/-- what a call may hand back -/
structure Spec (ι : Type) where
  ok : ι → Prop
  val : ι → Value
  own : ι → List Own
def Meets {ι : Type} (S : Spec ι) (w : World) (e : Ending) (w' : World) : Prop := ∃ x, S.ok x ∧ e = .returned (S.val x) ∧ Gr w w' ∧ Owns w.heap.size w' (S.own x)
/-- one value -/
def ret (v : Value) : Spec Unit := ⟨fun _ => True, fun _ => v, fun _ => []⟩
theorem meets_ret {v : Value} {w w' : World} {e : Ending} (h : e = .returned v) (hg : Gr w w') : Meets (ret v) w e w' := ⟨(), trivial, h, hg, Owns.nil _ _⟩
theorem of_meets {v : Value} {w w' : World} {e : Ending} (h : Meets (ret v) w e w') : e = .returned v ∧ Gr w w' := let ⟨_, _, h1, h2, _⟩ := h; ⟨h1, h2⟩

section
variable {P : Program} {n : Nat} {W : Base} {Q : Exit → Act → World → Prop} {fr : Fr} {L : List Own}

theorem T_seq {x y : Code} (h : T P n W x (Exit.then (y.wp P Q) Q) fr L) : T P n W (x.seq y) Q fr L := .mk fun a w hr hm => wp_seq (h.go a w hr hm)
theorem T_skip (h : E n W .normal Q fr L) : T P n W .skip Q fr L := .mk fun a w hr hm => wp_skip (h.go a w hr hm)
theorem T_exit {id : Nat} (h : E n W (.exit id) Q fr L) : T P n W (.exit id) Q fr L := .mk fun a w hr hm => wp_exit (h.go a w hr hm)
theorem T_ret (h : E n W .ret Q fr L) : T P n W .ret Q fr L := .mk fun a w hr hm => wp_ret (h.go a w hr hm)
theorem T_block {id : Nat} {c : Code} (h : T P n W c (Exit.inBlock id Q) fr L) : T P n W (.block id c) Q fr L := .mk fun a w hr hm => wp_block (h.go a w hr hm)
theorem T_condT {c : Operand} {x y : Code} (hc : ev fr c = some (.bool true)) (h : T P n W x Q fr L) : T P n W (.cond c x y) Q fr L := .mk fun a w hr hm => wp_cond_true (hr.ev hc) (h.go a w hr hm)
theorem T_condF {c : Operand} {x y : Code} (hc : ev fr c = some (.bool false)) (h : T P n W y Q fr L) : T P n W (.cond c x y) Q fr L := .mk fun a w hr hm => wp_cond_false (hr.ev hc) (h.go a w hr hm)
theorem T_cond {c : Operand} {x y : Code} {t : Bool} (hc : ev fr c = some (.bool t)) (ht : t = true → T P n W x Q fr L) (hf : t = false → T P n W y Q fr L) : T P n W (.cond c x y) Q fr L := by
  cases t
  · exact T_condF hc (hf rfl)
  · exact T_condT hc (ht rfl)
/-- the same with less known -/
theorem T_sub {c : Code} (fr' : Fr) (hs : Subs fr' fr) (h : T P n W c Q fr' L) : T P n W c Q fr L := .mk fun a w hr hm => h.go a w (hr.sub hs) hm
theorem E_sub {e : Exit} (fr' : Fr) (hs : Subs fr' fr) (h : E n W e Q fr' L) : E n W e Q fr L := .mk fun a w hr hm => h.go a w (hr.sub hs) hm
theorem T_pick {c : Code} {L' : List Own} (is : List Nat) (hn : is.Nodup) (hl : L' = is.filterMap fun i => L[i]?) (h : T P n W c Q fr L') : T P n W c Q fr L := .mk fun a w hr hm => h.go a w hr (hm.pick is hn hl)
theorem E_pick {e : Exit} {L' : List Own} (is : List Nat) (hn : is.Nodup) (hl : L' = is.filterMap fun i => L[i]?) (h : E n W e Q fr L') : E n W e Q fr L := .mk fun a w hr hm => h.go a w hr (hm.pick is hn hl)

theorem E_then {y : Code} (h : T P n W y Q fr L) : E n W .normal (Exit.then (y.wp P Q) Q) fr L := ⟨h.go⟩
theorem E_thenX {id : Nat} {K : Act → World → Prop} (h : E n W (.exit id) Q fr L) : E n W (.exit id) (Exit.then K Q) fr L := ⟨h.go⟩
theorem E_thenR {K : Act → World → Prop} (h : E n W .ret Q fr L) : E n W .ret (Exit.then K Q) fr L := ⟨h.go⟩
theorem E_blockN {id : Nat} (h : E n W .normal Q fr L) : E n W .normal (Exit.inBlock id Q) fr L := ⟨h.go⟩
theorem E_blockR {id : Nat} (h : E n W .ret Q fr L) : E n W .ret (Exit.inBlock id Q) fr L := ⟨h.go⟩
theorem E_blockX {id : Nat} (h : E n W .normal Q fr L) : E n W (.exit id) (Exit.inBlock id Q) fr L := .mk fun a w hr hm => by
  show (if id = id then Q .normal a w else Q (.exit id) a w)
  rw [if_pos rfl]; exact h.go a w hr hm
theorem E_blockO {id id' : Nat} (hne : Nat.beq id' id = false) (h : E n W (.exit id') Q fr L) : E n W (.exit id') (Exit.inBlock id Q) fr L := .mk fun a w hr hm => by
  show (if id' = id then Q .normal a w else Q (.exit id') a w)
  rw [if_neg (Nat.ne_of_beq_eq_false hne)]; exact h.go a w hr hm

/-- a round's end: the state at a smaller measure -/
def Rnd {ι : Type} (n : Nat) (W : Base) (I : ι → Prop) (F : ι → Fr) (M : ι → List Own) (μ : ι → Nat) (x : ι) (a : Act) (w : World) : Prop := ∃ x', I x' ∧ μ x' < μ x ∧ Rep n a (F x') ∧ Mem W (M x') w
/-- a meeting point -/
def Mid {ι : Type} (n : Nat) (W : Base) (I : ι → Prop) (F : ι → Fr) (M : ι → List Own) (a : Act) (w : World) : Prop := ∃ i, I i ∧ Rep n a (F i) ∧ Mem W (M i) w
/-- a state that several ways come to -/
theorem T_mid {x y : Code} {ι : Type} (I : ι → Prop) (F : ι → Fr) (M : ι → List Own)
    (hx : T P n W x (Exit.then (Mid n W I F M) Q) fr L) (hy : ∀ i, I i → T P n W y Q (F i) (M i)) : T P n W (x.seq y) Q fr L := .mk fun a w hr hm =>
  wp_seq (wp_mono (hx.go a w hr hm) fun e a w h => by
    cases e with
    | normal => obtain ⟨i, h1, h2, h3⟩ := h; exact (hy i h1).go a w h2 h3
    | _ => exact h)
theorem E_mid {ι : Type} {I : ι → Prop} {F : ι → Fr} {M : ι → List Own} (i : ι) (hi : I i) (hf : Subs (F i) fr) (hl : L = M i) : E n W .normal (Exit.then (Mid n W I F M) Q) fr L :=
  ⟨fun _ _ hr hm => ⟨i, hi, hr.sub hf, hl ▸ hm⟩⟩
/-- a loop: I: what holds of its state; F: the slots; M: memory; μ goes down -/
theorem T_loop {c : Code} {ι : Type} (I : ι → Prop) (F : ι → Fr) (M : ι → List Own) (μ : ι → Nat) (x0 : ι) (h0 : I x0) (hf : Subs (F x0) fr) (hl : L = M x0)
    (round : ∀ x, I x → T P n W c (Exit.then (Rnd n W I F M μ x) Q) (F x) (M x)) : T P n W (.loop c) Q fr L := by
  refine ⟨fun a w hr hm => ?_⟩
  refine wp_loop_ghost (fun k a w => ∃ x, μ x = k ∧ I x ∧ Rep n a (F x) ∧ Mem W (M x) w) (μ x0) ⟨x0, rfl, h0, hr.sub hf, hl ▸ hm⟩ ?_
  rintro k a w ⟨x, rfl, hi, hr, hm⟩
  refine wp_mono ((round x hi).go a w hr hm) fun e a w h => ?_
  cases e with
  | normal => obtain ⟨x', h1, h2, h3, h4⟩ := h; exact ⟨μ x', h2, x', rfl, h1, h3, h4⟩
  | _ => exact h
theorem E_round {ι : Type} {I : ι → Prop} {F : ι → Fr} {M : ι → List Own} {μ : ι → Nat} {x : ι} (x' : ι) (hi : I x') (hμ : μ x' < μ x) (hf : Subs (F x') fr) (hl : L = M x') :
    E n W .normal (Exit.then (Rnd n W I F M μ x) Q) fr L :=
  ⟨fun _ _ hr hm => ⟨x', hi, hμ, hr.sub hf, hl ▸ hm⟩⟩

/-! ### the call's own end -/
theorem E_ret {fn : Func} {R : Ending → World → Prop} (h : ∀ a w, Rep n a fr → Mem W L w → ∃ v, (results fn a.tmps).run P w = .ok v w ∧ R (.returned v) w) : E n W .ret (bodyPost P fn R) fr L :=
  ⟨fun a w hr hm => ⟨hr.defers, h a w hr hm⟩⟩
theorem E_ret1 {fn : Func} {R : Ending → World → Prop} {t : Tmp} {v : Value} (hres : fn.results = #[.tmp t]) (hv : look fr t = some v) (h : ∀ w, Mem W L w → R (.returned v) w) : E n W .ret (bodyPost P fn R) fr L :=
  E_ret fun a w hr hm => ⟨v, by simp [results, hres, Array.getD_eq_getD_getElem?, hr.get t v hv], h w hm⟩
theorem E_ret2 {fn : Func} {R : Ending → World → Prop} {t u : Tmp} {v z : Value} (hres : fn.results = #[.tmp t, .tmp u]) (hv : look fr t = some v) (hz : look fr u = some z) (h : ∀ w, Mem W L w → R (.returned (.tuple #[v, z])) w) : E n W .ret (bodyPost P fn R) fr L :=
  E_ret fun a w hr hm => ⟨_, by simp [results, hres, Array.getD_eq_getD_getElem?, hr.get t v hv, hr.get u z hz], h w hm⟩
theorem E_ret3 {fn : Func} {R : Ending → World → Prop} {t u s : Tmp} {v z y : Value} (hres : fn.results = #[.tmp t, .tmp u, .tmp s]) (hv : look fr t = some v) (hz : look fr u = some z) (hy : look fr s = some y) (h : ∀ w, Mem W L w → R (.returned (.tuple #[v, z, y])) w) : E n W .ret (bodyPost P fn R) fr L :=
  E_ret fun a w hr hm => ⟨_, by simp [results, hres, Array.getD_eq_getD_getElem?, hr.get t v hv, hr.get u z hz, hr.get s y hy], h w hm⟩
theorem Mem.meets {ι : Type} {S : Spec ι} {W w : World} (x : ι) (hm : Mem W L w) (hx : S.ok x) (is : List Nat) (hn : is.Nodup) (hl : S.own x = is.filterMap fun i => L[i]?) : Meets S W (.returned (S.val x)) w :=
  ⟨x, hx, rfl, hm.below, hm.newer.pick is hn hl⟩
theorem Mem.ret {v : Value} {W w : World} (hm : Mem W L w) : Meets (ret v) W (.returned v) w := ⟨(), trivial, rfl, hm.below, Owns.nil _ _⟩
/-- one value, told by an equation -/
theorem E_ret1e {fn : Func} {W : World} {t : Tmp} {v v0 : Value} (hres : fn.results = #[.tmp t]) (hv : look fr t = some v) (h : v = v0) : E n W .ret (bodyPost P fn (Meets (ret v0) W)) fr L := by
  subst h; exact E_ret1 hres hv fun w hm => hm.ret
theorem E_ret2e {fn : Func} {W : World} {t u : Tmp} {v z v0 : Value} (hres : fn.results = #[.tmp t, .tmp u]) (hv : look fr t = some v) (hz : look fr u = some z) (h : .tuple #[v, z] = v0) : E n W .ret (bodyPost P fn (Meets (ret v0) W)) fr L := by
  subst h; exact E_ret2 hres hv hz fun w hm => hm.ret
theorem E_ret3e {fn : Func} {W : World} {t u s : Tmp} {v z y v0 : Value} (hres : fn.results = #[.tmp t, .tmp u, .tmp s]) (hv : look fr t = some v) (hz : look fr u = some z) (hy : look fr s = some y) (h : .tuple #[v, z, y] = v0) : E n W .ret (bodyPost P fn (Meets (ret v0) W)) fr L := by
  subst h; exact E_ret3 hres hv hz hy fun w hm => hm.ret
/-- the call's beginning -/
def frameOf : Nat → List Value → Fr
  | _, [] => []
  | k, v :: r => (k, v) :: frameOf (k + 1) r
theorem look_frameOf : ∀ (vs : List Value) (k i : Nat) (v : Value), look (frameOf k vs) i = some v → k ≤ i ∧ vs[i - k]? = some v
  | [], _, _, _, h => by cases h
  | u :: r, k, i, v, h => by
    unfold frameOf look at h
    cases e : Nat.beq k i
    · rw [e] at h
      have hne := Nat.ne_of_beq_eq_false e
      obtain ⟨h1, h2⟩ := look_frameOf r (k + 1) i v h
      refine ⟨by omega, ?_⟩
      rw [show i - k = (i - (k + 1)) + 1 by omega, List.getElem?_cons_succ]; exact h2
    · rw [e] at h
      obtain rfl : k = i := Nat.eq_of_beq_eq_true e
      simp only [cond_true, Option.some.injEq] at h
      subst h; simp
theorem enter {w : World} {f : FuncId} {fn : Func} {c : Code} {args : List Value} {R : Ending → World → Prop} (hf : P.funcs[f]? = some fn) (hb : fn.body = some c) (hn : fn.ntmps = n) (hle : Nat.ble args.length n = true)
    (h : T P n w c (bodyPost P fn R) (frameOf 0 args) []) : Calls P f args.toArray w R := by
  have hle' : args.length ≤ n := Nat.le_of_ble_eq_true hle
  refine calls_of_wp hf hb (h.go _ w ⟨?_, rfl, fun i v hi => ?_⟩ (Mem.start w))
  · simp [hn]; omega
  · obtain ⟨_, h2⟩ := look_frameOf args 0 i v hi
    have hlt := (List.getElem?_eq_some_iff.1 h2).1
    rw [Array.getElem?_append_left (by simpa using hlt)]
    simpa using h2

/-- the same of a call that may turn memory which it is handed over -/
theorem enterB {B : Base} {w : World} {f : FuncId} {fn : Func} {c : Code} {args : List Value} {R : Ending → World → Prop} (hm : Mem B L w) (hf : P.funcs[f]? = some fn) (hb : fn.body = some c) (hn : fn.ntmps = n) (hle : Nat.ble args.length n = true)
    (h : T P n B c (bodyPost P fn R) (frameOf 0 args) L) : Calls P f args.toArray w R := by
  have hle' : args.length ≤ n := Nat.le_of_ble_eq_true hle
  refine calls_of_wp hf hb (h.go _ w ⟨?_, rfl, fun i v hi => ?_⟩ hm)
  · simp [hn]; omega
  · obtain ⟨_, h2⟩ := look_frameOf args 0 i v hi
    have hlt := (List.getElem?_eq_some_iff.1 h2).1
    rw [Array.getElem?_append_left (by simpa using hlt)]
    simpa using h2

/-! ### regions -/
section
variable {ops : Array Oper} {K : Act → World → Prop} {ks : List Bool} {o : Oper} {rest : List Oper} {v : Value} {d : Nat}
theorem T_region {id : Nat} {l : List Oper} (h : TL P n W l.toArray Q l fr L) : T P n W (.region id l.toArray false) Q fr L := .mk fun a w hr hm => wp_region_lit (h.go a w hr hm)
theorem TL_nil (h : E n W .normal Q fr L) : TL P n W ops Q [] fr L := .mk fun a w hr hm => wpList_nil (h.go a w hr hm)
theorem wanted_none {a : Act} (hg : o.guard = none) : Region.wanted o (yielded ops a.tmps) = true := by simp [Region.wanted, hg]
theorem wanted_yes {a : Act} {j e : Nat} {b : Bool} (hr : Rep n a fr) (hg : o.guard = some (j, b)) (hj : (ops[j]?).bind (·.dst) = some e) (hl : look fr e = some (.bool b)) : Region.wanted o (yielded ops a.tmps) = true := by
  simp [Region.wanted, hg, hr.yield hj hl]
def notB (b : Bool) : Value → Bool
  | .bool c => c != b
  | _ => true
theorem wanted_no {a : Act} {j e : Nat} {b : Bool} {u : Value} (hr : Rep n a fr) (hg : o.guard = some (j, b)) (hj : (ops[j]?).bind (·.dst) = some e) (hl : look fr e = some u) (hu : notB b u = true) : Region.wanted o (yielded ops a.tmps) = false := by
  simp only [Region.wanted, hg, hr.yield hj hl]
  cases u <;> first | rfl | (rename_i c; cases c <;> cases b <;> first | rfl | cases hu)
theorem TL_val (hr : RR P n W o fr L v) (hg : o.guard = none) (hd : o.dst = some d) (hn : Nat.blt d n = true) (h : TL P n W ops Q rest ((d, v) :: fr) L) : TL P n W ops Q (o :: rest) fr L := .mk fun a w hrep hm =>
  wpList_plain hg fun K hK => by
    unfold Oper.wp; rw [hr.go a w hrep hm]; rw [Oper.upon_value, hd]
    exact hK _ _ (h.go _ w (hrep.put hn v) hm)
theorem TL_gval {j e : Nat} {b : Bool} (hr : RR P n W o fr L v) (hg : o.guard = some (j, b)) (hj : (ops[j]?).bind (·.dst) = some e) (hl : look fr e = some (.bool b)) (hd : o.dst = some d) (hn : Nat.blt d n = true) (h : TL P n W ops Q rest ((d, v) :: fr) L) : TL P n W ops Q (o :: rest) fr L := .mk fun a w hrep hm =>
  BigFrame.wpList_want (wanted_yes hrep hg hj hl) fun K hK => by
    unfold Oper.wp; rw [hr.go a w hrep hm]; rw [Oper.upon_value, hd]
    exact hK _ _ (h.go _ w (hrep.put hn v) hm)
theorem TL_skip {j e : Nat} {b : Bool} {u : Value} (hg : o.guard = some (j, b)) (hj : (ops[j]?).bind (·.dst) = some e) (hl : look fr e = some u) (hu : notB b u = true) (hd : o.dst = some d) (hn : Nat.blt d n = true) (h : TL P n W ops Q rest ((d, undef) :: fr) L) : TL P n W ops Q (o :: rest) fr L := .mk fun a w hrep hm =>
  wpList_skip (wanted_no hrep hg hj hl hu) (by rw [hd]; exact h.go _ w (hrep.put hn undef) hm)
/-- a comparison that is not decided yet -/
theorem TL_split {p : Prop} {inst : Decidable p} (hr : RR P n W o fr L (.bool (decide p))) (hg : o.guard = none) (hd : o.dst = some d) (hn : Nat.blt d n = true) (ht : p → TL P n W ops Q rest ((d, .bool true) :: fr) L) (hf : ¬ p → TL P n W ops Q rest ((d, .bool false) :: fr) L) : TL P n W ops Q (o :: rest) fr L := by
  by_cases h : p
  · exact TL_val (by rwa [decide_eq_true h] at hr) hg hd hn (ht h)
  · exact TL_val (by rwa [decide_eq_false h] at hr) hg hd hn (hf h)
theorem TL_gsplitv {p : Prop} {inst : Decidable p} {j e : Nat} {b : Bool} (hr : RR P n W o fr L (.bool (decide p))) (hg : o.guard = some (j, b)) (hj : (ops[j]?).bind (·.dst) = some e) (hl : look fr e = some (.bool b)) (hd : o.dst = some d) (hn : Nat.blt d n = true) (ht : p → TL P n W ops Q rest ((d, .bool true) :: fr) L) (hf : ¬ p → TL P n W ops Q rest ((d, .bool false) :: fr) L) : TL P n W ops Q (o :: rest) fr L := by
  by_cases h : p
  · exact TL_gval (by rwa [decide_eq_true h] at hr) hg hj hl hd hn (ht h)
  · exact TL_gval (by rwa [decide_eq_false h] at hr) hg hj hl hd hn (hf h)
theorem Rep.also {a : Act} {e : Nat} {v : Value} (h : Rep n a fr) (hl : look fr e = some v) : Rep n a ((e, v) :: fr) := ⟨h.size, h.defers, fun i u hi => by
    unfold look at hi
    cases c : Nat.beq e i
    · rw [c] at hi; exact h.get i u hi
    · rw [c] at hi
      obtain rfl : e = i := Nat.eq_of_beq_eq_true c
      simp only [cond_true, Option.some.injEq] at hi
      subst hi; exact h.get e v hl⟩
theorem TL_gsplit {j e : Nat} {b0 b : Bool} (hg : o.guard = some (j, b0)) (hj : (ops[j]?).bind (·.dst) = some e) (hl : look fr e = some (.bool b)) (ht : b = true → TL P n W ops Q (o :: rest) ((e, .bool true) :: fr) L) (hf : b = false → TL P n W ops Q (o :: rest) ((e, .bool false) :: fr) L) : TL P n W ops Q (o :: rest) fr L := .mk fun a w hr hm => by
  cases b
  · exact (hf rfl).go a w (hr.also hl) hm
  · exact (ht rfl).go a w (hr.also hl) hm
theorem TL_isT {j e : Nat} {b0 : Bool} (hg : o.guard = some (j, b0)) (hj : (ops[j]?).bind (·.dst) = some e) (hl : look fr e = some (.bool true)) (h : TL P n W ops Q (o :: rest) fr L) : TL P n W ops Q (o :: rest) fr L := h
theorem TL_isF {j e : Nat} {b0 : Bool} (hg : o.guard = some (j, b0)) (hj : (ops[j]?).bind (·.dst) = some e) (hl : look fr e = some (.bool false)) (h : TL P n W ops Q (o :: rest) fr L) : TL P n W ops Q (o :: rest) fr L := h
theorem T_condS {c : Tmp} {x y : Code} {b : Bool} (hl : look fr c = some (.bool b)) (ht : b = true → T P n W x Q ((c, .bool true) :: fr) L) (hf : b = false → T P n W y Q ((c, .bool false) :: fr) L) : T P n W (.cond (.tmp c) x y) Q fr L := .mk fun a w hr hm => by
  cases b
  · exact wp_cond_false (hr.ev (x := .tmp c) hl) ((hf rfl).go a w (hr.also hl) hm)
  · exact wp_cond_true (hr.ev (x := .tmp c) hl) ((ht rfl).go a w (hr.also hl) hm)
/-- the same region with less known -/
theorem TL_sub (fr' : Fr) (hs : Subs fr' fr) (h : TL P n W ops Q rest fr' L) : TL P n W ops Q rest fr L := .mk fun a w hr hm => h.go a w (hr.sub hs) hm
/-- a call -/
theorem TL_call {f : FuncId} {args : Array Value} {ι : Type} {S : Spec ι} (he : ∀ a w, Rep n a fr → (execOp a.eval o).run P w = .ok (.enter f args) w) (hc : ∀ w, Mem W L w → Calls P f args w (Meets S w)) (hg : o.guard = none) (hd : o.dst = some d) (hn : Nat.blt d n = true)
    (h : ∀ x, S.ok x → TL P n W ops Q rest ((d, S.val x) :: fr) (L ++ S.own x)) : TL P n W ops Q (o :: rest) fr L := .mk fun a w hrep hm =>
  wpList_plain hg fun K hK => by
    unfold Oper.wp; rw [he a w hrep, Oper.upon_enter]
    refine (hc w hm).mono fun e w' ⟨x, h1, h2, h3, h4⟩ => ?_
    subst h2
    simp only [hd]
    exact hK _ _ ((h x h1).go _ w' (hrep.put hn _) (hm.append h3 h4))
theorem TL_gcall {f : FuncId} {args : Array Value} {ι : Type} {S : Spec ι} {j e : Nat} {b : Bool} (he : ∀ a w, Rep n a fr → (execOp a.eval o).run P w = .ok (.enter f args) w) (hc : ∀ w, Mem W L w → Calls P f args w (Meets S w)) (hg : o.guard = some (j, b)) (hj : (ops[j]?).bind (·.dst) = some e) (hl : look fr e = some (.bool b)) (hd : o.dst = some d) (hn : Nat.blt d n = true)
    (h : ∀ x, S.ok x → TL P n W ops Q rest ((d, S.val x) :: fr) (L ++ S.own x)) : TL P n W ops Q (o :: rest) fr L := .mk fun a w hrep hm =>
  BigFrame.wpList_want (wanted_yes hrep hg hj hl) fun K hK => by
    unfold Oper.wp; rw [he a w hrep, Oper.upon_enter]
    refine (hc w hm).mono fun e w' ⟨x, h1, h2, h3, h4⟩ => ?_
    subst h2
    simp only [hd]
    exact hK _ _ ((h x h1).go _ w' (hrep.put hn _) (hm.append h3 h4))
/-- a call that turns memory which it is handed over: 'is' of L, 'js' stay behind -/
def MeetsB {ι : Type} (S : Spec ι) (B : Base) (e : Ending) (w' : World) : Prop := ∃ x, S.ok x ∧ e = .returned (S.val x) ∧ Mem B (S.own x) w'
theorem Mem.meetsB {ι : Type} {S : Spec ι} {w : World} (x : ι) (hm : Mem W L w) (hx : S.ok x) (is : List Nat) (hn : is.Nodup) (hl : S.own x = is.filterMap fun i => L[i]?) : MeetsB S W (.returned (S.val x)) w :=
  ⟨x, hx, rfl, hm.pick is hn hl⟩
theorem split_pick {is js : List Nat} {Lx R : List Own} (hlx : Lx = is.filterMap fun i => L[i]?) (hlr : R = js.filterMap fun i => L[i]?) : Lx ++ R = (is ++ js).filterMap fun i => L[i]? := by
  rw [List.filterMap_append, ← hlx, ← hlr]
theorem TL_callB {f : FuncId} {args : Array Value} {ι : Type} {S : Spec ι} (is js : List Nat) {Lx R : List Own} (hn2 : (is ++ js).Nodup) (hlx : Lx = is.filterMap fun i => L[i]?) (hlr : R = js.filterMap fun i => L[i]?)
    (he : ∀ a w, Rep n a fr → (execOp a.eval o).run P w = .ok (.enter f args) w) (hc : ∀ w, Mem W L w → Mem (Base.on w Lx) Lx w → Calls P f args w (MeetsB S (Base.on w Lx))) (hg : o.guard = none) (hd : o.dst = some d) (hn : Nat.blt d n = true)
    (h : ∀ x, S.ok x → TL P n W ops Q rest ((d, S.val x) :: fr) (R ++ S.own x)) : TL P n W ops Q (o :: rest) fr L := .mk fun a w hrep hm =>
  wpList_plain hg fun K hK => by
    have hm2 : Mem W (Lx ++ R) w := hm.pick (is ++ js) hn2 (split_pick hlx hlr)
    have hm3 : Mem W Lx w := hm.pick is (List.nodup_append.1 hn2).1 hlx
    unfold Oper.wp; rw [he a w hrep, Oper.upon_enter]
    refine (hc w hm hm3.over).mono fun e w' ⟨x, h1, h2, h3⟩ => ?_
    subst h2
    simp only [hd]
    exact hK _ _ ((h x h1).go _ w' (hrep.put hn _) (hm2.back h3))
/-- the same, no result being kept -/
theorem TL_callB0 {f : FuncId} {args : Array Value} {ι : Type} {S : Spec ι} (is js : List Nat) {Lx R : List Own} (hn2 : (is ++ js).Nodup) (hlx : Lx = is.filterMap fun i => L[i]?) (hlr : R = js.filterMap fun i => L[i]?)
    (he : ∀ a w, Rep n a fr → (execOp a.eval o).run P w = .ok (.enter f args) w) (hc : ∀ w, Mem W L w → Mem (Base.on w Lx) Lx w → Calls P f args w (MeetsB S (Base.on w Lx))) (hg : o.guard = none) (hd : o.dst = none)
    (h : ∀ x, S.ok x → TL P n W ops Q rest fr (R ++ S.own x)) : TL P n W ops Q (o :: rest) fr L := .mk fun a w hrep hm =>
  wpList_plain hg fun K hK => by
    have hm2 : Mem W (Lx ++ R) w := hm.pick (is ++ js) hn2 (split_pick hlx hlr)
    have hm3 : Mem W Lx w := hm.pick is (List.nodup_append.1 hn2).1 hlx
    unfold Oper.wp; rw [he a w hrep, Oper.upon_enter]
    refine (hc w hm hm3.over).mono fun e w' ⟨x, h1, h2, h3⟩ => ?_
    subst h2
    simp only [hd]
    exact hK _ _ ((h x h1).go _ w' (hrep.put_none _) (hm2.back h3))
/-- whatever an operation does -/
theorem TL_any (hg : o.guard = none) (h : ∀ a w, Rep n a fr → Mem W L w → ∀ K : Act → World → Prop, (∀ a w, wpList P ops Q rest a w → K a w) → o.wp P a w K Q) : TL P n W ops Q (o :: rest) fr L := .mk fun a w hrep hm =>
  wpList_plain hg fun K hK => h a w hrep hm K hK

/-! a region that draws its order -/
theorem T_draw {id : Nat} {l : List Oper} (k : Nat) (ks : List Bool) (hk : ks.length = k) (hm : P.follows .mixedOrders = true) (hB : lexM .any l.toArray ks = true)
    (hQ : ∀ c a d v w, Q (.panic c) (Act.put a d v) w → Q (.panic c) a w)
    (h : TM P n W l.toArray Q (fun a' w' => wpList P l.toArray Q (l.drop k) a' w') ks (l.take k) fr L) : T P n W (.region id l.toArray true) Q fr L := .mk fun a w hr hmm =>
  mix.mix k ks hk hm hB (fun c a d v w => hQ c a d v w) (Mem W L) (closed_mem W L) hmm.drew (h.go a hr)
theorem TM_end {l : List Oper} (h : TL P n W ops Q l fr L) : TM P n W ops Q (fun a' w' => wpList P ops Q l a' w') [] [] fr L := .mk fun a hr => wpM_end fun w hw => h.go a w hr hw
theorem TM_val (hr : RR P n W o fr L v) (hg : o.guard = none) (hd : o.dst = some d) (hn : Nat.blt d n = true) (h : TM P n W ops Q K ks rest ((d, v) :: fr) L) : TM P n W ops Q K (true :: ks) (o :: rest) fr L := .mk fun a hrep =>
  wpM_val (wanted_none hg) (fun w hS => hr.go a w hrep hS) (by rw [hd]; exact h.go _ (hrep.put hn v))
theorem TM_gval {j e : Nat} {b : Bool} (hr : RR P n W o fr L v) (hg : o.guard = some (j, b)) (hj : (ops[j]?).bind (·.dst) = some e) (hl : look fr e = some (.bool b)) (hd : o.dst = some d) (hn : Nat.blt d n = true) (h : TM P n W ops Q K ks rest ((d, v) :: fr) L) : TM P n W ops Q K (true :: ks) (o :: rest) fr L := .mk fun a hrep =>
  wpM_val (wanted_yes hrep hg hj hl) (fun w hS => hr.go a w hrep hS) (by rw [hd]; exact h.go _ (hrep.put hn v))
theorem TM_skip {j e : Nat} {b : Bool} {u : Value} (hg : o.guard = some (j, b)) (hj : (ops[j]?).bind (·.dst) = some e) (hl : look fr e = some u) (hu : notB b u = true) (hd : o.dst = some d) (hn : Nat.blt d n = true) (h : TM P n W ops Q K ks rest ((d, undef) :: fr) L) : TM P n W ops Q K (true :: ks) (o :: rest) fr L := .mk fun a hrep =>
  wpM_skip (wanted_no hrep hg hj hl hu) (by rw [hd]; exact h.go _ (hrep.put hn undef))
theorem TM_call {f : FuncId} {args : Array Value} (he : ∀ a w, Rep n a fr → (execOp a.eval o).run P w = .ok (.enter f args) w) (hc : ∀ w, Mem W L w → Calls P f args w (Meets (ret v) w)) (hg : o.guard = none) (hd : o.dst = some d) (hn : Nat.blt d n = true)
    (h : TM P n W ops Q K ks rest ((d, v) :: fr) L) : TM P n W ops Q K (true :: ks) (o :: rest) fr L := .mk fun a hrep =>
  wpM_call (wanted_none hg) (fun w => he a w hrep) (fun w hw => (hc w hw).mono fun _ _ h => of_meets h) (by rw [hd]; exact h.go _ (hrep.put hn v))
theorem TM_gcall {f : FuncId} {args : Array Value} {j e : Nat} {b : Bool} (he : ∀ a w, Rep n a fr → (execOp a.eval o).run P w = .ok (.enter f args) w) (hc : ∀ w, Mem W L w → Calls P f args w (Meets (ret v) w)) (hg : o.guard = some (j, b)) (hj : (ops[j]?).bind (·.dst) = some e) (hl : look fr e = some (.bool b)) (hd : o.dst = some d) (hn : Nat.blt d n = true)
    (h : TM P n W ops Q K ks rest ((d, v) :: fr) L) : TM P n W ops Q K (true :: ks) (o :: rest) fr L := .mk fun a hrep =>
  wpM_call (wanted_yes hrep hg hj hl) (fun w => he a w hrep) (fun w hw => (hc w hw).mono fun _ _ h => of_meets h) (by rw [hd]; exact h.go _ (hrep.put hn v))
/-- a guarded operation whose guard is met -/
theorem TL_metg {q e : Nat} {b : Bool} (hg : o.guard = some (q, b)) (hj : (ops[q]?).bind (·.dst) = some e) (hl : look fr e = some (.bool b)) (h : TL P n W ops Q ({ o with guard := none } :: rest) fr L) : TL P n W ops Q (o :: rest) fr L := .mk fun a w hr hm => by
  have h1 := h.go a w hr hm
  unfold wpList at h1 ⊢
  rw [if_pos (wanted_none rfl)] at h1
  rw [if_pos (wanted_yes hr hg hj hl)]
  exact h1
/-! the same with the guard asked first (what does not fit falls at once) -/
theorem TL_valg (hg : o.guard = none) (hr : RR P n W o fr L v) (hd : o.dst = some d) (hn : Nat.blt d n = true) (h : TL P n W ops Q rest ((d, v) :: fr) L) : TL P n W ops Q (o :: rest) fr L := TL_val hr hg hd hn h
theorem TL_gvalg {j e : Nat} {b : Bool} (hg : o.guard = some (j, b)) (hj : (ops[j]?).bind (·.dst) = some e) (hl : look fr e = some (.bool b)) (hr : RR P n W o fr L v) (hd : o.dst = some d) (hn : Nat.blt d n = true) (h : TL P n W ops Q rest ((d, v) :: fr) L) : TL P n W ops Q (o :: rest) fr L := TL_gval hr hg hj hl hd hn h
theorem TM_valg (hg : o.guard = none) (hr : RR P n W o fr L v) (hd : o.dst = some d) (hn : Nat.blt d n = true) (h : TM P n W ops Q K ks rest ((d, v) :: fr) L) : TM P n W ops Q K (true :: ks) (o :: rest) fr L := TM_val hr hg hd hn h
theorem TM_gvalg {j e : Nat} {b : Bool} (hg : o.guard = some (j, b)) (hj : (ops[j]?).bind (·.dst) = some e) (hl : look fr e = some (.bool b)) (hr : RR P n W o fr L v) (hd : o.dst = some d) (hn : Nat.blt d n = true) (h : TM P n W ops Q K ks rest ((d, v) :: fr) L) : TM P n W ops Q K (true :: ks) (o :: rest) fr L := TM_gval hr hg hj hl hd hn h
end
end
end Go.Proofs.Ytnicebdkejkieaa.eng

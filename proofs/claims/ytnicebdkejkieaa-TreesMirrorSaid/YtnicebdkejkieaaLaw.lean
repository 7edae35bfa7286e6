/- From a walk to a row: whatever arguments: the call answers true and makes new memory alone: so the law's row holds. -/
import Derived.Test.YtnicebdkejkieaaRows
import Derived.WalkKit
import Derived.ProofKit
import Derived.OpenShut
import Derived.ShutString
import Derived.SizedLaws
import Derived.JoinedCond
import Derived.Deep.CondSized
namespace Go.Proofs.Ytnicebdkejkieaa.law
open Go.ChangeShapes Go.WideShapes Go.ChangeAt Go.RowKit

theorem own : ownKnob Try.prog.godebug = none := by kernel_rfl
theorem laidOut : laidOutB Try.prog = true := by kernel_rfl

/-- what is known of the arguments ahead of the call -/
structure Given {H : Type} (enc : TypeId × Value → H) (fn : Func) (W : World) (base : Nat) (args : Array Value) (ds : List (DataW H)) (p : List MemPlace) : Prop where
  val : ∀ (j : Nat) t v, fn.params[j]? = some t → args[j]? = some v → Value.okWide Try.prog W .any base t v
  trod : DataW.TrodAll enc Try.prog W 0 (fun _ => true) true fn.params.toList args.toList ds p
  sized : (DataW.weightsEach Try.prog fn.params.toList ds).all (· ≤ reachBytes) = true
  free : W.noneFrozen p

/-- each parameter's type can be read -/
noncomputable def readB (fn : Func) : Bool := fn.params.toList.all fun t => Try.prog.readableRec t && decide (t < Try.prog.types.size)

section
variable {H : Type} {enc : TypeId × Value → H}
theorem trodAll_stays {P : Program} (hl : laidOutB P = true) {W W' : World} {sp' : Nat → Bool} : ∀ {ts : List TypeId} {vs : List Value} {ds : List (DataW H)} {ps : List MemPlace}, (ts.all fun t => P.readableRec t && decide (t < P.types.size)) = true →
    DataW.TrodAll enc P W 0 (fun _ => true) true ts vs ds ps → (∀ p ∈ ps, W.sameAt W' p) → (∀ p ∈ ps, sp' p.block = true) → DataW.TrodAll enc P W' 0 sp' true ts vs ds ps
  | [], [], [], _, _, h, _, _ => h
  | t :: ts, v :: vs, d :: ds, _, hb, ⟨p, q, h1, h2, e⟩, h3, h4 => by
    simp only [List.all_cons, Bool.and_eq_true, decide_eq_true_eq] at hb
    subst e
    exact ⟨p, q, WideElems.Trod_stays hl hb.1.1 hb.1.2 h1 (fun x hx => h3 x (by simp [hx])) (fun x hx => h4 x (by simp [hx])),
      trodAll_stays hl hb.2 h2 (fun x hx => h3 x (by simp [hx])) (fun x hx => h4 x (by simp [hx])), rfl⟩
  | [], _ :: _, _, _, _, h, _, _ => h.elim
  | [], [], _ :: _, _, _, h, _, _ => h.elim
  | _ :: _, [], _, _, _, h, _, _ => h.elim
  | _ :: _, _ :: _, [], _, _, h, _, _ => h.elim

theorem trodAll_length {P : Program} {W : World} {sp : Nat → Bool} : ∀ {ts : List TypeId} {vs : List Value} {ds : List (DataW H)} {ps : List MemPlace}, DataW.TrodAll enc P W 0 sp true ts vs ds ps → ds.length = ts.length
  | [], [], [], _, _ => rfl
  | _ :: ts, _ :: vs, _ :: ds, _, ⟨_, _, _, h2, _⟩ => by simp [trodAll_length h2]
  | [], _ :: _, _, _, h => h.elim
  | [], [], _ :: _, _, h => h.elim
  | _ :: _, [], _, _, h => h.elim
  | _ :: _, _ :: _, [], _, h => h.elim

/-- what a law's specification says -/
def SaysTrue (fn : Func) (s : ChangeSpec) : Prop := s.vars = [] ∧ ∀ (H : Type) (ds : List (DataW H)), ds.length = fn.params.size → s.fn H ds = { results := [.lit (.bool true)], args := ds }

theorem post_of {fn : Func} {s : ChangeSpec} {W W' : World} {args : Array Value} {ds gs : List (DataW H)} {before : List MemPlace} (hs : SaysTrue fn s) (hread : readB fn = true) (hres : fn.resultTypes = #[4])
    (hW : DataW.Whole enc Try.prog fn.params.toList s.vars false W args.toList ds gs before) (hb : Below W.heap.size W W') :
    s.post enc Try.prog fn false true false false W args (.bool true) W' := by
  obtain ⟨hv, hfn⟩ := hs
  have hW' := hW
  obtain ⟨p, q, hA, hV, rfl, hfz, hnd⟩ := hW
  rw [hv] at hV
  obtain ⟨rfl, rfl⟩ := trodVars_none hV
  have hlen : ds.length = fn.params.size := by rw [trodAll_length hA]; simp
  have hlt : ∀ x ∈ p, x.block < W.heap.size := fun x hx => hW'.lt x (by simp [hx])
  have he : s.fn H (ds ++ []) = { results := [.lit (.bool true)], args := ds } := by rw [List.append_nil]; exact hfn H ds hlen
  refine ⟨ds, [], p ++ [], [], p, [], hW', ?_, ?_, ?_, hb.frame _, fun h => by cases h⟩
  · rw [he, hres]
    exact trodAll_mk1 (shut_bool Try.underlying4 true)
  · rw [he]
    exact trodAll_stays laidOut hread hA (fun x hx => hb.same (hlt x hx)) (fun x hx => by simpa using hlt x hx)
  · rw [he, hv]
    rfl
end

set_option maxRecDepth 100000 in
theorem said {os : Os} {f : FuncId} {fn : Func} {s : ChangeSpec} (started : os.Started) (noInit : Try.prog.inits.idxOf? f = none) (hf : Try.prog.funcs[f]? = some fn) (hs : SaysTrue fn s) (hread : readB fn = true) (hres : fn.resultTypes = #[4])
    {H : Type} {enc : TypeId × Value → H}
    (witness : ∃ (w : World) (tape : Tape) (i : Input), w.os = os ∧ (w.forCall tape i).Shaped Try.checked.prog ∧ i.vars = [] ∧ Input.okWide Try.checked.prog (w.forCall tape i) .any w.heap.size f i ∧
      s.pre6 enc Try.checked.prog fn [] false (w.forCall tape i).memory i.args ∧ ({} : Assume).holds Try.checked.prog (lone (Frame.enter Try.checked.prog f i.args .normal) [] (w.forCall tape i)))
    (walk : ∀ (W : World) (base : Nat) (args : Array Value) (ds : List (DataW H)) (p : List MemPlace), Given enc fn W base args ds p → Calls Try.prog f args W fun e W' => e = .returned (.bool true) ∧ Below W.heap.size W W') :
    ReturnsInHanded {} Try.checked os f .any (s.pre6 enc Try.prog fn [] false) (s.post enc Try.prog fn false true false false) := by
  refine returnsInHanded_of_change_sized (C := Try.checked) own started noInit hf witness ?_
  intro W base args ds gs before hval hW _ hsz _
  have hW' := hW
  obtain ⟨p, q, hA, hV, rfl, hfz, hnd⟩ := hW
  rw [hs.1] at hV
  obtain ⟨rfl, rfl⟩ := trodVars_none hV
  have hsz' : (DataW.weightsEach Try.prog fn.params.toList ds).all (· ≤ reachBytes) = true := by
    have e : s.plain.varTypes Try.prog = [] := by simp [ChangeSpec.plain, DataSpec.varTypes, hs.1]
    have := hsz
    rw [show s.plain.varTypes Try.checked.prog = [] from e] at this
    rw [List.append_nil, List.append_nil] at this
    exact this
  refine (walk W base args ds p ⟨hval, hA, hsz', fun b off h => hfz b off (by simp [h])⟩).mono fun e W' ⟨he, hb⟩ => ?_
  exact ⟨_, he, post_of hs hread hres hW' hb⟩

set_option maxRecDepth 100000 in
/-- the same where what is read is small -/
theorem upto {os : Os} {f : FuncId} {fn : Func} {s : ChangeSpec} {F : Stop.Interp} (started : os.Started) (noInit : Try.prog.inits.idxOf? f = none) (hf : Try.prog.funcs[f]? = some fn) (hs : SaysTrue fn s) (hread : readB fn = true) (hres : fn.resultTypes = #[4])
    {H : Type} {enc : TypeId × Value → H}
    (witness : ∃ (w : World) (tape : Tape) (i : Input), w.os = os ∧ (w.forCall tape i).Shaped Try.checked.prog ∧ i.vars = [] ∧ Input.okWide Try.checked.prog (w.forCall tape i) .any w.heap.size f i ∧
      (Rows.OpenSpec.upto s).pre6 enc Try.checked.prog fn [] false (w.forCall tape i).memory i.args ∧ ({} : Assume).holds Try.checked.prog (lone (Frame.enter Try.checked.prog f i.args .normal) [] (w.forCall tape i)))
    (walk : ∀ (W : World) (base : Nat) (args : Array Value) (ds : List (DataW H)) (p : List MemPlace), Given enc fn W base args ds p → Rows.uptoSmall H ds = true → Calls Try.prog f args W fun e W' => e = .returned (.bool true) ∧ Below W.heap.size W W') :
    ReturnsInHanded {} Try.checked os f .any ((Rows.OpenSpec.upto s).pre6 enc Try.prog fn [] false) (((Rows.OpenSpec.upto s).at F).post enc Try.prog fn false true false false) := by
  refine returnsInHanded_of_cond_sized (C := Try.checked) (s := Rows.OpenSpec.upto s) (k := Rows.uptoSmall) rfl own started noInit hf witness ?_
  intro W base args ds gs before hval hW _ hk hsz _
  have hW' := hW
  obtain ⟨p, q, hA, hV, rfl, hfz, hnd⟩ := hW
  have hvars : (Rows.OpenSpec.upto s).vars = [] := hs.1
  rw [hvars] at hV
  obtain ⟨rfl, rfl⟩ := trodVars_none hV
  have hsz' : (DataW.weightsEach Try.prog fn.params.toList ds).all (· ≤ reachBytes) = true := by
    have e : (Rows.OpenSpec.upto s).bare.plain.varTypes Try.prog = [] := by simp [OpenSpec.bare, ChangeSpec.plain, DataSpec.varTypes, hvars]
    have := hsz
    rw [show (Rows.OpenSpec.upto s).bare.plain.varTypes Try.checked.prog = [] from e] at this
    rw [List.append_nil, List.append_nil] at this
    exact this
  refine (walk W base args ds p ⟨hval, hA, hsz', fun b off h => hfz b off (by simp [h])⟩ (by simpa using hk)).mono fun e W' ⟨he, hb⟩ => ?_
  exact ⟨_, he, post_of (s := (Rows.OpenSpec.upto s).at F) hs hread hres hW' hb⟩
end Go.Proofs.Ytnicebdkejkieaa.law

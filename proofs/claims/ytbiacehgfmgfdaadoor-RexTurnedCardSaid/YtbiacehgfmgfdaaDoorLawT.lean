/- From a walk to a row that takes the library's table as its text lays it. -/
import Derived.Test.YtbiacehgfmgfdaaDoorMgA
import Derived.Test.YtbiacehgfmgfdaaDoorClassN
import Derived.Handed
import Derived.Lay
import Derived.Lib.LaidTab
import Derived.MakeChecks
namespace Go.Proofs.YtbiacehgfmgfdaaDoor.law
open Go.ChangeShapes Go.WideShapes Go.ChangeAt Go.RowKit
def tabs : List (String × DataW Unit) := [("math/bits.deBruijn64tab", Rows.laid_math_bits_deBruijn64tab)]
def zs : List Int := Lib.deBruijn64tab.map fun (n : Nat) => (n : Int)
theorem tab_of {W : World} (h : laidMetH Tryd.prog tabs W) : eng.TabW W := by
  rw [MakeChecks.laidMetH_plain _ _ _ (by kernel_rfl)] at h
  have h' : laidMet Tryd.prog (("math/bits.deBruijn64tab", Lib.tabData .u8 zs) :: []) W := h
  have hT := Lib.tabIs_of_head (g := 0) (t := 65) (e := 5) (n := 64) (by kernel_rfl) (by kernel_rfl) Tryd.underlying65 Tryd.underlying5 (by kernel_rfl) (by kernel_rfl) h'
  intro j u hj
  have hjl : j < 64 := by
    have := (List.getElem?_eq_some_iff.1 hj).1
    have e : eng.tabC.length = 64 := by unfold eng.tabC; rw [List.length_map]; decide
    omega
  have hz : zs.length = 64 := by unfold zs; rw [List.length_map]; decide
  have hc := hT.cell (g := 0) (by kernel_rfl) j (by omega)
  rw [Nat.zero_add]
  rw [hc]
  have : eng.tabC = zs.map fun z => Value.int .u8 z := by unfold eng.tabC zs; rw [List.map_map]; rfl
  rw [this, List.getElem?_map, List.getElem?_eq_getElem (by omega : j < zs.length)] at hj
  simp only [Option.map_some, Option.some.injEq] at hj
  rw [← hj, List.getD_eq_getElem?_getD, List.getElem?_eq_getElem (by omega : j < zs.length)]
  rfl
set_option maxRecDepth 100000 in
theorem saidT {os : Os} {f : FuncId} {fn : Func} {s : ChangeSpec} (started : os.Started) (noInit : Tryd.prog.inits.idxOf? f = none) (hf : Tryd.prog.funcs[f]? = some fn) (hs : SaysTrue fn s) (hread : readB fn = true) (hres : fn.resultTypes = #[4])
    {H : Type} {enc : TypeId × Value → H}
    (witness : ∃ (w : World) (tape : Tape) (i : Input), w.os = os ∧ (w.forCall tape i).Shaped Tryd.checked.prog ∧ i.vars = [] ∧ Input.okWide Tryd.checked.prog (w.forCall tape i) .any w.heap.size f i ∧
      ((s.pre enc Tryd.checked.prog fn [] false (w.forCall tape i).memory i.args ∧ laidMetH Tryd.prog tabs (w.forCall tape i).memory) ∧ sizedMet enc Tryd.checked.prog fn (OpenSpec.ofChange s) false (w.forCall tape i).memory i.args) ∧ ({} : Assume).holds Tryd.checked.prog (lone (Frame.enter Tryd.checked.prog f i.args .normal) [] (w.forCall tape i)))
    (walk : ∀ (W : World) (base : Nat) (args : Array Value) (ds : List (DataW H)) (p : List MemPlace), Given enc fn W base args ds p → eng.TabW W → Calls Tryd.prog f args W fun e W' => e = .returned (.bool true) ∧ Below W.heap.size W W') :
    ReturnsInHanded {} Tryd.checked os f .any (fun w args => (s.pre enc Tryd.prog fn [] false w args ∧ laidMetH Tryd.prog tabs w) ∧ sizedMet enc Tryd.prog fn (OpenSpec.ofChange s) false w args) (s.post enc Tryd.prog fn false true false false) := by
  refine returnsInHanded_of_change_and (C := Tryd.checked) (X := fun w _ => laidMetH Tryd.prog tabs w) (fun _ _ _ hh h => h.of_heap hh) own started noInit hf witness ?_
  intro W base args ds gs before hval hW _ hsz hL _
  have hW' := hW
  obtain ⟨p, q, hA, hV, rfl, hfz, hnd⟩ := hW
  rw [hs.1] at hV
  obtain ⟨rfl, rfl⟩ := trodVars_none hV
  have hsz' : (DataW.weightsEach Tryd.prog fn.params.toList ds).all (· ≤ reachBytes) = true := by
    have e : s.plain.varTypes Tryd.prog = [] := by simp [ChangeSpec.plain, DataSpec.varTypes, hs.1]
    have := hsz
    rw [show s.plain.varTypes Tryd.checked.prog = [] from e] at this
    rw [List.append_nil, List.append_nil] at this
    exact this
  refine (walk W base args ds p ⟨hval, hA, hsz', fun b off h => hfz b off (by simp [h])⟩ (tab_of hL)).mono fun e W' ⟨he, hb⟩ => ?_
  exact ⟨_, he, post_of hs hread hres hW' hb⟩
theorem laid_fits (os : Os) : (World.holding Tryd.prog os ⟨#[], #[], []⟩).layFits Tryd.prog tabs [] = true := by kernel_rfl
theorem laid_ifaces (os : Os) : (World.holding Tryd.prog os ⟨#[], #[], []⟩).layIfaces Tryd.prog tabs (World.laidAll Tryd.prog os tabs) = true := by kernel_rfl
theorem laid_met (os : Os) (args : Array Value) : laidMetH Tryd.prog tabs ((World.laidAll Tryd.prog os tabs).forCall (fun _ _ => 0) ⟨#[], args, []⟩).memory := by
  rw [MakeChecks.laidMetH_plain _ _ _ (by kernel_rfl)]
  exact laidMet_laidAll args (laid_fits os) (laid_ifaces os)
end Go.Proofs.YtbiacehgfmgfdaaDoor.law

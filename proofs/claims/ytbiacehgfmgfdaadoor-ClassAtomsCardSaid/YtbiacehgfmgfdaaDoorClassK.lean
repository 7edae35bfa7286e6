/- Classes as keys of maps. -/
import Derived.Test.YtbiacehgfmgfdaaDoorClassN
import Derived.Test.YtbiacehgfmgfdaaDoorMapE
namespace Go.Proofs.YtbiacehgfmgfdaaDoor.eng
open Go.RowKit kit mix classL
theorem clsLaid : laidOutB Tryd.prog = true := by kernel_rfl
theorem clsRow : (27 : TypeId) < Tryd.prog.types.size := of_decide_eq_true (by kernel_rfl)
theorem clsWide : (match Tryd.prog.underlying 27 with | some (.array _ _) | some (.struct _) => true | _ => false) = true := by kernel_rfl
theorem cls_key (x : C4) : ∃ l, keyOf Tryd.prog 27 (clsV x) = some l := by
  obtain ⟨a, b, c, d⟩ := x
  have e1 : Tryd.prog.keyType 27 = true := by kernel_rfl
  have e2 : Tryd.prog.cellsOf 27 = 4 := by kernel_rfl
  have e3 : Tryd.prog.cellsOf 25 = 1 := by kernel_rfl
  have e4 : ∃ d, Tryd.prog.types.size + 1 = d + 2 := ⟨Tryd.prog.types.size - 1, by have : 0 < Tryd.prog.types.size := Nat.lt_of_le_of_lt (Nat.zero_le 27) clsRow; omega⟩
  obtain ⟨dd, e4⟩ := e4
  have key : ∀ v : BitVec 64, Tryd.prog.keyLits (dd + 1) 25 [.int .u64 (n64 v)] = some [.int .u64 (n64 v)] := fun v => by
    have hw : (Lit.int .u64 (n64 v)).wf = true := by
      have h0 := n64_lo v
      have h1 := n64_hi v
      simp [Lit.wf, IntKind.min, IntKind.max, IntKind.signed, IntKind.bits, h0, h1]
    simp [Program.keyLits, Tryd.underlying25, hw]
  have hl : Tryd.prog.keyLits (dd + 2) 27 [.int .u64 (n64 a), .int .u64 (n64 b), .int .u64 (n64 c), .int .u64 (n64 d)] = some [.int .u64 (n64 a), .int .u64 (n64 b), .int .u64 (n64 c), .int .u64 (n64 d)] := by
    unfold Program.keyLits
    simp [Tryd.underlying27, e2, e3, List.range_succ_eq_map, key]
  have hf : (clsV ⟨a, b, c, d⟩).formed Tryd.prog 27 = true := by simp [clsV, Value.formed, Tryd.underlying27, e2]
  unfold keyOf
  rw [Tryd.underlying27]
  refine ⟨.string (keyBytes ([.int .u64 (n64 a), .int .u64 (n64 b), .int .u64 (n64 c), .int .u64 (n64 d)])), ?_⟩
  show (if (Tryd.prog.keyType 27 && (clsV ⟨a, b, c, d⟩).formed Tryd.prog 27) = true then (Tryd.prog.keyLits (Tryd.prog.types.size + 1) 27 [.int .u64 (n64 a), .int .u64 (n64 b), .int .u64 (n64 c), .int .u64 (n64 d)]).map (fun ls => Lit.string (keyBytes ls)) else none) = _
  rw [e1, hf, e4, hl]
  rfl
set_option maxRecDepth 100000 in
def clsK : KeyT Tryd.prog 27 C4 where
  kv := clsV
  ok _ := True
  law := deep_law_laid clsLaid (m := 2) (by omega) clsRow (by kernel_rfl) clsWide
  key x _ := cls_key x
  inj x y h := by
    simp only [clsV, Value.agg.injEq, Array.mk.injEq, List.cons.injEq, Value.int.injEq, true_and, and_true] at h
    exact C4.ext' (n64_inj h.1) (n64_inj h.2.1) (n64_inj h.2.2.1) (n64_inj h.2.2.2)
theorem zeroInt (w : World) : (zeroValue 3).run Tryd.prog w = .ok (.int .i64 0) w := by kernel_rfl
end Go.Proofs.YtbiacehgfmgfdaaDoor.eng

/- Part 4 of what ItemsGrow needs: SortJ, ItE, OrdJ, ClassL, RexL, RexS, PlN, ClassB, PlR, ItF, ItH, ItG, ItS, ItQ, ItT, ItemsGrowW. -/
import Derived.Test.YtmcclhddjielnaaMgC
import Derived.WalkKit
import Derived.WalkSpells
import Derived.WalkLawsBesides
import Derived.Deep.RegionLaw
import Derived.Deep.AppendLies
import Derived.Deep.QuietTactic
import Derived.BigQuiet
import Derived.Deep.DeepCutAuto
import Derived.Lib.Hide
import Derived.Test.YtmcclhddjielnaaRows
import Derived.ProofKit
import Derived.OpenShut
import Derived.ShutString
import Derived.SizedLaws
import Derived.JoinedCond
import Derived.Deep.CondSized
import Derived.Deep.Quiet
import Derived.StillTail
import Derived.Deep.LoopGhost
import Derived.Laws.BitsLemmas
import Derived.Laws.BytesString
import Derived.Test.YtmcclhddjielnaaProg
import Derived.Laws.StructEq
import Derived.Laws.MakeOwn
import Derived.Laws.AppendOwn
import Derived.Laws.Entries
import Derived.Maps.OwnSet
import Derived.DeepKeys4
import Derived.WideKeyEntry
import Derived.Sort.Grow
import Derived.Lib.Walk
import Derived.Deep.RegionWith
import Derived.Shelf.SlGeneric
import Derived.Shelf.SlSortCmp.NoneTotal
import Derived.Ground.SlsfProg
import Derived.Deep.RegionHeld
import Derived.Laws.BitsAllLaws
/- SortJ -/
namespace Go.Proofs.Ytmcclhddjielnaa.eng
open Go.Shelf
def sortIt_ren : Go.Shelf.Ren := ⟨fun | 6 => 30 | 15 => 37 | 14 => 36 | 28 => 51 | 29 => 52 | 20 => 43 | 21 => 44 | 22 => 45 | 23 => 46 | 24 => 47 | 25 => 48 | 26 => 49 | 27 => 50 | 46 => 56 | 47 => 57 | 48 => 58 | 49 => 59 | 50 => 60 | 57 => 64 | n => n, fun | 22 => 25 | 24 => 31 | 25 => 75 | 3 => 3 | 39 => 84 | 0 => 0 | 53 => 105 | 55 => 72 | 4 => 4 | 46 => 99 | 45 => 98 | 50 => 61 | 5 => 5 | 9 => 9 | 66 => 110 | 70 => 114 | 76 => 119 | 77 => 120 | n => n, fun | n => n⟩
theorem sortIt : Go.Proofs.SlLaysF0.n6 Try.prog sortIt_ren := {
  mixed := by kernel_rfl
  f6 := ⟨Try.f30.name, by decide, Try.func30.trans (congrArg some (by kernel_rfl))⟩
  f14 := ⟨Try.f36.name, by decide, Try.func36.trans (congrArg some (by kernel_rfl))⟩
  f15 := Try.func37.trans (congrArg some (by kernel_rfl))
  f20 := ⟨Try.f43.name, by decide, Try.func43.trans (congrArg some (by kernel_rfl))⟩
  f21 := ⟨Try.f44.name, by decide, Try.func44.trans (congrArg some (by kernel_rfl))⟩
  f22 := ⟨Try.f45.name, by decide, Try.func45.trans (congrArg some (by kernel_rfl))⟩
  f23 := ⟨Try.f46.name, by decide, Try.func46.trans (congrArg some (by kernel_rfl))⟩
  f24 := ⟨Try.f47.name, by decide, Try.func47.trans (congrArg some (by kernel_rfl))⟩
  f25 := ⟨Try.f48.name, by decide, Try.func48.trans (congrArg some (by kernel_rfl))⟩
  f26 := ⟨Try.f49.name, by decide, Try.func49.trans (congrArg some (by kernel_rfl))⟩
  f27 := ⟨Try.f50.name, by decide, Try.func50.trans (congrArg some (by kernel_rfl))⟩
  f28 := Try.func51.trans (congrArg some (by kernel_rfl))
  f29 := Try.func52.trans (congrArg some (by kernel_rfl))
  f46 := ⟨Try.f56.name, by decide, Try.func56.trans (congrArg some (by kernel_rfl))⟩
  f47 := Try.func57.trans (congrArg some (by kernel_rfl))
  f48 := Try.func58.trans (congrArg some (by kernel_rfl))
  f49 := ⟨Try.f59.name, by decide, Try.func59.trans (congrArg some (by kernel_rfl))⟩
  f50 := ⟨Try.f60.name, by decide, Try.func60.trans (congrArg some (by kernel_rfl))⟩
  f57 := ⟨Try.f64.name, by decide, Try.func64.trans (congrArg some (by kernel_rfl))⟩
  t0 := Try.underlying0
  a0 := Try.isAgg0
  z0 := Try.sizeOf0
  v0 := Try.zeroValue0
  t3 := Try.underlying3
  a3 := Try.isAgg3
  z3 := Try.sizeOf3
  v3 := Try.zeroValue3
  t4 := Try.underlying4
  a4 := Try.isAgg4
  z4 := Try.sizeOf4
  v4 := Try.zeroValue4
  t5 := Try.underlying5
  a5 := Try.isAgg5
  z5 := Try.sizeOf5
  v5 := Try.zeroValue5
  t9 := Try.underlying9
  a9 := Try.isAgg9
  z9 := Try.sizeOf9
  v9 := Try.zeroValue9
  t22 := Try.underlying25
  a22 := Try.isAgg25
  z22 := Try.sizeOf25
  v22 := Try.zeroValue25
  t25 := Try.underlying75
  a25 := Try.isAgg75
  z25 := Try.sizeOf75
  v25 := Try.zeroValue75
  t39 := Try.underlying84
  a39 := Try.isAgg84
  z39 := Try.sizeOf84
  v39 := Try.zeroValue84
  t45 := Try.underlying98
  a45 := Try.isAgg98
  z45 := Try.sizeOf98
  v45 := Try.zeroValue98
  t46 := Try.underlying99
  a46 := Try.isAgg99
  z46 := Try.sizeOf99
  v46 := Try.zeroValue99
  t50 := Try.underlying61
  a50 := Try.isAgg61
  z50 := Try.sizeOf61
  v50 := Try.zeroValue61
  t53 := Try.underlying105
  a53 := Try.isAgg105
  z53 := Try.sizeOf105
  v53 := Try.zeroValue105
  t55 := Try.underlying72
  a55 := Try.isAgg72
  z55 := Try.sizeOf72
  v55 := Try.zeroValue72
  t66 := Try.underlying110
  a66 := Try.isAgg110
  z66 := Try.sizeOf110
  v66 := Try.zeroValue110
  t70 := Try.underlying114
  a70 := Try.isAgg114
  z70 := Try.sizeOf114
  v70 := Try.zeroValue114
  t76 := Try.underlying119
  a76 := Try.isAgg119
  z76 := Try.sizeOf119
  v76 := Try.zeroValue119
  t77 := Try.underlying120
  a77 := Try.isAgg120
  z77 := Try.sizeOf120
  v77 := Try.zeroValue120 }
end Go.Proofs.Ytmcclhddjielnaa.eng

/- ItE -/
namespace Go.Proofs.Ytmcclhddjielnaa.eng
open Go.RowKit kit mix itemL Go.Sort
theorem put_blockV (w : World) (n g : Nat) (d : Array Value) (os : Array Obj) {k : Nat} (hk : k < w.heap.size) (hg : k ≠ g) : (grow (putRow id (Go.Sort.ahead w n) g 0 d) os).heap[k]? = w.heap[k]? := by
  rw [heap_grow_old _ _ (by rw [size_putRow]; exact hk)]
  show (w.heap.modify g _)[k]? = w.heap[k]?
  rw [Array.getElem?_modify, if_neg (fun h => hg h.symm)]
theorem put_memV {B : Base} {w : World} {e : TypeId} {g cap m size : Nat} {xs : List Value} (hm : Mem B [rowO e size (.slice (some ⟨g, 0, none⟩) m cap) m xs] w) (d : Array Value) (hd : d.size = m * size) (n : Nat) (os : Array Obj) :
    Mem B [rowO e size (.slice (some ⟨g, 0, none⟩) m cap) m d.toList] (grow (putRow id (Go.Sort.ahead w n) g 0 d) os) := by
  have ho : w.ownsRow 0 e size (.slice (some ⟨g, 0, none⟩) m cap) m xs := hm.get (i := 0) rfl
  obtain ⟨hl, hr⟩ := ho
  rcases hr with ⟨h, _⟩ | ⟨g2, cap2, cur, hv, _, hg, hc, hx, hs, ht⟩
  · cases h
  cases hv
  have hmay : B.may g := (hm.owns.all 0 _ rfl).2 g (.inl rfl)
  have hgw : g < w.heap.size := (Array.getElem?_eq_some_iff.1 hg).1
  have hheap : (grow (putRow id (Go.Sort.ahead w n) g 0 d) os).heap[g]? = some (.cells (putCells id 0 d cur) e (0, 0)) := by
    rw [heap_grow_old _ _ (by rw [size_putRow]; exact hgw)]
    show (w.heap.modify g (onCells (putCells id 0 d)))[g]? = _
    rw [Array.getElem?_modify, if_pos rfl, hg]; rfl
  have hle : m * size ≤ cap * size := Nat.mul_le_mul_right _ hc
  refine ⟨⟨hm.low.os, hm.low.tape, hm.low.output, ?_, fun k hk hx => ?_⟩, OwnsP.one ⟨?_, .inr ⟨g, cap, _, rfl, Nat.zero_le _, hheap, hc, hx, ?_, ?_⟩⟩ fun k hk => ?_⟩
  · rw [size_grow, size_putRow]; exact Nat.le_trans hm.low.size (Nat.le_add_right _ _)
  · have hkg : k ≠ g := fun e => by
      subst e
      rcases hmay with h | h
      · omega
      · exact hx h
    rw [put_blockV w n g d os (Nat.lt_of_lt_of_le hk hm.low.size) hkg]
    exact hm.low.block k hk hx
  · rw [Array.length_toList, hd]
  · unfold putCells; rw [Array.size_mapIdx]; exact hs
  · apply List.ext_getElem?
    intro j
    rw [List.getElem?_take]
    by_cases hj : j < m * size
    · have hjc : j < cur.size := by omega
      rw [if_pos hj, Array.getElem?_toList, Array.getElem?_toList]
      unfold putCells
      rw [Array.getElem?_mapIdx, Array.getElem?_eq_getElem hjc, Option.map_some, if_pos ⟨Nat.zero_le _, by omega⟩, Nat.sub_zero, getElem!_pos d j (by omega), Array.getElem?_eq_getElem (by omega : j < d.size)]
      rfl
    · rw [if_neg hj, Array.getElem?_toList, Array.getElem?_eq_none (by omega)]
  · rcases hk with h | h
    · simp only [rowO, Value.ownBlock, Option.some.injEq] at h; subst h; exact hmay
    · exact h.elim
theorem swo_it : SWO (ltOf ordI) := ⟨ltI_irr, fun _ _ _ h1 h2 => ltI_tr h1 h2, fun x y z h1 h2 => by
  have h1 : ltI x y = false := h1
  have h2 : ltI y z = false := h2
  show ltI x z = false
  rw [ltI_no] at *; omega⟩
theorem flat_it (l : List itemL.Item) : (flatK itC 3 l.toArray).toList = l.flatMap itC := by
  have hL : (l.flatMap itC).length = l.length * 3 := len_el itC_len l
  apply List.ext_getElem?
  intro t
  by_cases ht : t < l.length * 3
  · have hd : t / 3 < l.length := by omega
    have h1 := get_flatK itC 3 l.toArray t (by simpa using ht)
    rw [getElem!_pos (flatK itC 3 l.toArray) t (by simpa using ht), getElem!_pos l.toArray (t / 3) (by simpa using hd)] at h1
    have h2 := flatten_get (c := 3) (l.map itC) (fun x hx => by obtain ⟨y, _, rfl⟩ := List.mem_map.1 hx; exact itC_len y) (t / 3) (t % 3) (by simpa using hd) (Nat.mod_lt _ (by decide))
    rw [show t / 3 * 3 + t % 3 = t by omega, List.getElem_map] at h2
    rw [Array.getElem?_toList, Array.getElem?_eq_getElem (by simpa using ht), h1]
    show _ = (l.map itC).flatten[t]?
    rw [h2]
    have h3 : t % 3 < (itC l[t / 3]).length := by rw [itC_len]; exact Nat.mod_lt _ (by decide)
    rw [List.getElem?_eq_getElem h3]
    simp only [List.getElem_toArray]
    rw [getElem!_pos (itC l[t / 3]) (t % 3) h3]
  · rw [List.getElem?_eq_none (by rw [Array.length_toList, size_flatK]; simp; omega), List.getElem?_eq_none (by omega)]
theorem row_holdsV {w : World} {e : TypeId} {g cap m size : Nat} {xs : List Value} (ho : w.ownsRow 0 e size (.slice (some ⟨g, 0, none⟩) m cap) m xs) (d : Array Value) (hd : d.toList = xs) : Holds id w g 0 d ∧ g < w.heap.size := by
  obtain ⟨hl, hr⟩ := ho
  rcases hr with ⟨h, _⟩ | ⟨g2, cap2, cur, hv, _, hg, hc, hx, hs, ht⟩
  · cases h
  cases hv
  refine ⟨fun j hj => ?_, (Array.getElem?_eq_some_iff.1 hg).1⟩
  have hle : m * size ≤ cap * size := Nat.mul_le_mul_right _ hc
  have hj2 : j < xs.length := by rw [← hd]; simpa using hj
  have hcj : cur[j]? = some d[j] := by
    have := congrArg (fun l => l[j]?) ht
    rw [List.getElem?_take, if_pos (by omega), Array.getElem?_toList, ← hd, Array.getElem?_toList, Array.getElem?_eq_getElem hj] at this
    exact this
  refine ⟨?_, ?_⟩
  · rw [cell_of_row w g (0 + j) _ _ _ hg, Nat.zero_add, hcj, getElem!_pos d j hj]; rfl
  · unfold World.frozen?
    rw [hg]
    simp
def OrdLays : Prop := ∀ (x y : itemL.Item) (w : World), Calls Try.prog 31 #[.agg (itC x).toArray, .agg (itC y).toArray] w fun e w' => e = .returned (.int .i64 (ordI x y)) ∧ ∃ q os', w' = grow (w.drewN q) os'
theorem itSortG (hord : OrdLays) (v : Value) (l : List itemL.Item) (w : World) (B : Base) (hm : Mem B [rowO 31 3 v l.length (l.flatMap itC)] w) (hl : l.length < 4611686018427387904) :
    Calls Try.prog 30 #[v, .func (.func 31) #[] #[]] w (MeetsB ⟨fun (_ : Unit) => True, fun _ => .tuple #[], fun _ => [rowO 31 3 v l.length ((sortI l).flatMap itC)]⟩ B) := by
  have ho : w.ownsRow 0 31 3 v l.length (l.flatMap itC) := hm.get (i := 0) rfl
  have ho2 := ho
  rcases ho.2 with ⟨rfl, h0⟩ | ⟨g, cap, cur, rfl, _, hg, hc, hx, hs, ht⟩
  · obtain rfl : l = [] := List.length_eq_zero_iff.1 h0
    refine (AnyF.slices_SortFunc_none sortIt none 0 _ w).mono fun e w' ⟨he, hw⟩ => ⟨(), trivial, he, ?_⟩
    rw [hw]; exact (by simpa [sortI] using hm)
  · obtain ⟨h1, h2⟩ := row_holdsV ho2 (flatK itC 3 l.toArray) (flat_it l)
    have hcmp : CmpLays Try.prog 31 #[] itC 3 ordI g 0 l.toArray.size w := fun m os dk _ x y => by
      have h := hord x y (sortWorldK itC 3 w g 0 m dk os)
      simpa using h
    have h := AnyQ.slices_SortFunc_total sortIt 3 Try.isAgg31 Try.sizeOf31 itC itC_len (fun x v hv => by simp only [itC, List.mem_cons, List.not_mem_nil, or_false] at hv; rcases hv with rfl | rfl | rfl <;> rfl) ordI swo_it 31 #[] g 0 cap l.toArray w EntersC.en hcmp h1 h2 (by simpa using hl) ltI_parts
    have hz : l.toArray.size = l.length := by simp
    rw [hz] at h
    refine h.mono fun e w' ⟨he, n, os, hw⟩ => ⟨(), trivial, he, ?_⟩
    have hlen : (sortI l).length = l.length := sort_len l
    have hq := put_memV hm (flatK itC 3 (sortI l).toArray) (by rw [size_flatK]; simp [hlen]) n os
    rw [flat_it] at hq
    rw [hw]; exact hq
end Go.Proofs.Ytmcclhddjielnaa.eng

/- OrdJ -/
namespace Go.Proofs.Ytmcclhddjielnaa.eng
open Go.RowKit kit mix itemL Go.Lib Go.Sort
theorem two_heap (a b : Obj) (w : World) : ((w.alloc a).alloc b).heap[w.heap.size]? = some a ∧ ((w.alloc a).alloc b).heap[w.heap.size + 1]? = some b := by
  have e : (w.alloc a).heap.size = w.heap.size + 1 := by
    show (w.heap.push a).size = _
    rw [Array.size_push]
  constructor
  · rw [heap_alloc_old (w.alloc a) b (by omega)]
    exact heap_alloc_new w a
  · have h := heap_alloc_new (w.alloc a) b
    rw [e] at h; exact h
theorem three_grow (a b c : Obj) (w : World) : (((w.alloc a).alloc b).alloc c).drew = grow (w.drewN 1) #[a, b, c] := by
  rw [alloc_eq_grow, alloc_eq_grow, alloc_eq_grow, grow_grow, grow_grow]; rfl
set_option maxHeartbeats 4000000 in
theorem order_k (x y : itemL.Item) (w : World) : Calls Try.prog 31 #[.agg (itC x).toArray, .agg (itC y).toArray] w fun e w' => e = .returned (.int .i64 (ordI x y)) ∧ ∃ q os', w' = grow (w.drewN q) os' := by
  obtain ⟨x1, x2, x3⟩ := x
  obtain ⟨y1, y2, y3⟩ := y
  have ho : ordI (x1, x2, x3) (y1, y2, y3) = orI (cmpI x1 y1) (cmpI x2 y2) (cmpI x3 y3) := rfl
  rw [ho]
  clear ho
  unfold itC
  dsimp only
  obtain ⟨t1, t2⟩ := two_heap (.cells #[.int .i64 x1, .int .i64 x2, .int .i64 x3] 31) (.cells #[.int .i64 y1, .int .i64 y2, .int .i64 y3] 31) w
  have k1 := cell_of_row _ _ 0 _ _ (0, 0) t1
  have k2 := cell_of_row _ _ 1 _ _ (0, 0) t1
  have k3 := cell_of_row _ _ 2 _ _ (0, 0) t1
  have k4 := cell_of_row _ _ 0 _ _ (0, 0) t2
  have k5 := cell_of_row _ _ 1 _ _ (0, 0) t2
  have k6 := cell_of_row _ _ 2 _ _ (0, 0) t2
  clear t1 t2
  go_enter Try.func31, Try.ntmps31
  go_wp2
  go_region_held (fun w' => w'.cell? ⟨w.heap.size, 0, none⟩ = some (.int .i64 x1) ∧ w'.cell? ⟨w.heap.size, 1, none⟩ = some (.int .i64 x2) ∧ w'.cell? ⟨w.heap.size, 2, none⟩ = some (.int .i64 x3) ∧ w'.cell? ⟨w.heap.size + 1, 0, none⟩ = some (.int .i64 y1) ∧ w'.cell? ⟨w.heap.size + 1, 1, none⟩ = some (.int .i64 y2) ∧ w'.cell? ⟨w.heap.size + 1, 2, none⟩ = some (.int .i64 y3)) (go_keep) (first | (go_at_call 39; refine (compare_k _ _ _).mono ?_; rintro e w' ⟨rfl, rfl⟩) | (go_at_call 38; have hzz := (or_k2 (.cells #[.int .i64 x1, .int .i64 x2, .int .i64 x3] 31) (.cells #[.int .i64 y1, .int .i64 y2, .int .i64 y3] 31) (cmpI x1 y1) (cmpI x2 y2) (cmpI x3 y3) 3 w); refine hzz.mono ?_; clear hzz; rintro e w' ⟨rfl, rfl⟩))
  go_wp2
  go_ret
  refine ⟨rfl, 1, #[.cells #[.int .i64 x1, .int .i64 x2, .int .i64 x3] 31, .cells #[.int .i64 y1, .int .i64 y2, .int .i64 y3] 31, .cells #[.int .i64 (cmpI x1 y1), .int .i64 (cmpI x2 y2), .int .i64 (cmpI x3 y3)] 3], ?_⟩
  exact three_grow _ _ _ w
end Go.Proofs.Ytmcclhddjielnaa.eng

/- ClassL -/
namespace Go.Proofs.Ytmcclhddjielnaa.classL
/-- a word of 64 bits as the model's number -/
def n64 (x : BitVec 64) : Int := x.toNat
theorem wrap64 (x : BitVec 64) : IntKind.u64.wrap (n64 x) = n64 x := by
  have := x.isLt
  unfold n64
  rw [IntKind.wrap_u64]; omega
theorem ofInt64 (x : BitVec 64) : BitVec.ofInt 64 (n64 x) = x := by
  apply BitVec.eq_of_toNat_eq; simp [n64]
theorem and64 (x y : BitVec 64) : bits .and .u64 (n64 x) (n64 y) = n64 (x &&& y) := by
  unfold bits; simp only [IntKind.bits, ofInt64]; exact wrap64 _
theorem or64 (x y : BitVec 64) : bits .or .u64 (n64 x) (n64 y) = n64 (x ||| y) := by
  unfold bits; simp only [IntKind.bits, ofInt64]; exact wrap64 _
theorem xor64 (x y : BitVec 64) : bits .xor .u64 (n64 x) (n64 y) = n64 (x ^^^ y) := by
  unfold bits; simp only [IntKind.bits, ofInt64]; exact wrap64 _
theorem not64 (x : BitVec 64) : bits .xor .u64 IntKind.u64.max (n64 x) = n64 (~~~ x) := by
  have h := xor64 (BitVec.allOnes 64) x
  rw [BitVec.allOnes_xor] at h
  rw [← h]; rfl
/-- a class of bytes -/
structure C4 where
  a : BitVec 64
  b : BitVec 64
  c : BitVec 64
  d : BitVec 64
  deriving DecidableEq
def C4.zero : C4 := ⟨0, 0, 0, 0⟩
def clsL (x : C4) : List Value := [.int .u64 (n64 x.a), .int .u64 (n64 x.b), .int .u64 (n64 x.c), .int .u64 (n64 x.d)]
end Go.Proofs.Ytmcclhddjielnaa.classL

/- RexL -/
namespace Go.Proofs.Ytmcclhddjielnaa.rexL
open classL
inductive Rx where
  | mk (kind : Int) (c : C4) (kids : List Rx)
def Rx.kind : Rx → Int | .mk k _ _ => k
def Rx.cls : Rx → C4 | .mk _ c _ => c
def Rx.kids : Rx → List Rx | .mk _ _ l => l
/-! ### expressions that are as they should be -/
inductive Re where
  | none
  | empty
  | byte (c : C4)
  | cat (a b : Re)
  | alt (a b : Re)
  | star (a : Re)
def Re.size : Re → Nat
  | .cat a b => a.size + b.size + 1
  | .alt a b => a.size + b.size + 1
  | .star a => a.size + 1
  | _ => 1
def Re.kind : Re → Int
  | .none => 1
  | .empty => 2
  | .byte _ => 3
  | .cat _ _ => 4
  | .alt _ _ => 5
  | .star _ => 6
def Re.cls : Re → C4
  | .byte c => c
  | _ => C4.zero
def Re.kids : Re → List Re
  | .cat a b => [a, b]
  | .alt a b => [a, b]
  | .star a => [a]
  | _ => []
end Go.Proofs.Ytmcclhddjielnaa.rexL

/- RexS -/
namespace Go.Proofs.Ytmcclhddjielnaa.eng
open Go.RowKit kit mix classL rexL
/-- an expression that can be read, its blocks being in F -/
inductive RexIs (F : Nat → Prop) (w : World) : List Value → Rx → Prop
  | mk {k : Int} {c : C4} {kids : List Rx} {base : Option Addr} {cap : Nat} (css : List (List Value)) : kit.okI64 k → kids.length ≤ cap → cap ≤ maxLen → css.length = kids.length →
    (∀ i (h : i < kids.length) (h' : i < css.length), RexIs F w css[i] kids[i]) → (0 < kids.length → ∃ b off, base = some ⟨b, off, none⟩ ∧ F b ∧ ∀ i (_ : i < kids.length) (h' : i < css.length), Rd w b (off + i * 6) css[i]) →
    RexIs F w (.int .i64 k :: (clsL c ++ [.slice base kids.length cap])) (.mk k c kids)
theorem RexIs.len6 {F : Nat → Prop} {w : World} {cs : List Value} {t : Rx} (h : RexIs F w cs t) : cs.length = 6 := by
  cases h; rfl
theorem RexIs.stayed {F : Nat → Prop} {w w' : World} {cs : List Value} {t : Rx} (h : RexIs F w cs t) (hk : ∀ k, F k → w'.heap[k]? = w.heap[k]?) : RexIs F w' cs t := by
  induction h with
  | mk css h2 h3 h4 h5 h6 h7 ih =>
    refine .mk css h2 h3 h4 h5 ih fun hl => ?_
    obtain ⟨b, off, e, hF, hr⟩ := h7 hl
    exact ⟨b, off, e, hF, fun i hi hi' => rd_stay (hr i hi hi') (hk b hF)⟩
theorem RexIs.mono {F F' : Nat → Prop} {w : World} {cs : List Value} {t : Rx} (h : RexIs F w cs t) (hk : ∀ k, F k → F' k) : RexIs F' w cs t := by
  induction h with
  | mk css h2 h3 h4 h5 h6 h7 ih =>
    refine .mk css h2 h3 h4 h5 ih fun hl => ?_
    obtain ⟨b, off, e, hF, hr⟩ := h7 hl
    exact ⟨b, off, e, hk b hF, hr⟩
def rexS : Shp Rx := ⟨6, RexIs, fun h => h.len6, fun h hk => h.stayed hk, fun h hk => h.mono hk⟩
def rexC (k : Int) (c : C4) (v : Value) : List Value := .int .i64 k :: (clsL c ++ [v])
def rexV (k : Int) (c : C4) (v : Value) : Value := .agg (rexC k c v).toArray
theorem rex_iff {F : Nat → Prop} {w : World} {cs : List Value} {k : Int} {c : C4} {kids : List Rx} : RexIs F w cs (.mk k c kids) ↔ ∃ v, cs = rexC k c v ∧ kit.okI64 k ∧ SlF rexS F w v kids := by
  constructor
  · intro h
    cases h with
    | mk css h2 h3 h4 h5 h6 h7 =>
      refine ⟨_, rfl, h2, _, _, rfl, h3, h4, fun hl => ?_⟩
      obtain ⟨b, off, e, hF, hr⟩ := h7 hl
      exact ⟨b, off, e, hF, fun i hi => ⟨css[i]'(by omega), h6 i hi (by omega), hr i hi (by omega)⟩⟩
  · rintro ⟨v, rfl, h2, base, cap, rfl, h3, h4, h5⟩
    by_cases hl : 0 < kids.length
    · obtain ⟨b, off, e, hF, hr⟩ := h5 hl
      have hlen : (List.ofFn fun i : Fin kids.length => Classical.choose (hr i i.2)).length = kids.length := by simp
      refine .mk (List.ofFn fun i : Fin kids.length => Classical.choose (hr i i.2)) h2 h3 h4 hlen (fun i hi hi' => ?_) fun _ => ⟨b, off, e, hF, fun i hi hi' => ?_⟩
      · rw [List.getElem_ofFn]; exact (Classical.choose_spec (hr i hi)).1
      · rw [List.getElem_ofFn]; exact (Classical.choose_spec (hr i hi)).2
    · have : kids = [] := List.eq_nil_of_length_eq_zero (by omega)
      subst this
      exact .mk [] h2 h3 h4 rfl (fun i hi => absurd hi (by simp)) fun h => absurd h (by simp)
/-- an expression that is a value -/
def RexR (F : Nat → Prop) (w : World) (v : Value) (r : Rx) : Prop := ∃ vk, v = rexV r.kind r.cls vk ∧ kit.okI64 r.kind ∧ SlF rexS F w vk r.kids
theorem RexR.stay {F : Nat → Prop} {w w' : World} {v : Value} {r : Rx} (h : RexR F w v r) (hk : ∀ k, F k → w'.heap[k]? = w.heap[k]?) : RexR F w' v r :=
  let ⟨vk, h1, h2, h3⟩ := h; ⟨vk, h1, h2, h3.stay hk⟩
theorem RexR.mono {F F' : Nat → Prop} {w : World} {v : Value} {r : Rx} (h : RexR F w v r) (hk : ∀ k, F k → F' k) : RexR F' w v r :=
  let ⟨vk, h1, h2, h3⟩ := h; ⟨vk, h1, h2, h3.mono hk⟩
/-- what is there at all -/
def Low (w : World) : Nat → Prop := fun k => k < w.heap.size
theorem RexR.gr {w w' : World} {v : Value} {r : Rx} (h : RexR (Low w) w v r) (hg : Gr w w') : RexR (Low w') w' v r :=
  (h.stay fun k hk => hg.block k hk).mono fun k hk => Nat.lt_of_lt_of_le hk hg.size
theorem RexR.is {F : Nat → Prop} {w : World} {v : Value} {r : Rx} (h : RexR F w v r) : ∃ cs, v = .agg cs.toArray ∧ RexIs F w cs r := by
  obtain ⟨k, c, kids⟩ := r
  obtain ⟨vk, rfl, h1, h2⟩ := h
  exact ⟨_, rfl, rex_iff.2 ⟨vk, rfl, h1, h2⟩⟩
theorem RexIs.r {F : Nat → Prop} {w : World} {cs : List Value} {r : Rx} (h : RexIs F w cs r) : RexR F w (.agg cs.toArray) r := by
  obtain ⟨k, c, kids⟩ := r
  obtain ⟨vk, rfl, h1, h2⟩ := rex_iff.1 h
  exact ⟨vk, rfl, h1, h2⟩
/-! ### numbered -/
/-- a node's kids and their numbers -/
def kidsK (r : Re) (k : Nat) : List (Re × Nat) := match r with
  | .cat a b => [(a, k + 1), (b, k + 1 + a.size)]
  | .alt a b => [(a, k + 1), (b, k + 1 + a.size)]
  | .star a => [(a, k + 1)]
  | _ => []
/-- a numbered node that can be read, its kids' blocks being in F -/
inductive NumIs (F : Nat → Prop) (w : World) : List Value → Re × Nat → Prop
  | mk {r : Re} {k : Nat} {vk : Value} {base : Option Addr} {cap : Nat} (css : List (List Value)) : vk.oneCell' = true → (kidsK r k).length ≤ cap → cap ≤ maxLen → css.length = (kidsK r k).length →
    (∀ i (h : i < (kidsK r k).length) (h' : i < css.length), NumIs F w css[i] (kidsK r k)[i]) → (0 < (kidsK r k).length → ∃ b off, base = some ⟨b, off, none⟩ ∧ F b ∧ ∀ i (_ : i < (kidsK r k).length) (h' : i < css.length), Rd w b (off + i * 8) css[i]) →
    NumIs F w (.int .i64 r.kind :: (clsL r.cls ++ [vk, .int .i64 (k : Int), .slice base (kidsK r k).length cap])) (r, k)
theorem NumIs.stayed {F : Nat → Prop} {w w' : World} {cs : List Value} {t : Re × Nat} (h : NumIs F w cs t) (hk : ∀ k, F k → w'.heap[k]? = w.heap[k]?) : NumIs F w' cs t := by
  induction h with
  | mk css h2 h3 h4 h5 h6 h7 ih =>
    refine .mk css h2 h3 h4 h5 ih fun hl => ?_
    obtain ⟨b, off, e, hF, hr⟩ := h7 hl
    exact ⟨b, off, e, hF, fun i hi hi' => rd_stay (hr i hi hi') (hk b hF)⟩
theorem NumIs.mono {F F' : Nat → Prop} {w : World} {cs : List Value} {t : Re × Nat} (h : NumIs F w cs t) (hk : ∀ k, F k → F' k) : NumIs F' w cs t := by
  induction h with
  | mk css h2 h3 h4 h5 h6 h7 ih =>
    refine .mk css h2 h3 h4 h5 ih fun hl => ?_
    obtain ⟨b, off, e, hF, hr⟩ := h7 hl
    exact ⟨b, off, e, hk b hF, hr⟩
section
variable {P : Program} {n : Nat} {W : Base} {fr : Fr} {L : List Own} {Q : Exit → Act → World → Prop} {ops : Array Oper} {rest : List Oper}
end
end Go.Proofs.Ytmcclhddjielnaa.eng

/- PlN -/
namespace Go.Proofs.Ytmcclhddjielnaa.eng
open Go.RowKit kit mix classL rexL
/-- blocks that are there already, and stay -/
def OldB (B : Base) (k : Nat) : Prop := k < B.w.heap.size ∧ ¬ B.X k
theorem at_oldB {B : Base} {L : List Own} {b off : Nat} {cs : List Value} (hb : OldB B b) (h : Rd B.w b off cs) (j : Nat) (v : Value) (hj : cs[j]? = some v) : At B L ⟨b, off + j, none⟩ v := fun w hm =>
  rd_stay h (hm.low.block b hb.1 hb.2) j v hj
end Go.Proofs.Ytmcclhddjielnaa.eng

/- ClassB -/
namespace Go.Proofs.Ytmcclhddjielnaa
open Go.RowKit kit mix classL
attribute [local go_sem] and64 or64 xor64 not64
theorem gr_alloc (w : World) (o : Obj) : Below w.heap.size w (w.alloc o) := (Below.refl _ _).alloc (Nat.le_refl _) _
end Go.Proofs.Ytmcclhddjielnaa

/- PlR -/
namespace Go.Proofs.Ytmcclhddjielnaa.eng
open Go.RowKit kit mix classL rexL
theorem row_slm {e : TypeId} {size n : Nat} {v : Value} {xs : List Value} (w : World) (h : (rowO e size v n xs).holds w) : ∃ a c, v = .slice a n c ∧ n ≤ 9223372036854775807 ∧ (0 < n → ∃ g, a = some ⟨g, 0, none⟩) := by
  rcases (show w.ownsRow 0 e size v n xs from h).2 with ⟨rfl, rfl⟩ | ⟨g, cap, cur, rfl, _, _, hn, hm, _⟩
  · exact ⟨_, _, rfl, by omega, fun h => by omega⟩
  · exact ⟨_, _, rfl, by unfold maxLen at hm; omega, fun _ => ⟨g, rfl⟩⟩
end Go.Proofs.Ytmcclhddjielnaa.eng

/- ItF -/
namespace Go.Proofs.Ytmcclhddjielnaa.eng
open Go.RowKit kit mix gramL treeL factsL itemL smallL
/-- a slice that the caller keeps as it is -/
def SlB (B : Base) (v : Value) (n : Nat) (xs : List Value) : Prop :=
  ∃ base cap, v = .slice base n cap ∧ n ≤ cap ∧ cap ≤ maxLen ∧ (0 < n → ∃ b off, base = some ⟨b, off, none⟩ ∧ OldB B b ∧ Rd B.w b off xs)
theorem SlB.old {w0 : World} {B : Base} {v : Value} {n : Nat} {xs : List Value} (ho : Old w0 B) (h : Sl w0 v n xs) (hx : 0 < n → xs ≠ []) : SlB B v n xs := by
  obtain ⟨base, cap, rfl, h1, h2, h3⟩ := h
  refine ⟨base, cap, rfl, h1, h2, fun hn => ?_⟩
  obtain ⟨b, off, rfl, hr⟩ := h3 hn
  obtain ⟨x, r, hxs⟩ : ∃ x r, xs = x :: r := List.exists_cons_of_ne_nil (hx hn)
  have h0 := hr 0 x (by rw [hxs]; rfl)
  have hlt : b < w0.heap.size := World.block_lt_of_cell? w0 _ h0
  refine ⟨b, off, rfl, ⟨Nat.lt_of_lt_of_le hlt ho.below.size, ho.free b hlt⟩, fun j v hj => ?_⟩
  have h2 := hr j v hj
  rw [ho.below.cell (show (⟨b, off + j, none⟩ : Addr).block < w0.heap.size from hlt)]
  rw [← h2]
/-- a symbol of the body, read -/
theorem body_at {l : List gramL.Prod} {w0 : World} {W : Base} {vb : Nat → Value} {k dn : Nat} {x : Option Nat} {bb : Option Addr} {cc m : Nat} (ho : Old w0 W) (hv : BodR (fun q => q < w0.heap.size) w0 vb l) (hk : k ≤ l.length) (hx : x.isSome = decide (k = l.length)) (hb : bodV vb k x = .slice bb m cc) (hd : dn < (bodyI l (k : Int)).length) :
    ∃ b off, bb = some ⟨b, off, none⟩ ∧ ∀ (L : List Own) (i : Nat), L[i]? = some (bodO x) → ∀ j u, (symC (bodyI l (k : Int))[dn])[j]? = some u → At W L ⟨b, off + dn * 2 + j, none⟩ u := by
  cases x with
  | some g =>
    have hk : k = l.length := by simpa using hx
    subst hk
    have e : bodyI l (l.length : Int) = [(2, 0)] := by unfold bodyI; rw [if_pos rfl]
    have hb : Value.slice (some ⟨g, 0, none⟩) 1 1 = .slice bb m cc := hb
    cases hb
    refine ⟨g, 0, rfl, fun L i hi j u hj => ?_⟩
    have hd0 : dn = 0 := by rw [e] at hd; simpa using hd
    subst hd0
    simp only [e, List.getElem_cons_zero] at hj
    rw [show 0 + 0 * 2 + j = j by omega]
    exact at_blk hi (by simpa [symC] using hj)
  | none =>
    have hk' : k < l.length := by
      have : ¬ k = l.length := by simpa using hx
      omega
    have e : bodyI l (k : Int) = (prodAt l (k : Int)).2 := by unfold bodyI; rw [if_neg (by omega)]
    have hs := (hv k hk').flat (f := symC) (by decide)
    have hb : vb k = .slice bb m cc := hb
    rw [hb] at hs
    obtain ⟨base, cap, h1, _, _, h3⟩ := hs
    cases h1
    have hd' : dn < (prodAt l (k : Int)).2.length := by rw [← e]; exact hd
    obtain ⟨b, off, rfl, hr⟩ := h3 (by omega)
    refine ⟨b, off, rfl, fun L i _ j u hj => ?_⟩
    simp only [e] at hj
    exact at_elL (W := W) (L := L) SymC_len (off := off) (fun q y hq => at_old0 ho (hr q y hq)) hd' j u hj
theorem looksI_lt (g : Gram) {it : itemL.Item} (h : it.2.2.toNat < 64) : looksI (lkG g) it < 18446744073709551616 := by
  have h1 : lkG g it.1 it.2.1 < 18446744073709551616 := begV_lt (by decide)
  unfold looksI
  split
  · exact Nat.or_lt_two_pow (n := 64) (Nat.xor_lt_two_pow (n := 64) h1 (by decide)) (Nat.pow_lt_pow_right (by decide) h)
  · exact h1
theorem expLook_le {i bits : Nat} {out : List itemL.Item} : ∀ k, (expLook i bits out k).length ≤ out.length + k
  | 0 => Nat.le_refl _
  | k + 1 => by
    rw [expLook]
    have := expLook_le (i := i) (bits := bits) (out := out) k
    have h2 : (more (expLook i bits out k) ((i : Int), 0, (k : Int))).length ≤ (expLook i bits out k).length + 1 := by unfold more; split <;> simp
    split <;> omega
theorem expProd_le {l : List gramL.Prod} {T : Nat} {N : Int} {bits : Nat} {out : List itemL.Item} : ∀ i, (expProd l T N bits out i).length ≤ out.length + i * (T + 1)
  | 0 => by rw [Nat.zero_mul]; exact Nat.le_refl _
  | i + 1 => by
    rw [expProd, Nat.succ_mul]
    have := expProd_le (l := l) (T := T) (N := N) (bits := bits) (out := out) i
    have h2 := expLook_le (i := i) (bits := bits) (out := expProd l T N bits out i) (T + 1)
    split <;> omega
theorem pickMem {L : List Own} {is : List Nat} {o : Own} (h : o ∈ is.filterMap fun i => L[i]?) : o ∈ L := by
  obtain ⟨i, _, hi⟩ := List.mem_filterMap.1 h
  exact List.mem_of_getElem? hi
/-- what the opener owns -/
def opL (g : Gram) (bp : Option Addr) (cp go gm : Nat) (f : RK → Option Value) (c : Nat) : List Own := [blkO go (opC g.terms g.nons (.slice bp g.prods.length cp) gm).toArray 69, mapO restK gm f c]
theorem firstsLe {κ : Type} [DecidableEq κ] : ∀ (l D : List κ), (firsts D l).length ≤ D.length + l.length
  | [], D => by simp [firsts]
  | k :: r, D => by
    rw [firsts]
    have := firstsLe r (if k ∈ D then D else D ++ [k])
    have h2 : (if k ∈ D then D else D ++ [k]).length ≤ D.length + 1 := by split <;> simp
    rw [List.length_cons]; omega
theorem right_ok {l : List gramL.Prod} {T : Nat} {x : itemL.Item} (h : RightI l T x) (hl : l.length ≤ 40) (hw : ∀ q ∈ l, q.2.length ≤ 8) (hT : T ≤ 30) : itK.ok x := by
  obtain ⟨a1, a2, a3, a4, a5, a6⟩ := h
  have := body_len (l := l) (p := x.1) hw
  exact ⟨⟨by omega, by omega⟩, ⟨by omega, by omega⟩, by omega, by omega⟩
def itClS (g : Gram) (T : Nat) (l0 : List itemL.Item) (bp : Option Addr) (cp go gm c : Nat) : Spec ((RK → Option Value) × Nat × Value) :=
  ⟨fun x => CacheOk (lkG g) x.1 ∧ x.2.1 ≤ c + 12000, fun x => x.2.2, fun x => opL g bp cp go gm x.1 x.2.1 ++ [rowO 31 3 x.2.2 (closedI g.prods T (lkG g) l0).length ((closedI g.prods T (lkG g) l0).flatMap itC)]⟩
theorem it_ok {i j : Nat} (hi : i ≤ 1000) (hj : j ≤ 1000) : itK.ok ((i : Int), 0, (j : Int)) := by
  show (-9223372036854775808 ≤ (i : Int) ∧ (i : Int) ≤ 9223372036854775807) ∧ (-9223372036854775808 ≤ (0 : Int) ∧ (0 : Int) ≤ 9223372036854775807) ∧ (-9223372036854775808 ≤ (j : Int) ∧ (j : Int) ≤ 9223372036854775807)
  omega
theorem build_it2 (a c : Int) (w : World) : (Instr.build 31 #[(0, .int .i64 a), (2, .int .i64 c)]).run Try.prog w = .ok (.agg #[.int .i64 a, .int .i64 0, .int .i64 c]) w := by kernel_rfl
attribute [local irreducible] Op.shift Go.bits in
set_option maxHeartbeats 8000000 in
theorem itClosed_calls (g : Gram) (hg : checkG g = 0) (bp : Option Addr) (cp : Nat) (vb : Nat → Value) (w0 : World) (hG : GraR (fun q => q < w0.heap.size) w0 (graV g.terms g.nons (.slice bp g.prods.length cp)) g) (hvb : BodR (fun q => q < w0.heap.size) w0 vb g.prods) (hrp : 0 < g.prods.length → ∃ b off, bp = some ⟨b, off, none⟩ ∧ ∀ i, i < g.prods.length → Rd w0 b (off + i * 2) [.int .i64 (prodAt g.prods (i : Int)).1, vb i])
    (go gm c : Nat) (f : RK → Option Value) (T : Nat) (hTt : g.terms = (T : Int)) (hT : T ≤ 30) (l0 : List itemL.Item) (vl : Value) (h0 : ∀ x ∈ l0, RightI g.prods T x) (hl0 : l0.length ≤ 20000) (hc : CacheOk (lkG g) f) (hcc : c ≤ 900000000000000) (w : World) (B : Base) (ho : Old w0 B) (hvl : SlB B vl l0.length (l0.flatMap itC))
    (hm : Mem B (opL g bp cp go gm f c) w) :
    Calls Try.prog 17 #[.pointer (some ⟨go, 0, none⟩), vl] w (MeetsB (itClS g T l0 bp cp go gm c) B) := by
  obtain ⟨-, -, -, -, hpl, hgb⟩ := checkG_ok hg
  have hwl : ∀ q ∈ g.prods, q.2.length ≤ 8 := fun q hq => (hgb q hq).1
  have hput := fun g5 gm2 g6 b v cn out it hit hp hb hn w' B' hm' => itPut_calls g5 gm2 g6 b v cn out it hit hp hb hn w' B' hm'
  unfold opL at hm
  obtain ⟨bl, cl, rfl, hc1, hc2, hrl⟩ := hvl
  unfold maxLen at hc2
  refine enterB hm (args := [.pointer (some ⟨go, 0, none⟩), .slice bl l0.length cl]) (n := 117) Try.func17 rfl rfl rfl ?_
  repeat (first
    | refine QV QP ?_ | refine QZ ?_ | refine qcT rfl ?_ | refine qcF rfl ?_ | refine E_blockX ?_ | refine E_blockO rfl ?_
    | refine qs rfl rfl rfl rfl rfl rfl ?_
    | ((try refine qg rfl rfl rfl ?_); first | refine QV QP ?_ | refine QV QL ?_ | refine QV QA ?_ | refine QV (rr_nilc rfl) ?_ | refine QV QlT ?_ | refine QV QlF ?_ | refine QV QeT ?_ | refine QV QeF ?_ | refine QV QnT ?_ | refine QV QnF ?_ | refine QV QaA ?_))
  refine TL_mapT itK (z := .int .i64 0) rfl fun gm2 => ?_
  conv => arg 8; simp only [zA, zB, zC, zD, zE, zF, zG, zH, zI, rowS, ret, id_eq]
  repeat (first
    | refine QV QP ?_ | refine QZ ?_ | refine qcT rfl ?_ | refine qcF rfl ?_ | refine E_blockX ?_ | refine E_blockO rfl ?_
    | refine qs rfl rfl rfl rfl rfl rfl ?_
    | ((try refine qg rfl rfl rfl ?_); first | refine QV QP ?_ | refine QV QL ?_ | refine QV QA ?_ | refine QV (rr_nilc rfl) ?_ | refine QV QlT ?_ | refine QV QlF ?_ | refine QV QeT ?_ | refine QV QeF ?_ | refine QV QnT ?_ | refine QV QnF ?_ | refine QV QaA ?_))
  refine TL_new rfl fun g5 => ?_
  conv => arg 8; simp only [zA, zB, zC, zD, zE, zF, zG, zH, zI, rowS, ret, id_eq]
  refine TL_store1 (i := 3) rfl rfl rfl rfl rfl rfl ?_
  conv => arg 8; simp only [zA, zB, zC, zD, zE, zF, zG, zH, zI, rowS, ret, id_eq]
  repeat (first
    | refine QV QP ?_ | refine QZ ?_ | refine qcT rfl ?_ | refine qcF rfl ?_ | refine E_blockX ?_ | refine E_blockO rfl ?_
    | refine qs rfl rfl rfl rfl rfl rfl ?_
    | ((try refine qg rfl rfl rfl ?_); first | refine QV QP ?_ | refine QV QL ?_ | refine QV QA ?_ | refine QV (rr_nilc rfl) ?_ | refine QV QlT ?_ | refine QV QlF ?_ | refine QV QeT ?_ | refine QV QeF ?_ | refine QV QnT ?_ | refine QV QnF ?_ | refine QV QaA ?_))
  refine TL_new rfl fun g6 => ?_
  conv => arg 8; simp only [zA, zB, zC, zD, zE, zF, zG, zH, zI, rowS, ret, id_eq]
  repeat (first
    | refine QV QP ?_ | refine QZ ?_ | refine qcT rfl ?_ | refine qcF rfl ?_ | refine E_blockX ?_ | refine E_blockO rfl ?_
    | refine qs rfl rfl rfl rfl rfl rfl ?_
    | ((try refine qg rfl rfl rfl ?_); first | refine QV QP ?_ | refine QV (rr_func rfl rfl) ?_ | refine QV QL ?_ | refine QV QA ?_ | refine QV (rr_nilc rfl) ?_ | refine QV QlT ?_ | refine QV QlF ?_ | refine QV QeT ?_ | refine QV QeF ?_ | refine QV QnT ?_ | refine QV QnF ?_ | refine QV QaA ?_))
  conv => arg 7; simp only [zA, zB, zC, zD, zE, zF, zG, zH, zI, rowS, ret, id_eq]
  refine T_extra (rowO 31 3 (.slice none 0 0) 0 []) (fun k hk => hk.elim (fun h => by cases h) id) (fun w => ⟨by decide, .inl ⟨rfl, rfl⟩⟩) ?_
  refine T_pick [0, 1, 3, 2, 4, 5] (by decide) rfl ?_
  conv => arg 7; simp only [zA, zB, zC, zD, zE, zF, zG, zH, zI, rowS, ret, id_eq]
  refine T_loop (ι := Nat × Value × (itemL.Item → Nat)) (fun (j, _, cn) => j ≤ l0.length ∧ PutOk cn (firsts [] (l0.take j)) (2 * j)) (fun (j, _, _) => [(0, .pointer (some ⟨go, 0, none⟩)), (6, .pointer (some ⟨g6, 0, none⟩)), (7, .func (.func 28) #[] #[.pointer (some ⟨g5, 0, none⟩), .pointer (some ⟨g6, 0, none⟩)]), (18, .slice bl l0.length cl), (19, .int .i64 (l0.length : Int)), (20, .int .i64 (j : Int))])
    (fun (j, v, cn) => [blkO go (opC g.terms g.nons (.slice bp g.prods.length cp) gm).toArray 69, mapO restK gm f c] ++ putL g5 gm2 g6 (2 * j) v cn (firsts [] (l0.take j))) (fun (j, _, _) => l0.length - j) (0, .slice none 0 0, fun _ => 0) ⟨Nat.zero_le _, ⟨fun x => by simp [firsts], fun x => Nat.zero_le _⟩⟩ (by repeat' (first | exact True.intro | refine And.intro rfl ?_)) rfl ?_
  rintro ⟨j, v, cn⟩ ⟨j1, j2⟩
  dsimp only at j1 j2 ⊢
  by_cases c1 : j < l0.length
  · obtain ⟨b, off, rfl, hb1, hb2⟩ := hrl (by omega)
    have hat := fun L => at_elL (W := B) (L := L) itC_len (off := off) (fun q u hq => at_oldB hb1 hb2 q u hq) c1
    have hx0 := h0 l0[j] (List.getElem_mem c1)
    have hxo := right_ok hx0 hpl hwl hT
    have hnd : (firsts [] (l0.take j)).length ≤ j := Nat.le_trans (firstsLe _ _) (by rw [List.length_nil, List.length_take]; omega)
    have hnx : more (firsts [] (l0.take j)) l0[j] = firsts [] (l0.take (j + 1)) := by rw [List.take_succ_eq_append_getElem c1, firsts_snoc]
    have hpo := j2.put l0[j]
    rw [hnx] at hpo
    have hput := fun w' B' hm' => hput g5 gm2 g6 (2 * j) v cn (firsts [] (l0.take j)) l0[j] hxo j2 (by omega) (by omega) w' B' hm'
    rw [hnx] at hput
    generalize firsts [] (l0.take j) = out at *
    generalize hoq : firsts [] (l0.take (j + 1)) = out' at *
    generalize l0[j] = x at *
    repeat (first
      | refine QV QP ?_ | refine QZ ?_ | refine qcT rfl ?_ | refine qcF rfl ?_ | refine E_blockX ?_ | refine E_blockO rfl ?_
      | refine qs rfl rfl rfl rfl rfl rfl ?_
      | ((try refine qg rfl rfl rfl ?_); first | refine QV QP ?_ | refine QV (rr_idxc Und.eq TyC.ty rfl rfl c1) ?_ | refine QV (rr_loadN TyC.ty rfl (itC_len x) (hat _)) ?_ | refine QV QL ?_ | refine QV QA ?_ | refine QV (rr_nilc rfl) ?_ | refine QV QlT ?_ | refine QV QlF ?_ | refine QV QeT ?_ | refine QV QeF ?_ | refine QV QnT ?_ | refine QV QnF ?_ | refine QV QaA ?_))
    refine TL_new rfl fun g9 => ?_
    conv => arg 8; simp only [zA, zB, zC, zD, zE, zF, zG, zH, zI, rowS, ret, id_eq]
    refine TL_storeB (i := 6) (cs' := (itC x).toArray) rfl rfl rfl rfl rfl rfl ?_
    conv => arg 8; simp only [zA, zB, zC, zD, zE, zF, zG, zH, zI, rowS, ret, id_eq]
    repeat (first
      | refine QV QP ?_ | refine QZ ?_ | refine qcT rfl ?_ | refine qcF rfl ?_ | refine E_blockX ?_ | refine E_blockO rfl ?_
      | refine qs rfl rfl rfl rfl rfl rfl ?_
      | ((try refine qg rfl rfl rfl ?_); first | refine QV QP ?_ | refine QV (rr_loadB (i := 6) TyC.ty rfl rfl rfl) ?_ | refine QV QL ?_ | refine QV QA ?_ | refine QV (rr_nilc rfl) ?_ | refine QV QlT ?_ | refine QV QlF ?_ | refine QV QeT ?_ | refine QV QeF ?_ | refine QV QnT ?_ | refine QV QnF ?_ | refine QV QaA ?_))
    refine TL_callB [2, 3, 4, 5] [0, 1, 6] (by decide) rfl rfl (he1c EntersC.en rfl rfl) (fun w hm hb => hput w _ hb) rfl rfl rfl ?_
    intro v' _
    conv => arg 8; simp only [zA, zB, zC, zD, zE, zF, zG, zH, zI, rowS, ret, id_eq]
    repeat (first
      | refine QV QP ?_ | refine QZ ?_ | refine qcT rfl ?_ | refine qcF rfl ?_ | refine E_blockX ?_ | refine E_blockO rfl ?_
      | refine qs rfl rfl rfl rfl rfl rfl ?_
      | ((try refine qg rfl rfl rfl ?_); first | refine QV QP ?_ | refine QV QL ?_ | refine QV QA ?_ | refine QV (rr_nilc rfl) ?_ | refine QV QlT ?_ | refine QV QlF ?_ | refine QV QeT ?_ | refine QV QeF ?_ | refine QV QnT ?_ | refine QV QnF ?_ | refine QV QaA ?_))
    refine E_pick [0, 1, 3, 4, 5, 6] (by decide) rfl ?_
    exact E_round (j + 1, v', itUp cn x) ⟨by show j + 1 ≤ l0.length; omega, by show PutOk _ (firsts [] (l0.take (j + 1))) _; rw [hoq]; exact hpo⟩ (by show l0.length - (j + 1) < l0.length - j; omega) (by repeat' (first | exact True.intro | refine And.intro rfl ?_)) (by dsimp only; rw [hoq]; rfl)
  · obtain rfl : j = l0.length := by omega
    rw [List.take_length] at j2
    have hfl : (firsts [] l0).length ≤ 20000 := Nat.le_trans (firstsLe _ _) (by rw [List.length_nil]; omega)
    clear hrl
    repeat (first
      | refine QV QP ?_ | refine QZ ?_ | refine qcT rfl ?_ | refine qcF rfl ?_ | refine E_blockX ?_ | refine E_blockO rfl ?_
      | refine qs rfl rfl rfl rfl rfl rfl ?_
      | ((try refine qg rfl rfl rfl ?_); first | refine QV QP ?_ | refine QV QL ?_ | refine QV QA ?_ | refine QV (rr_nilc rfl) ?_ | refine QV QlT ?_ | refine QV QlF ?_ | refine QV QeT ?_ | refine QV QeF ?_ | refine QV QnT ?_ | refine QV QnF ?_ | refine QV QaA ?_))
    conv => arg 7; simp only [zA, zB, zC, zD, zE, zF, zG, zH, zI, rowS, ret, id_eq, List.take_length, putL, List.cons_append, List.nil_append]
    refine T_loop (ι := Nat × List itemL.Item × (RK → Option Value) × Nat × Value × (itemL.Item → Nat) × Nat) (fun (n, out, f', c', _, cn', b) => WkI g.prods T (lkG g) l0 n out ∧ workI g.prods T (lkG g) (12000 - n) n out = workI g.prods T (lkG g) 12000 0 (firsts [] l0) ∧ CacheOk (lkG g) f' ∧ c' ≤ c + n ∧ PutOk cn' out b ∧ b ≤ 40000 + 2480 * n)
      (fun (n, _, _, _, _, _, _) => [(0, .pointer (some ⟨go, 0, none⟩)), (6, .pointer (some ⟨g6, 0, none⟩)), (7, .func (.func 28) #[] #[.pointer (some ⟨g5, 0, none⟩), .pointer (some ⟨g6, 0, none⟩)]), (10, .int .i64 (n : Int))])
      (fun (_, out, f', c', v', cn', b) => [blkO go (opC g.terms g.nons (.slice bp g.prods.length cp) gm).toArray 69, mapO restK gm f' c', blkO g5 #[.map (some gm2)] 70, mapT itK gm2 (.int .i64 0) (itCnt cn') b, blkO g6 #[v'] 25, rowO 31 3 v' out.length (out.flatMap itC)]) (fun (n, _) => 12000 - n) (0, firsts [] l0, f, c, v, cn, 2 * l0.length) ⟨wk_start l0, rfl, hc, Nat.le_refl _, j2, by omega⟩ (by repeat' (first | exact True.intro | refine And.intro rfl ?_)) rfl ?_
    rintro ⟨n, out, f', c', v', cn', b⟩ ⟨i1, i2, i3, i4, i5, i6⟩
    dsimp only at i1 i2 i3 i4 i5 i6 ⊢
    have hfew := items_few hwl hpl hT i1.nd fun x hx => right_cl h0 (i1.cl x hx)
    refine T_know (i := 5) rfl row_slm fun hrow => ?_
    obtain ⟨bv, cv, rfl, -, hab⟩ := hrow
    by_cases c2 : n < out.length
    · obtain ⟨gz, rfl⟩ := hab (by omega)
      have hcl := i1.cl out[n] (List.getElem_mem c2)
      have hxr := right_cl h0 hcl
      have hat := fun (L : List Own) (i : Nat) (hL : L[i]? = some (rowO 31 3 (.slice (some ⟨gz, 0, none⟩) out.length cv) out.length (out.flatMap itC))) => at_rowel (W := B) itC_len hL c2
      have hwx : workI g.prods T (lkG g) (12000 - (n + 1)) (n + 1) (expI g.prods T (lkG g) out[n] out) = workI g.prods T (lkG g) 12000 0 (firsts [] l0) := by
        rw [← i2, show 12000 - n = (12000 - (n + 1)) + 1 by omega, workI, if_pos c2, List.getD_eq_getElem?_getD, List.getElem?_eq_getElem c2]; rfl
      have hwk := wk_step i1 c2
      clear i2 hcl
      generalize hxx : out[n] = x at *
      obtain ⟨p, d, lo⟩ := x
      have hxr2 := hxr
      obtain ⟨r1, r2, r3, r4, r5, r6⟩ := hxr2
      dsimp only at r1 r2 r3 r4 r5 r6
      obtain ⟨k, rfl⟩ := Int.eq_ofNat_of_zero_le r1
      obtain ⟨dn, rfl⟩ := Int.eq_ofNat_of_zero_le r3
      obtain ⟨ln, rfl⟩ := Int.eq_ofNat_of_zero_le r5
      have hk : k ≤ g.prods.length := by omega
      have hbd := fun w' (hm' : Mem B [] w') => itBody_calls g.terms g.nons bp cp g.prods vb w0 w' B k hk ho hm' (fun i hi => let ⟨b, c, h, _⟩ := hvb i hi; ⟨b, _, c, h⟩) hrp
      repeat (first
        | refine QV QP ?_ | refine QZ ?_ | refine qcT rfl ?_ | refine qcF rfl ?_ | refine E_blockX ?_ | refine E_blockO rfl ?_
        | refine qs rfl rfl rfl rfl rfl rfl ?_
        | ((try refine qg rfl rfl rfl ?_); first | refine QV QP ?_ | refine QV (rr_load1 (v := .slice (some ⟨gz, 0, none⟩) out.length cv) TyC.ty rfl (at_blk (i := 4) rfl rfl)) ?_ | refine QV (rr_rowlen (i := 5) Und.eq rfl rfl) ?_ | refine QV QL ?_ | refine QV QA ?_ | refine QV (rr_nilc rfl) ?_ | refine QV QlT ?_ | refine QV QlF ?_ | refine QV QeT ?_ | refine QV QeF ?_ | refine QV QnT ?_ | refine QV QnF ?_ | refine QV QaA ?_))
      refine T_ord ([blkO go (opC g.terms g.nons (.slice bp g.prods.length cp) gm).toArray 69, blkO g6 #[.slice (some ⟨gz, 0, none⟩) out.length cv] 25, rowO 31 3 (.slice (some ⟨gz, 0, none⟩) out.length cv) out.length (out.flatMap itC)]) (.calm 0 (.calm 1 (.calm 2 (.calm 3 (.calm 4 (.calm 5 (.calm 6 (.calm 7 (.calm 8 (.one 9 (.calm 10 (.done)))))))))))) (sub_pick [0, 4, 5] (by decide) rfl) (by kernel_rfl) (by kernel_rfl) (by intro c a d v w h; cases d <;> exact h) ?_
      repeat (first
        | ((first | refine TW_plain rfl rfl ?_ | refine TW_gmet rfl rfl rfl rfl ?_); first | refine QW QP ?_ | refine QW (rr_nilc rfl) ?_ | refine QW (rr_loadN TyC.ty rfl (cs := [.int .i64 g.terms, .int .i64 g.nons, .slice bp g.prods.length cp]) rfl (fun j v h => at_blk (i := 0) rfl (op_gram h))) ?_ | refine QW (rr_load1 (v := .slice (some ⟨gz, 0, none⟩) out.length cv) TyC.ty rfl (at_blk (i := 1) rfl rfl)) ?_ | refine QW (rr_idxc Und.eq TyC.ty rfl rfl c2) ?_ | refine QW (rr_load1 (v := .int .i64 (k : Int)) TyC.ty rfl (hat _ 2 rfl 0 _ rfl)) ?_ | refine QW QL ?_ | refine QW QA ?_ | refine QW (rr_nilc rfl) ?_ | refine QW QlT ?_ | refine QW QlF ?_ | refine QW QeT ?_ | refine QW QeF ?_ | refine QW QnT ?_ | refine QW QnF ?_ | refine QW QaA ?_)
        | refine TW_skip rfl rfl rfl rfl rfl rfl rfl ?_ | refine TW_done ?_)
      refine TW_one rfl ?_
      refine TL_call (he2 EntersC.en rfl rfl rfl) (fun w hm => hbd _ (hm.pick [] (by decide) rfl)) rfl rfl rfl ?_
      rintro xb hxb
      conv => arg 8; simp only [zA, zB, zC, zD, zE, zF, zG, zH, zI, rowS, ret, id_eq, bodyS]
      conv => arg 7; simp only [bodyS]
      obtain ⟨bb, cc, hbv, hlc, -⟩ := body_slL (W := B) (i := 6) (L := [blkO go (opC g.terms g.nons (.slice bp g.prods.length cp) gm).toArray 69, mapO restK gm f' c', blkO g5 #[.map (some gm2)] 70, mapT itK gm2 (.int .i64 0) (itCnt cn') b, blkO g6 #[.slice (some ⟨gz, 0, none⟩) out.length cv] 25, rowO 31 3 (.slice (some ⟨gz, 0, none⟩) out.length cv) out.length (out.flatMap itC), bodO xb]) ho hvb hk hxb rfl
      have hsl := fun (L : List Own) (i : Nat) (hi : L[i]? = some (bodO xb)) => (body_slL (W := B) (L := L) ho hvb hk hxb hi)
      rw [hbv] at hsl ⊢
      have hb8 := body_len (l := g.prods) (p := (k : Int)) hwl
      refine TW_on (sub_pick [0, 4, 5] (by decide) rfl) ?_
      repeat (first
        | ((first | refine TW_plain rfl rfl ?_ | refine TW_gmet rfl rfl rfl rfl ?_); first | refine QW QP ?_ | refine QW QL ?_ | refine QW QA ?_ | refine QW (rr_nilc rfl) ?_ | refine QW QlT ?_ | refine QW QlF ?_ | refine QW QeT ?_ | refine QW QeF ?_ | refine QW QnT ?_ | refine QW QnF ?_ | refine QW QaA ?_)
        | refine TW_skip rfl rfl rfl rfl rfl rfl rfl ?_ | refine TW_done ?_)
      clear hbd
      by_cases c3 : dn = (bodyI g.prods (k : Int)).length
      · repeat (first
          | refine QV QP ?_ | refine QZ ?_ | refine qcT rfl ?_ | refine qcF rfl ?_ | refine E_blockX ?_ | refine E_blockO rfl ?_
          | refine qs rfl rfl rfl rfl rfl rfl ?_
          | ((try refine qg rfl rfl rfl ?_); first | refine QV QP ?_ | refine QV (rr_load1 (v := .slice (some ⟨gz, 0, none⟩) out.length cv) TyC.ty rfl (at_blk (i := 4) rfl rfl)) ?_ | refine QV (rr_idxc Und.eq TyC.ty rfl rfl c2) ?_ | refine QV (rr_load1 (v := .int .i64 (dn : Int)) TyC.ty rfl (hat _ 5 rfl 1 _ rfl)) ?_ | refine QV (rr_eql (b := true) rfl rfl (decide_eq_true (by omega))) ?_ | refine QV QL ?_ | refine QV QA ?_ | refine QV (rr_nilc rfl) ?_ | refine QV QlT ?_ | refine QV QlF ?_ | refine QV QeT ?_ | refine QV QeF ?_ | refine QV QnT ?_ | refine QV QnF ?_ | refine QV QaA ?_))
        have hexp : expI g.prods T (lkG g) ((k : Int), (dn : Int), (ln : Int)) out = out := by
          unfold expI nextS
          dsimp only
          rw [Int.toNat_natCast, List.getElem?_eq_none (by omega)]
        rw [hexp] at hwk hwx
        refine E_pick [0, 1, 2, 3, 4, 5] (by decide) rfl ?_
        exact E_round (n + 1, out, f', c', .slice (some ⟨gz, 0, none⟩) out.length cv, cn', b) ⟨hwk, hwx, i3, by show c' ≤ c + (n + 1); omega, i5, by show b ≤ 40000 + 2480 * (n + 1); omega⟩ (by show 12000 - (n + 1) < 12000 - n; omega) (by repeat' (first | exact True.intro | refine And.intro rfl ?_)) rfl
      · have hlt : dn < (bodyI g.prods (k : Int)).length := by omega
        obtain ⟨b2, o2, rfl, hba⟩ := body_at ho hvb hk hxb hbv hlt
        have hnx : nextS g.prods ((k : Int), (dn : Int), (ln : Int)) = some (bodyI g.prods (k : Int))[dn] := by
          unfold nextS
          dsimp only
          rw [Int.toNat_natCast, List.getElem?_eq_getElem hlt]
        generalize hyy : (bodyI g.prods (k : Int))[dn] = y at *
        obtain ⟨yk, yn⟩ := y
        by_cases c4 : yk = 2
        · subst c4
          have hexp : expI g.prods T (lkG g) ((k : Int), (dn : Int), (ln : Int)) out = expProd g.prods T yn (looksI (lkG g) ((k : Int), (dn : Int), (ln : Int))) out g.prods.length := by
            unfold expI
            rw [hnx]
            dsimp only
            rw [if_pos rfl]
          rw [hexp] at hwk hwx
          repeat (first
            | refine QV QP ?_ | refine QZ ?_ | refine qcT rfl ?_ | refine qcF rfl ?_ | refine E_blockX ?_ | refine E_blockO rfl ?_
            | refine qs rfl rfl rfl rfl rfl rfl ?_
            | ((try refine qg rfl rfl rfl ?_); first | refine QV QP ?_ | refine QV (rr_load1 (v := .slice (some ⟨gz, 0, none⟩) out.length cv) TyC.ty rfl (at_blk (i := 4) rfl rfl)) ?_ | refine QV (rr_idxc Und.eq TyC.ty rfl rfl c2) ?_ | refine QV (rr_idxc Und.eq TyC.ty rfl rfl hlt) ?_ | refine QV (rr_load1 (v := .int .i64 (dn : Int)) TyC.ty rfl (hat _ 5 rfl 1 _ rfl)) ?_ | refine QV (rr_eql (b := false) rfl rfl (decide_eq_false (by omega))) ?_ | refine QV (rr_load1 (v := .int .i64 2) TyC.ty rfl (hba _ 6 rfl 0 _ rfl)) ?_ | refine QV (rr_neq (b := false) rfl rfl (decide_eq_false (fun h => h rfl))) ?_ | refine QV (rr_loadN (cs := itC ((k : Int), (dn : Int), (ln : Int))) TyC.ty rfl rfl (hat _ 5 rfl)) ?_ | refine QV QL ?_ | refine QV QA ?_ | refine QV (rr_nilc rfl) ?_ | refine QV QlT ?_ | refine QV QlF ?_ | refine QV QeT ?_ | refine QV QeF ?_ | refine QV QnT ?_ | refine QV QnF ?_ | refine QV QaA ?_))
          refine TL_callB [0, 1] [2, 3, 4, 5, 6] (by decide) rfl rfl (he2 EntersC.en rfl rfl rfl) (fun w hm hb => looks_calls g hg bp cp vb w0 hG hvb hrp go gm c' f' ((k : Int), (dn : Int), (ln : Int)) T hT hxr (by dsimp only; rw [Int.toNat_natCast]; exact hlt) i3 (by omega) w _ (ho.on hm fun o h => pickMem h) hb) rfl rfl rfl ?_
          rintro ⟨f2, c2'⟩ ⟨hf2, hc2'⟩
          dsimp only at hf2 hc2'
          conv => arg 8; simp only [zA, zB, zC, zD, zE, zF, zG, zH, zI, rowS, ret, id_eq]
          have hblt := looksI_lt g (it := ((k : Int), (dn : Int), (ln : Int))) (by show ((ln : Int)).toNat < 64; omega)
          generalize looksI (lkG g) ((k : Int), (dn : Int), (ln : Int)) = bits at *
          repeat (first
            | refine QV QP ?_ | refine QZ ?_ | refine qcT rfl ?_ | refine qcF rfl ?_ | refine E_blockX ?_ | refine E_blockO rfl ?_
            | refine qs rfl rfl rfl rfl rfl rfl ?_
            | ((try refine qg rfl rfl rfl ?_); first | refine QV QP ?_ | refine QV (rr_load1 (v := .slice bp g.prods.length cp) TyC.ty rfl (at_blk (i := 5) rfl rfl)) ?_ | refine QV QL ?_ | refine QV QA ?_ | refine QV (rr_nilc rfl) ?_ | refine QV QlT ?_ | refine QV QlF ?_ | refine QV QeT ?_ | refine QV QeF ?_ | refine QV QnT ?_ | refine QV QnF ?_ | refine QV QaA ?_))
          refine T_pick [5, 6, 0, 1, 2, 3, 4] (by decide) rfl ?_
          conv => arg 7; simp only [zA, zB, zC, zD, zE, zF, zG, zH, zI, rowS, ret, id_eq]
          refine T_loop (ι := Nat × Value × (itemL.Item → Nat) × Nat) (fun (i, _, cn2, b3) => i ≤ g.prods.length ∧ PutOk cn2 (expProd g.prods T yn bits out i) b3 ∧ b3 ≤ b + 62 * i)
            (fun (i, _, _, _) => [(0, .pointer (some ⟨go, 0, none⟩)), (6, .pointer (some ⟨g6, 0, none⟩)), (7, .func (.func 28) #[] #[.pointer (some ⟨g5, 0, none⟩), .pointer (some ⟨g6, 0, none⟩)]), (10, .int .i64 (n : Int)), (11, .slice (some ⟨b2, o2, none⟩) (bodyI g.prods (k : Int)).length cc), (12, bitV bits), (74, .slice bp g.prods.length cp), (75, .int .i64 (g.prods.length : Int)), (76, .int .i64 (i : Int))])
            (fun (i, v2, cn2, b3) => [blkO go (opC g.terms g.nons (.slice bp g.prods.length cp) gm).toArray 69, mapO restK gm f2 c2', blkO g5 #[.map (some gm2)] 70, mapT itK gm2 (.int .i64 0) (itCnt cn2) b3, blkO g6 #[v2] 25, rowO 31 3 v2 (expProd g.prods T yn bits out i).length ((expProd g.prods T yn bits out i).flatMap itC), bodO xb]) (fun (i, _) => g.prods.length - i) (0, .slice (some ⟨gz, 0, none⟩) out.length cv, cn', b) ⟨Nat.zero_le _, i5, by omega⟩ (by repeat' (first | exact True.intro | refine And.intro rfl ?_)) rfl ?_
          rintro ⟨i, v2, cn2, b3⟩ ⟨p1, p2, p3⟩
          dsimp only at p1 p2 p3 ⊢
          by_cases c5 : i < g.prods.length
          · obtain ⟨E, hE⟩ := expProd_pre (l := g.prods) (T := T) yn bits out i
            have hnd := expProd_le (l := g.prods) (T := T) (N := yn) (bits := bits) (out := out) i
            have hnx2 : expProd g.prods T yn bits out (i + 1) = if (prodAt g.prods (i : Int)).1 = yn then expLook i bits (expProd g.prods T yn bits out i) (T + 1) else expProd g.prods T yn bits out i := rfl
            have hm30 : i * (T + 1) ≤ 40 * 31 := Nat.mul_le_mul (by omega) (by omega)
            generalize hou : expProd g.prods T yn bits out i = ou at *
            have hno : n < ou.length := by rw [hE, List.length_append]; omega
            have hox : ou[n] = ((k : Int), (dn : Int), (ln : Int)) := by
              subst hE
              rw [List.getElem_append_left c2]; exact hxx
            refine T_know (i := 5) rfl row_slm fun hrow => ?_
            obtain ⟨bv2, cv2, rfl, -, hab2⟩ := hrow
            obtain ⟨gz2, rfl⟩ := hab2 (by omega)
            have hat2 := fun (L : List Own) (i : Nat) (hL : L[i]? = some (rowO 31 3 (.slice (some ⟨gz2, 0, none⟩) ou.length cv2) ou.length (ou.flatMap itC))) => at_rowel (W := B) itC_len hL hno
            rw [hox] at hat2
            obtain ⟨pb, po, rfl, hpr⟩ := hrp (by omega)
            have hpi := hpr i c5
            have hvo : (vb i).oneCell' = true := slf_one (hvb i c5)
            generalize hhd : (prodAt g.prods (i : Int)).1 = hd at *
            generalize vb i = vbi at hpi hvo
            repeat (first
              | refine QV QP ?_ | refine QZ ?_ | refine qcT rfl ?_ | refine qcF rfl ?_ | refine E_blockX ?_ | refine E_blockO rfl ?_
              | refine qs rfl rfl rfl rfl rfl rfl ?_
              | ((try refine qg rfl rfl rfl ?_); first | refine QV QP ?_ | refine QV (rr_idxc Und.eq TyC.ty rfl rfl c5) ?_ | refine QV (rr_loadN TyC.ty rfl (cs := [.int .i64 hd, vbi]) rfl (fun j v h => at_old0 ho (hpi j v h))) ?_ | refine QV QL ?_ | refine QV QA ?_ | refine QV (rr_nilc rfl) ?_ | refine QV QlT ?_ | refine QV QlF ?_ | refine QV QeT ?_ | refine QV QeF ?_ | refine QV QnT ?_ | refine QV QnF ?_ | refine QV QaA ?_))
            refine TL_new rfl fun g14 => ?_
            conv => arg 8; simp only [zA, zB, zC, zD, zE, zF, zG, zH, zI, rowS, ret, id_eq]
            repeat (first
              | refine QV QP ?_ | refine QZ ?_ | refine qcT rfl ?_ | refine qcF rfl ?_ | refine E_blockX ?_ | refine E_blockO rfl ?_
              | refine qs rfl rfl rfl rfl rfl rfl ?_
              | ((try refine qg rfl rfl rfl ?_); first | refine QV QP ?_ | refine QV QL ?_ | refine QV QA ?_ | refine QV (rr_nilc rfl) ?_ | refine QV QlT ?_ | refine QV QlF ?_ | refine QV QeT ?_ | refine QV QeF ?_ | refine QV QnT ?_ | refine QV QnF ?_ | refine QV QaA ?_))
            refine TL_storeB (i := 7) (cs' := #[.int .i64 hd, vbi]) rfl rfl rfl rfl (by simp only [List.all_cons, List.all_nil, hvo]; rfl) rfl ?_
            conv => arg 8; simp only [zA, zB, zC, zD, zE, zF, zG, zH, zI, rowS, ret, id_eq]
            repeat (first
              | refine QV QP ?_ | refine QZ ?_ | refine qcT rfl ?_ | refine qcF rfl ?_ | refine E_blockX ?_ | refine E_blockO rfl ?_
              | refine qs rfl rfl rfl rfl rfl rfl ?_
              | ((try refine qg rfl rfl rfl ?_); first | refine QV QP ?_ | refine QV QL ?_ | refine QV QA ?_ | refine QV (rr_nilc rfl) ?_ | refine QV QlT ?_ | refine QV QlF ?_ | refine QV QeT ?_ | refine QV QeF ?_ | refine QV QnT ?_ | refine QV QnF ?_ | refine QV QaA ?_))
            refine T_ord ([blkO g14 #[.int .i64 hd, vbi] 55, blkO g6 #[.slice (some ⟨gz2, 0, none⟩) ou.length cv2] 25, rowO 31 3 (.slice (some ⟨gz2, 0, none⟩) ou.length cv2) ou.length (ou.flatMap itC), bodO xb]) (.calm 0 (.calm 1 (.calm 2 (.calm 3 (.calm 4 (.calm 5 (.calm 6 (.calm 7 (.calm 8 (.calm 9 (.calm 10 (.calm 11 (.done))))))))))))) (sub_pick [7, 4, 5, 6] (by decide) rfl) (by kernel_rfl) (by kernel_rfl) (by intro c a d v w h; cases d <;> exact h) ?_
            by_cases c6 : hd = yn
            · rw [if_pos c6] at hnx2
              repeat (first
                | ((first | refine TW_plain rfl rfl ?_ | refine TW_gmet rfl rfl rfl rfl ?_); first | refine QW QP ?_ | refine QW (rr_load1 (v := .int .i64 hd) TyC.ty rfl (at_blk (i := 0) rfl rfl)) ?_ | refine QW (rr_load1 (v := .slice (some ⟨gz2, 0, none⟩) ou.length cv2) TyC.ty rfl (at_blk (i := 1) rfl rfl)) ?_ | refine QW (rr_idxc Und.eq TyC.ty rfl rfl hno) ?_ | refine QW (rr_load1 (v := .int .i64 (dn : Int)) TyC.ty rfl (hat2 _ 2 rfl 1 _ rfl)) ?_ | refine QW (rr_idxc Und.eq TyC.ty rfl rfl hlt) ?_ | refine QW (rr_load1 (v := .int .i64 yn) TyC.ty rfl (hba _ 3 rfl 1 _ rfl)) ?_ | refine QW (rr_neq (b := false) rfl rfl (decide_eq_false (fun h => h c6))) ?_ | refine QW QL ?_ | refine QW QA ?_ | refine QW (rr_nilc rfl) ?_ | refine QW QlT ?_ | refine QW QlF ?_ | refine QW QeT ?_ | refine QW QeF ?_ | refine QW QnT ?_ | refine QW QnF ?_ | refine QW QaA ?_)
                | refine TW_skip rfl rfl rfl rfl rfl rfl rfl ?_ | refine TW_done ?_)
              repeat (first
                | refine QV QP ?_ | refine QZ ?_ | refine qcT rfl ?_ | refine qcF rfl ?_ | refine E_blockX ?_ | refine E_blockO rfl ?_
                | refine qs rfl rfl rfl rfl rfl rfl ?_
                | ((try refine qg rfl rfl rfl ?_); first | refine QV QP ?_ | refine QV (rr_load1 (v := .int .i64 g.terms) TyC.ty rfl (at_blk (i := 0) rfl rfl)) ?_ | refine QV (rr_add64 (r := ((T + 1 : Nat) : Int)) rfl rfl (by omega) (by omega) (by omega)) ?_ | refine QV QL ?_ | refine QV QA ?_ | refine QV (rr_nilc rfl) ?_ | refine QV QlT ?_ | refine QV QlF ?_ | refine QV QeT ?_ | refine QV QeF ?_ | refine QV QnT ?_ | refine QV QnF ?_ | refine QV QaA ?_))
              refine T_pick [0, 1, 2, 3, 4, 5, 6] (by decide) rfl ?_
              conv => arg 7; simp only [zA, zB, zC, zD, zE, zF, zG, zH, zI, rowS, ret, id_eq]
              refine T_loop (ι := Nat × Value × (itemL.Item → Nat) × Nat) (fun (j, _, cn3, b4) => j ≤ T + 1 ∧ PutOk cn3 (expLook i bits ou j) b4 ∧ b4 ≤ b3 + 2 * j)
                (fun (j, _, _, _) => [(0, .pointer (some ⟨go, 0, none⟩)), (6, .pointer (some ⟨g6, 0, none⟩)), (7, .func (.func 28) #[] #[.pointer (some ⟨g5, 0, none⟩), .pointer (some ⟨g6, 0, none⟩)]), (10, .int .i64 (n : Int)), (11, .slice (some ⟨b2, o2, none⟩) (bodyI g.prods (k : Int)).length cc), (12, bitV bits), (13, .int .i64 (i : Int)), (74, .slice (some ⟨pb, po, none⟩) g.prods.length cp), (75, .int .i64 (g.prods.length : Int)), (76, .int .i64 (i : Int)), (98, .int .i64 ((T + 1 : Nat) : Int)), (99, .int .i64 (j : Int))])
                (fun (j, v3, cn3, b4) => [blkO go (opC g.terms g.nons (.slice (some ⟨pb, po, none⟩) g.prods.length cp) gm).toArray 69, mapO restK gm f2 c2', blkO g5 #[.map (some gm2)] 70, mapT itK gm2 (.int .i64 0) (itCnt cn3) b4, blkO g6 #[v3] 25, rowO 31 3 v3 (expLook i bits ou j).length ((expLook i bits ou j).flatMap itC), bodO xb]) (fun (j, _) => T + 1 - j) (0, .slice (some ⟨gz2, 0, none⟩) ou.length cv2, cn2, b3) ⟨Nat.zero_le _, p2, by omega⟩ (by repeat' (first | exact True.intro | refine And.intro rfl ?_)) rfl ?_
              rintro ⟨j, v3, cn3, b4⟩ ⟨s1, s2, s3⟩
              dsimp only at s1 s2 s3 ⊢
              by_cases c7 : j < T + 1
              · have hle6 := expLook_le (i := i) (bits := bits) (out := ou) j
                have hnx3 : expLook i bits ou (j + 1) = if bits.testBit j = true then more (expLook i bits ou j) ((i : Int), 0, (j : Int)) else expLook i bits ou j := rfl
                have hpo := s2.put ((i : Int), 0, (j : Int))
                have hdv : bits / 2 ^ j ≤ bits := Nat.div_le_self _ _
                have ha1 := and1 (y := bits / 2 ^ j) (by omega)
                have hs1 : ∀ w, (Op.shift .shr .u64 (bits : Int) .i64 (j : Int)).run Try.prog w = .ok (.int .u64 ((bits / 2 ^ j : Nat) : Int)) w := fun w => shrU2 bits j 64 .u64 .i64 rfl (by omega) w
                have hbd := bit_dec bits j
                generalize hol : expLook i bits ou j = ol at *
                generalize bits / 2 ^ j = D1 at *
                by_cases c8 : bits.testBit j = true
                · rw [if_pos c8] at hnx3
                  have hb1 : D1 % 2 = 1 := by rw [c8] at hbd; simpa using hbd
                  repeat (first
                    | refine QV QP ?_ | refine QZ ?_ | refine qcT rfl ?_ | refine qcF rfl ?_ | refine E_blockX ?_ | refine E_blockO rfl ?_
                    | refine qs rfl rfl rfl rfl rfl rfl ?_
                    | ((try refine qg rfl rfl rfl ?_); first | refine QV QP ?_ | refine QV (rr_shr rfl rfl hs1) ?_ | refine QV (rr_and rfl rfl ha1) ?_ | refine QV (rr_eql (b := true) rfl rfl (decide_eq_true (by omega))) ?_ | refine QV (rr_build rfl (build_it2 _ _)) ?_ | refine QV QL ?_ | refine QV QA ?_ | refine QV (rr_nilc rfl) ?_ | refine QV QlT ?_ | refine QV QlF ?_ | refine QV QeT ?_ | refine QV QeF ?_ | refine QV QnT ?_ | refine QV QnF ?_ | refine QV QaA ?_))
                  refine TL_callB [2, 3, 4, 5] [0, 1, 6] (by decide) rfl rfl (he1c EntersC.en rfl rfl) (fun w hm hb => hput g5 gm2 g6 b4 v3 cn3 ol ((i : Int), 0, (j : Int)) (it_ok (by omega) (by omega)) s2 (by omega) (by omega) w _ hb) rfl rfl rfl ?_
                  intro v4 _
                  conv => arg 8; simp only [zA, zB, zC, zD, zE, zF, zG, zH, zI, rowS, ret, id_eq, putL]
                  repeat (first
                    | refine QV QP ?_ | refine QZ ?_ | refine qcT rfl ?_ | refine qcF rfl ?_ | refine E_blockX ?_ | refine E_blockO rfl ?_
                    | refine qs rfl rfl rfl rfl rfl rfl ?_
                    | ((try refine qg rfl rfl rfl ?_); first | refine QV QP ?_ | refine QV QL ?_ | refine QV QA ?_ | refine QV (rr_nilc rfl) ?_ | refine QV QlT ?_ | refine QV QlF ?_ | refine QV QeT ?_ | refine QV QeF ?_ | refine QV QnT ?_ | refine QV QnF ?_ | refine QV QaA ?_))
                  refine E_pick [0, 1, 3, 4, 5, 6, 2] (by decide) rfl ?_
                  exact E_round (j + 1, v4, itUp cn3 ((i : Int), 0, (j : Int)), b4 + 2) ⟨by show j + 1 ≤ T + 1; omega, by show PutOk _ (expLook i bits ou (j + 1)) _; rw [hnx3]; exact hpo, by show b4 + 2 ≤ b3 + 2 * (j + 1); omega⟩ (by show T + 1 - (j + 1) < T + 1 - j; omega) (by repeat' (first | exact True.intro | refine And.intro rfl ?_)) (by dsimp only; rw [hnx3]; rfl)
                · rw [if_neg c8] at hnx3
                  have hb1 : ¬ D1 % 2 = 1 := by rw [Bool.eq_false_iff.2 c8] at hbd; simpa using hbd
                  repeat (first
                    | refine QV QP ?_ | refine QZ ?_ | refine qcT rfl ?_ | refine qcF rfl ?_ | refine E_blockX ?_ | refine E_blockO rfl ?_
                    | refine qs rfl rfl rfl rfl rfl rfl ?_
                    | ((try refine qg rfl rfl rfl ?_); first | refine QV QP ?_ | refine QV (rr_shr rfl rfl hs1) ?_ | refine QV (rr_and rfl rfl ha1) ?_ | refine QV (rr_eql (b := false) rfl rfl (decide_eq_false (by omega))) ?_ | refine QV QL ?_ | refine QV QA ?_ | refine QV (rr_nilc rfl) ?_ | refine QV QlT ?_ | refine QV QlF ?_ | refine QV QeT ?_ | refine QV QeF ?_ | refine QV QnT ?_ | refine QV QnF ?_ | refine QV QaA ?_))
                  exact E_round (j + 1, v3, cn3, b4) ⟨by show j + 1 ≤ T + 1; omega, by show PutOk _ (expLook i bits ou (j + 1)) _; rw [hnx3]; exact s2, by show b4 ≤ b3 + 2 * (j + 1); omega⟩ (by show T + 1 - (j + 1) < T + 1 - j; omega) (by repeat' (first | exact True.intro | refine And.intro rfl ?_)) (by dsimp only; rw [hnx3])
              · obtain rfl : j = T + 1 := by omega
                repeat (first
                  | refine QV QP ?_ | refine QZ ?_ | refine qcT rfl ?_ | refine qcF rfl ?_ | refine E_blockX ?_ | refine E_blockO rfl ?_
                  | refine qs rfl rfl rfl rfl rfl rfl ?_
                  | ((try refine qg rfl rfl rfl ?_); first | refine QV QP ?_ | refine QV QL ?_ | refine QV QA ?_ | refine QV (rr_nilc rfl) ?_ | refine QV QlT ?_ | refine QV QlF ?_ | refine QV QeT ?_ | refine QV QeF ?_ | refine QV QnT ?_ | refine QV QnF ?_ | refine QV QaA ?_))
                exact E_round (i + 1, v3, cn3, b4) ⟨by show i + 1 ≤ g.prods.length; omega, by show PutOk cn3 (expProd g.prods T yn bits out (i + 1)) b4; rw [hnx2]; exact s2, by show b4 ≤ b + 62 * (i + 1); omega⟩ (by show g.prods.length - (i + 1) < g.prods.length - i; omega) (by repeat' (first | exact True.intro | refine And.intro rfl ?_)) (by dsimp only; rw [hnx2])
            · rw [if_neg c6] at hnx2
              repeat (first
                | ((first | refine TW_plain rfl rfl ?_ | refine TW_gmet rfl rfl rfl rfl ?_); first | refine QW QP ?_ | refine QW (rr_load1 (v := .int .i64 hd) TyC.ty rfl (at_blk (i := 0) rfl rfl)) ?_ | refine QW (rr_load1 (v := .slice (some ⟨gz2, 0, none⟩) ou.length cv2) TyC.ty rfl (at_blk (i := 1) rfl rfl)) ?_ | refine QW (rr_idxc Und.eq TyC.ty rfl rfl hno) ?_ | refine QW (rr_load1 (v := .int .i64 (dn : Int)) TyC.ty rfl (hat2 _ 2 rfl 1 _ rfl)) ?_ | refine QW (rr_idxc Und.eq TyC.ty rfl rfl hlt) ?_ | refine QW (rr_load1 (v := .int .i64 yn) TyC.ty rfl (hba _ 3 rfl 1 _ rfl)) ?_ | refine QW (rr_neq (b := true) rfl rfl (decide_eq_true c6)) ?_ | refine QW QL ?_ | refine QW QA ?_ | refine QW (rr_nilc rfl) ?_ | refine QW QlT ?_ | refine QW QlF ?_ | refine QW QeT ?_ | refine QW QeF ?_ | refine QW QnT ?_ | refine QW QnF ?_ | refine QW QaA ?_)
                | refine TW_skip rfl rfl rfl rfl rfl rfl rfl ?_ | refine TW_done ?_)
              repeat (first
                | refine QV QP ?_ | refine QZ ?_ | refine qcT rfl ?_ | refine qcF rfl ?_ | refine E_blockX ?_ | refine E_blockO rfl ?_
                | refine qs rfl rfl rfl rfl rfl rfl ?_
                | ((try refine qg rfl rfl rfl ?_); first | refine QV QP ?_ | refine QV QL ?_ | refine QV QA ?_ | refine QV (rr_nilc rfl) ?_ | refine QV QlT ?_ | refine QV QlF ?_ | refine QV QeT ?_ | refine QV QeF ?_ | refine QV QnT ?_ | refine QV QnF ?_ | refine QV QaA ?_))
              refine E_pick [0, 1, 2, 3, 4, 5, 6] (by decide) rfl ?_
              exact E_round (i + 1, .slice (some ⟨gz2, 0, none⟩) ou.length cv2, cn2, b3) ⟨by show i + 1 ≤ g.prods.length; omega, by show PutOk cn2 (expProd g.prods T yn bits out (i + 1)) b3; rw [hnx2]; exact p2, by show b3 ≤ b + 62 * (i + 1); omega⟩ (by show g.prods.length - (i + 1) < g.prods.length - i; omega) (by repeat' (first | exact True.intro | refine And.intro rfl ?_)) (by dsimp only; rw [hnx2]; rfl)
          · obtain rfl : i = g.prods.length := by omega
            repeat (first
              | refine QV QP ?_ | refine QZ ?_ | refine qcT rfl ?_ | refine qcF rfl ?_ | refine E_blockX ?_ | refine E_blockO rfl ?_
              | refine qs rfl rfl rfl rfl rfl rfl ?_
              | ((try refine qg rfl rfl rfl ?_); first | refine QV QP ?_ | refine QV QL ?_ | refine QV QA ?_ | refine QV (rr_nilc rfl) ?_ | refine QV QlT ?_ | refine QV QlF ?_ | refine QV QeT ?_ | refine QV QeF ?_ | refine QV QnT ?_ | refine QV QnF ?_ | refine QV QaA ?_))
            refine E_pick [0, 1, 2, 3, 4, 5] (by decide) rfl ?_
            exact E_round (n + 1, expProd g.prods T yn bits out g.prods.length, f2, c2', v2, cn2, b3) ⟨hwk, hwx, hf2, by show c2' ≤ c + (n + 1); omega, p2, by show b3 ≤ 40000 + 2480 * (n + 1); omega⟩ (by show 12000 - (n + 1) < 12000 - n; omega) (by repeat' (first | exact True.intro | refine And.intro rfl ?_)) rfl
        · repeat (first
            | refine QV QP ?_ | refine QZ ?_ | refine qcT rfl ?_ | refine qcF rfl ?_ | refine E_blockX ?_ | refine E_blockO rfl ?_
            | refine qs rfl rfl rfl rfl rfl rfl ?_
            | ((try refine qg rfl rfl rfl ?_); first | refine QV QP ?_ | refine QV (rr_load1 (v := .slice (some ⟨gz, 0, none⟩) out.length cv) TyC.ty rfl (at_blk (i := 4) rfl rfl)) ?_ | refine QV (rr_idxc Und.eq TyC.ty rfl rfl c2) ?_ | refine QV (rr_idxc Und.eq TyC.ty rfl rfl hlt) ?_ | refine QV (rr_load1 (v := .int .i64 (dn : Int)) TyC.ty rfl (hat _ 5 rfl 1 _ rfl)) ?_ | refine QV (rr_eql (b := false) rfl rfl (decide_eq_false (by omega))) ?_ | refine QV (rr_load1 (v := .int .i64 yk) TyC.ty rfl (hba _ 6 rfl 0 _ rfl)) ?_ | refine QV (rr_neq (b := true) rfl rfl (decide_eq_true c4)) ?_ | refine QV QL ?_ | refine QV QA ?_ | refine QV (rr_nilc rfl) ?_ | refine QV QlT ?_ | refine QV QlF ?_ | refine QV QeT ?_ | refine QV QeF ?_ | refine QV QnT ?_ | refine QV QnF ?_ | refine QV QaA ?_))
          have hexp : expI g.prods T (lkG g) ((k : Int), (dn : Int), (ln : Int)) out = out := by
            unfold expI
            rw [hnx]
            dsimp only
            rw [if_neg c4]
          rw [hexp] at hwk hwx
          refine E_pick [0, 1, 2, 3, 4, 5] (by decide) rfl ?_
          exact E_round (n + 1, out, f', c', .slice (some ⟨gz, 0, none⟩) out.length cv, cn', b) ⟨hwk, hwx, i3, by show c' ≤ c + (n + 1); omega, i5, by show b ≤ 40000 + 2480 * (n + 1); omega⟩ (by show 12000 - (n + 1) < 12000 - n; omega) (by repeat' (first | exact True.intro | refine And.intro rfl ?_)) rfl
    · have hn : n = out.length := by have := i1.le; omega
      have hR : workI g.prods T (lkG g) 12000 0 (firsts [] l0) = out := by
        rw [← i2, show 12000 - n = (11999 - n) + 1 by omega, workI, if_neg c2]
      have hcI : closedI g.prods T (lkG g) l0 = sortI out := by unfold closedI; rw [hR]
      repeat (first
        | refine QV QP ?_ | refine QZ ?_ | refine qcT rfl ?_ | refine qcF rfl ?_ | refine E_blockX ?_ | refine E_blockO rfl ?_
        | refine qs rfl rfl rfl rfl rfl rfl ?_
        | ((try refine qg rfl rfl rfl ?_); first | refine QV QP ?_ | refine QV (rr_load1 (v := .slice bv out.length cv) TyC.ty rfl (at_blk (i := 4) rfl rfl)) ?_ | refine QV QL ?_ | refine QV QA ?_ | refine QV (rr_nilc rfl) ?_ | refine QV QlT ?_ | refine QV QlF ?_ | refine QV QeT ?_ | refine QV QeF ?_ | refine QV QnT ?_ | refine QV QnF ?_ | refine QV QaA ?_))
      refine TL_callB [5] [0, 1, 2, 3, 4] (by decide) rfl rfl (he2 EntersC.en rfl rfl rfl) (fun w hm hb => itSortG order_k (.slice bv out.length cv) out w _ hb (by omega)) rfl rfl rfl ?_
      intro _ _
      conv => arg 8; simp only [zA, zB, zC, zD, zE, zF, zG, zH, zI, rowS, ret, id_eq]
      repeat (first
        | refine QV QP ?_ | refine QZ ?_ | refine qcT rfl ?_ | refine qcF rfl ?_ | refine E_blockX ?_ | refine E_blockO rfl ?_
        | refine qs rfl rfl rfl rfl rfl rfl ?_
        | ((try refine qg rfl rfl rfl ?_); first | refine QV QP ?_ | refine QV (rr_load1 (v := .slice bv out.length cv) TyC.ty rfl (at_blk (i := 4) rfl rfl)) ?_ | refine QV QL ?_ | refine QV QA ?_ | refine QV (rr_nilc rfl) ?_ | refine QV QlT ?_ | refine QV QlF ?_ | refine QV QeT ?_ | refine QV QeF ?_ | refine QV QnT ?_ | refine QV QnF ?_ | refine QV QaA ?_))
      exact E_ret1 rfl rfl fun w hm => hm.meetsB (S := itClS g T l0 bp cp go gm c) (f', c', .slice bv out.length cv) ⟨i3, by show c' ≤ c + 12000; omega⟩ [0, 1, 5] (by decide) (by unfold itClS opL; dsimp only; rw [hcI, sort_len]; rfl)
end Go.Proofs.Ytmcclhddjielnaa.eng

/- ItH -/
namespace Go.Proofs.Ytmcclhddjielnaa.eng
open Go.RowKit kit mix gramL treeL factsL itemL
def rightB (g : Gram) (it : itemL.Item) : Bool := decide (0 ≤ it.1 ∧ it.1 ≤ (g.prods.length : Int) ∧ 0 ≤ it.2.1 ∧ it.2.1 ≤ ((bodyI g.prods it.1).length : Int) ∧ 0 ≤ it.2.2 ∧ it.2.2 ≤ g.terms)
def itemsE (g : Gram) : List itemL.Item → Int
  | [] => 0
  | x :: r => if rightB g x = true then itemsE g r else 1
def checkI (g : Gram) (l : List itemL.Item) : Int := if checkG g ≠ 0 then checkG g else if 4000 < l.length then 2 else itemsE g l
theorem itemsE_ok {g : Gram} : ∀ {l : List itemL.Item}, itemsE g l = 0 → ∀ x ∈ l, rightB g x = true
  | [], _, x, hx => by cases hx
  | y :: r, h, x, hx => by
    rw [itemsE] at h
    split at h
    · rename_i hy
      rcases List.mem_cons.1 hx with rfl | hx
      · exact hy
      · exact itemsE_ok h x hx
    · cases h
theorem itemsE_of {g : Gram} : ∀ {l : List itemL.Item}, (∀ x ∈ l, rightB g x = true) → itemsE g l = 0
  | [], _ => rfl
  | y :: r, h => by
    rw [itemsE, if_pos (h y (List.mem_cons_self ..))]
    exact itemsE_of fun x hx => h x (List.mem_cons_of_mem _ hx)
set_option maxHeartbeats 8000000 in
theorem itCheck_calls (v : Value) (g : Gram) (vl : Value) (l : List itemL.Item) (w : World) (hG : GraR (fun k => k < w.heap.size) w v g) (hl : Sl w vl l.length (l.flatMap itC)) :
    Calls Try.prog 15 #[v, vl] w (Meets (ret (.int .i64 (checkI g l))) w) := by
  have hck := fun w' (hg : Gr w w') => checkG_calls v g w' (hG.gr hg)
  obtain ⟨vp, rfl, hp, ht, hn⟩ := hG
  obtain ⟨vb, bp, cp, rfl, -, -, hvb, hrp⟩ := prods_vb hp
  obtain ⟨bl, cl, rfl, hc1, hc2, hrl⟩ := hl
  unfold maxLen at hc2
  have hbd := fun (k : Nat) hk w' (hm' : Mem (w : Base) [] w') => itBody_calls g.terms g.nons bp cp g.prods vb w w' w k hk (Old.self w) hm' (fun i hi => let ⟨b, c, h, _⟩ := hvb i hi; ⟨b, _, c, h⟩) (fun h => let ⟨b, off, h1, _, h3⟩ := hrp h; ⟨b, off, h1, fun i hi => (h3 i hi).1⟩)
  refine enter (args := [graV g.terms g.nons (.slice bp g.prods.length cp), .slice bl l.length cl]) (n := 61) Try.func15 rfl rfl rfl ?_
  refine T_seq (T_region (TL_box rfl rfl rfl fun g2 => ?_))
  conv => arg 8; simp only [zA, zB, zC, zD, zE, zF, zG, zH, zI, rowS, ret, id_eq]
  repeat (first
    | refine QV QP ?_ | refine QZ ?_ | refine qcT rfl ?_ | refine qcF rfl ?_ | refine E_blockX ?_ | refine E_blockO rfl ?_
    | refine qs rfl rfl rfl rfl rfl rfl ?_
    | ((try refine qg rfl rfl rfl ?_); first | refine QV QP ?_ | refine QV (rr_loadB (i := 0) TyC.ty rfl rfl rfl) ?_ | refine QV QL ?_ | refine QV QA ?_ | refine QV QlT ?_ | refine QV QlF ?_ | refine QV QgT ?_ | refine QV QgF ?_ | refine QV QnT ?_ | refine QV QnF ?_ | refine QV QaA ?_))
  refine TL_call (he1 EntersC.en rfl rfl) (fun w hm => hck w hm.below) rfl rfl rfl ?_
  intro _ _
  conv => arg 8; simp only [zA, zB, zC, zD, zE, zF, zG, zH, zI, rowS, ret, id_eq]
  have hE : checkI g l = if checkG g ≠ 0 then checkG g else if 4000 < l.length then 2 else itemsE g l := rfl
  generalize checkI g l = rE at *
  have hpos := checkG_pos (g := g)
  by_cases c0 : checkG g = 0
  · obtain ⟨-, -, -, -, hpl, hgb⟩ := checkG_ok c0
    rw [if_neg (by rw [c0]; simp)] at hE
    rw [c0]
    by_cases c1 : 4000 < l.length
    · rw [if_pos c1] at hE
      subst hE
      repeat (first
        | refine QV QP ?_ | refine QZ ?_ | refine qcT rfl ?_ | refine qcF rfl ?_ | refine E_blockX ?_ | refine E_blockO rfl ?_
        | refine qs rfl rfl rfl rfl rfl rfl ?_
        | ((try refine qg rfl rfl rfl ?_); first | refine QV QP ?_ | refine QV QL ?_ | refine QV QA ?_ | refine QV QlT ?_ | refine QV QlF ?_ | refine QV QgT ?_ | refine QV QgF ?_ | refine QV QnT ?_ | refine QV QnF ?_ | refine QV QaA ?_))
      exact E_ret1 rfl rfl fun w hm => hm.ret
    rw [if_neg c1] at hE
    repeat (first
      | refine QV QP ?_ | refine QZ ?_ | refine qcT rfl ?_ | refine qcF rfl ?_ | refine E_blockX ?_ | refine E_blockO rfl ?_
      | refine qs rfl rfl rfl rfl rfl rfl ?_
      | ((try refine qg rfl rfl rfl ?_); first | refine QV QP ?_ | refine QV QL ?_ | refine QV QA ?_ | refine QV QlT ?_ | refine QV QlF ?_ | refine QV QgT ?_ | refine QV QgF ?_ | refine QV QnT ?_ | refine QV QnF ?_ | refine QV QaA ?_))
    refine T_loop (ι := Nat) (fun k => k ≤ l.length ∧ rE = itemsE g (l.drop k)) (fun k => [(2, .pointer (some ⟨g2, 0, none⟩)), (16, .slice bl l.length cl), (17, .int .i64 l.length), (18, .int .i64 (k : Int))])
      (fun _ => [blkO g2 (graV g.terms g.nons (.slice bp g.prods.length cp)).cells 24]) (fun k => l.length - k) 0 ⟨Nat.zero_le _, hE⟩ (by repeat' (first | exact True.intro | refine And.intro rfl ?_)) rfl ?_
    rintro k ⟨i1, i2⟩
    clear hE
    by_cases c2 : k < l.length
    · obtain ⟨b, off, rfl, hrd⟩ := hrl (by omega)
      have hat := fun L => at_el (L := L) itC_len hrd c2
      rw [List.drop_eq_getElem_cons c2, itemsE] at i2
      generalize hrest : itemsE g (l.drop (k + 1)) = rest at *
      have hatA : ∀ (L : List Own) (j : Nat) (u : Value), (itC l[k])[j]? = some u → At (w : Base) L ⟨b, off + k * 3 + j, none⟩ u := hat
      clear hat hrl hrd
      generalize l[k] = x at *
      obtain ⟨p, d, lo⟩ := x
      have hB := show rightB g (p, d, lo) = decide (0 ≤ p ∧ p ≤ (g.prods.length : Int) ∧ 0 ≤ d ∧ d ≤ ((bodyI g.prods p).length : Int) ∧ 0 ≤ lo ∧ lo ≤ g.terms) from rfl
      rw [hB] at i2
      clear hB
      repeat (first
        | refine QV QP ?_ | refine QZ ?_ | refine qcT rfl ?_ | refine qcF rfl ?_ | refine E_blockX ?_ | refine E_blockO rfl ?_
        | refine qs rfl rfl rfl rfl rfl rfl ?_
        | ((try refine qg rfl rfl rfl ?_); first | refine QV QP ?_ | refine QV (rr_idxc Und.eq TyC.ty rfl rfl c2) ?_ | refine QV (rr_loadN (cs := itC (p, d, lo)) TyC.ty rfl rfl (hatA _)) ?_ | refine QV QL ?_ | refine QV QA ?_ | refine QV QlT ?_ | refine QV QlF ?_ | refine QV QgT ?_ | refine QV QgF ?_ | refine QV QnT ?_ | refine QV QnF ?_ | refine QV QaA ?_))
      refine TL_new rfl fun g7 => ?_
      conv => arg 8; simp only [zA, zB, zC, zD, zE, zF, zG, zH, zI, rowS, ret, id_eq]
      refine TL_storeB (i := 1) (cs' := (itC (p, d, lo)).toArray) rfl rfl rfl rfl rfl rfl ?_
      conv => arg 8; simp only [zA, zB, zC, zD, zE, zF, zG, zH, zI, rowS, ret, id_eq]
      repeat (first
        | refine QV QP ?_ | refine QZ ?_ | refine qcT rfl ?_ | refine qcF rfl ?_ | refine E_blockX ?_ | refine E_blockO rfl ?_
        | refine qs rfl rfl rfl rfl rfl rfl ?_
        | ((try refine qg rfl rfl rfl ?_); first | refine QV QP ?_ | refine QV QL ?_ | refine QV QA ?_ | refine QV QlT ?_ | refine QV QlF ?_ | refine QV QgT ?_ | refine QV QgF ?_ | refine QV QnT ?_ | refine QV QnF ?_ | refine QV QaA ?_))
      by_cases q1 : p < 0
      · rw [if_neg (by simp; omega)] at i2
        subst i2
        refine T_ord ([blkO g2 (graV g.terms g.nons (.slice bp g.prods.length cp)).cells 24, blkO g7 (itC (p, d, lo)).toArray 31]) (.calm 0 (.calm 1 (.calm 2 (.calm 3 (.calm 4 (.calm 5 (.calm 6 (.calm 7 (.calm 8 (.calm 9 (.calm 10 (.calm 11 (.calm 12 (.calm 13 (.calm 14 (.calm 15 (.calm 16 (.calm 17 (.calm 18 (.calm 19 (.calm 20 (.calm 21 (.calm 22 (.calm 23 (.calm 24 (.calm 25 (.calm 26 (.calm 27 (.calm 28 (.calm 29 (.calm 30 (.calm 31 (.calm 32 (.calm 33 (.calm 34 (.calm 35 (.calm 36 (.calm 37 (.done))))))))))))))))))))))))))))))))))))))) (fun _ h => h) (by kernel_rfl) (by kernel_rfl) (by intro c a d v w h; cases d <;> exact h) ?_
        repeat (first
          | ((first | refine TW_plain rfl rfl ?_ | refine TW_gmet rfl rfl rfl rfl ?_); first | refine QW QP ?_ | refine QW (rr_load1 (v := .int .i64 p) TyC.ty rfl (at_blk (i := 1) rfl rfl)) ?_ | refine QW QL ?_ | refine QW QA ?_ | refine QW QlT ?_ | refine QW QlF ?_ | refine QW QgT ?_ | refine QW QgF ?_ | refine QW QnT ?_ | refine QW QnF ?_ | refine QW QaA ?_)
          | refine TW_skip rfl rfl rfl rfl rfl rfl rfl ?_ | refine TW_done ?_)
        repeat (first
          | refine QV QP ?_ | refine QZ ?_ | refine qcT rfl ?_ | refine qcF rfl ?_ | refine E_blockX ?_ | refine E_blockO rfl ?_
          | refine qs rfl rfl rfl rfl rfl rfl ?_
          | ((try refine qg rfl rfl rfl ?_); first | refine QV QP ?_ | refine QV QL ?_ | refine QV QA ?_ | refine QV QlT ?_ | refine QV QlF ?_ | refine QV QgT ?_ | refine QV QgF ?_ | refine QV QnT ?_ | refine QV QnF ?_ | refine QV QaA ?_))
        exact E_ret1 rfl rfl fun w hm => hm.ret
      by_cases q2 : (g.prods.length : Int) < p
      · rw [if_neg (by simp; omega)] at i2
        subst i2
        refine T_ord ([blkO g2 (graV g.terms g.nons (.slice bp g.prods.length cp)).cells 24, blkO g7 (itC (p, d, lo)).toArray 31]) (.calm 0 (.calm 1 (.calm 2 (.calm 3 (.calm 4 (.calm 5 (.calm 6 (.calm 7 (.calm 8 (.calm 9 (.calm 10 (.calm 11 (.calm 12 (.calm 13 (.calm 14 (.calm 15 (.calm 16 (.calm 17 (.calm 18 (.calm 19 (.calm 20 (.calm 21 (.calm 22 (.calm 23 (.calm 24 (.calm 25 (.calm 26 (.calm 27 (.calm 28 (.calm 29 (.calm 30 (.calm 31 (.calm 32 (.calm 33 (.calm 34 (.calm 35 (.calm 36 (.calm 37 (.done))))))))))))))))))))))))))))))))))))))) (fun _ h => h) (by kernel_rfl) (by kernel_rfl) (by intro c a d v w h; cases d <;> exact h) ?_
        repeat (first
          | ((first | refine TW_plain rfl rfl ?_ | refine TW_gmet rfl rfl rfl rfl ?_); first | refine QW QP ?_ | refine QW (rr_load1 (v := .int .i64 p) TyC.ty rfl (at_blk (i := 1) rfl rfl)) ?_ | refine QW (rr_load1 (v := .slice bp g.prods.length cp) TyC.ty rfl (at_blk (i := 0) rfl rfl)) ?_ | refine QW QL ?_ | refine QW QA ?_ | refine QW QlT ?_ | refine QW QlF ?_ | refine QW QgT ?_ | refine QW QgF ?_ | refine QW QnT ?_ | refine QW QnF ?_ | refine QW QaA ?_)
          | refine TW_skip rfl rfl rfl rfl rfl rfl rfl ?_ | refine TW_done ?_)
        repeat (first
          | refine QV QP ?_ | refine QZ ?_ | refine qcT rfl ?_ | refine qcF rfl ?_ | refine E_blockX ?_ | refine E_blockO rfl ?_
          | refine qs rfl rfl rfl rfl rfl rfl ?_
          | ((try refine qg rfl rfl rfl ?_); first | refine QV QP ?_ | refine QV QL ?_ | refine QV QA ?_ | refine QV QlT ?_ | refine QV QlF ?_ | refine QV QgT ?_ | refine QV QgF ?_ | refine QV QnT ?_ | refine QV QnF ?_ | refine QV QaA ?_))
        exact E_ret1 rfl rfl fun w hm => hm.ret
      by_cases q3 : d < 0
      · rw [if_neg (by simp; omega)] at i2
        subst i2
        refine T_ord ([blkO g2 (graV g.terms g.nons (.slice bp g.prods.length cp)).cells 24, blkO g7 (itC (p, d, lo)).toArray 31]) (.calm 0 (.calm 1 (.calm 2 (.calm 3 (.calm 4 (.calm 5 (.calm 6 (.calm 7 (.calm 8 (.calm 9 (.calm 10 (.calm 11 (.calm 12 (.calm 13 (.calm 14 (.calm 15 (.calm 16 (.calm 17 (.calm 18 (.calm 19 (.calm 20 (.calm 21 (.calm 22 (.calm 23 (.calm 24 (.calm 25 (.calm 26 (.calm 27 (.calm 28 (.calm 29 (.calm 30 (.calm 31 (.calm 32 (.calm 33 (.calm 34 (.calm 35 (.calm 36 (.calm 37 (.done))))))))))))))))))))))))))))))))))))))) (fun _ h => h) (by kernel_rfl) (by kernel_rfl) (by intro c a d v w h; cases d <;> exact h) ?_
        repeat (first
          | ((first | refine TW_plain rfl rfl ?_ | refine TW_gmet rfl rfl rfl rfl ?_); first | refine QW QP ?_ | refine QW (rr_load1 (v := .int .i64 p) TyC.ty rfl (at_blk (i := 1) rfl rfl)) ?_ | refine QW (rr_load1 (v := .slice bp g.prods.length cp) TyC.ty rfl (at_blk (i := 0) rfl rfl)) ?_ | refine QW (rr_load1 (v := .int .i64 d) TyC.ty rfl (at_blk (i := 1) rfl rfl)) ?_ | refine QW QL ?_ | refine QW QA ?_ | refine QW QlT ?_ | refine QW QlF ?_ | refine QW QgT ?_ | refine QW QgF ?_ | refine QW QnT ?_ | refine QW QnF ?_ | refine QW QaA ?_)
          | refine TW_skip rfl rfl rfl rfl rfl rfl rfl ?_ | refine TW_done ?_)
        repeat (first
          | refine QV QP ?_ | refine QZ ?_ | refine qcT rfl ?_ | refine qcF rfl ?_ | refine E_blockX ?_ | refine E_blockO rfl ?_
          | refine qs rfl rfl rfl rfl rfl rfl ?_
          | ((try refine qg rfl rfl rfl ?_); first | refine QV QP ?_ | refine QV QL ?_ | refine QV QA ?_ | refine QV QlT ?_ | refine QV QlF ?_ | refine QV QgT ?_ | refine QV QgF ?_ | refine QV QnT ?_ | refine QV QnF ?_ | refine QV QaA ?_))
        exact E_ret1 rfl rfl fun w hm => hm.ret
      obtain ⟨kn, rfl⟩ := Int.eq_ofNat_of_zero_le (show 0 ≤ p by omega)
      have hk : kn ≤ g.prods.length := by omega
      refine T_ord ([blkO g2 (graV g.terms g.nons (.slice bp g.prods.length cp)).cells 24, blkO g7 (itC ((kn : Int), d, lo)).toArray 31]) (.calm 0 (.calm 1 (.calm 2 (.calm 3 (.calm 4 (.calm 5 (.calm 6 (.calm 7 (.calm 8 (.calm 9 (.calm 10 (.calm 11 (.calm 12 (.calm 13 (.calm 14 (.calm 15 (.calm 16 (.calm 17 (.calm 18 (.calm 19 (.calm 20 (.calm 21 (.one 22 (.calm 23 (.calm 24 (.calm 25 (.calm 26 (.calm 27 (.calm 28 (.calm 29 (.calm 30 (.calm 31 (.calm 32 (.calm 33 (.calm 34 (.calm 35 (.calm 36 (.calm 37 (.done))))))))))))))))))))))))))))))))))))))) (fun _ h => h) (by kernel_rfl) (by kernel_rfl) (by intro c a d v w h; cases d <;> exact h) ?_
      repeat (first
        | ((first | refine TW_plain rfl rfl ?_ | refine TW_gmet rfl rfl rfl rfl ?_); first | refine QW QP ?_ | refine QW (rr_load1 (v := .int .i64 (kn : Int)) TyC.ty rfl (at_blk (i := 1) rfl rfl)) ?_ | refine QW (rr_load1 (v := .slice bp g.prods.length cp) TyC.ty rfl (at_blk (i := 0) rfl rfl)) ?_ | refine QW (rr_load1 (v := .int .i64 d) TyC.ty rfl (at_blk (i := 1) rfl rfl)) ?_ | refine QW (rr_loadB (i := 0) TyC.ty rfl rfl rfl) ?_ | refine QW QL ?_ | refine QW QA ?_ | refine QW QlT ?_ | refine QW QlF ?_ | refine QW QgT ?_ | refine QW QgF ?_ | refine QW QnT ?_ | refine QW QnF ?_ | refine QW QaA ?_)
        | refine TW_skip rfl rfl rfl rfl rfl rfl rfl ?_ | refine TW_done ?_)
      refine TW_one rfl ?_
      refine TL_gcall (he2 EntersC.en rfl rfl rfl) (fun w hm => hbd kn hk _ (hm.pick [] (by decide) rfl)) rfl rfl rfl rfl rfl ?_
      rintro xb hxb
      conv => arg 8; simp only [zA, zB, zC, zD, zE, zF, zG, zH, zI, rowS, ret, id_eq, bodyS]
      conv => arg 7; simp only [bodyS]
      obtain ⟨bb, cc, hbv, hlc, -⟩ := body_slL (W := (w : Base)) (i := 2) (L := [blkO g2 (graV g.terms g.nons (.slice bp g.prods.length cp)).cells 24, blkO g7 (itC ((kn : Int), d, lo)).toArray 31, bodO xb]) (Old.self w) hvb hk hxb rfl
      rw [hbv]
      refine TW_on (sub_pick [0, 1] (by decide) rfl) ?_
      clear hbd
      generalize (bodyI g.prods (kn : Int)).length = m at *
      by_cases q4 : (m : Int) < d
      · rw [if_neg (by simp; omega)] at i2
        subst i2
        repeat (first
          | ((first | refine TW_plain rfl rfl ?_ | refine TW_gmet rfl rfl rfl rfl ?_); first | refine QW QP ?_ | refine QW QL ?_ | refine QW QA ?_ | refine QW QlT ?_ | refine QW QlF ?_ | refine QW QgT ?_ | refine QW QgF ?_ | refine QW QnT ?_ | refine QW QnF ?_ | refine QW QaA ?_)
          | refine TW_skip rfl rfl rfl rfl rfl rfl rfl ?_ | refine TW_done ?_)
        repeat (first
          | refine QV QP ?_ | refine QZ ?_ | refine qcT rfl ?_ | refine qcF rfl ?_ | refine E_blockX ?_ | refine E_blockO rfl ?_
          | refine qs rfl rfl rfl rfl rfl rfl ?_
          | ((try refine qg rfl rfl rfl ?_); first | refine QV QP ?_ | refine QV QL ?_ | refine QV QA ?_ | refine QV QlT ?_ | refine QV QlF ?_ | refine QV QgT ?_ | refine QV QgF ?_ | refine QV QnT ?_ | refine QV QnF ?_ | refine QV QaA ?_))
        exact E_ret1 rfl rfl fun w hm => hm.ret
      by_cases q5 : lo < 0
      · rw [if_neg (by simp; omega)] at i2
        subst i2
        repeat (first
          | ((first | refine TW_plain rfl rfl ?_ | refine TW_gmet rfl rfl rfl rfl ?_); first | refine QW QP ?_ | refine QW (rr_load1 (v := .int .i64 lo) TyC.ty rfl (at_blk (i := 1) rfl rfl)) ?_ | refine QW QL ?_ | refine QW QA ?_ | refine QW QlT ?_ | refine QW QlF ?_ | refine QW QgT ?_ | refine QW QgF ?_ | refine QW QnT ?_ | refine QW QnF ?_ | refine QW QaA ?_)
          | refine TW_skip rfl rfl rfl rfl rfl rfl rfl ?_ | refine TW_done ?_)
        repeat (first
          | refine QV QP ?_ | refine QZ ?_ | refine qcT rfl ?_ | refine qcF rfl ?_ | refine E_blockX ?_ | refine E_blockO rfl ?_
          | refine qs rfl rfl rfl rfl rfl rfl ?_
          | ((try refine qg rfl rfl rfl ?_); first | refine QV QP ?_ | refine QV QL ?_ | refine QV QA ?_ | refine QV QlT ?_ | refine QV QlF ?_ | refine QV QgT ?_ | refine QV QgF ?_ | refine QV QnT ?_ | refine QV QnF ?_ | refine QV QaA ?_))
        exact E_ret1 rfl rfl fun w hm => hm.ret
      by_cases q6 : g.terms < lo
      · rw [if_neg (by simp; omega)] at i2
        subst i2
        repeat (first
          | ((first | refine TW_plain rfl rfl ?_ | refine TW_gmet rfl rfl rfl rfl ?_); first | refine QW QP ?_ | refine QW (rr_load1 (v := .int .i64 lo) TyC.ty rfl (at_blk (i := 1) rfl rfl)) ?_ | refine QW (rr_load1 (v := .int .i64 g.terms) TyC.ty rfl (at_blk (i := 0) rfl rfl)) ?_ | refine QW QL ?_ | refine QW QA ?_ | refine QW QlT ?_ | refine QW QlF ?_ | refine QW QgT ?_ | refine QW QgF ?_ | refine QW QnT ?_ | refine QW QnF ?_ | refine QW QaA ?_)
          | refine TW_skip rfl rfl rfl rfl rfl rfl rfl ?_ | refine TW_done ?_)
        repeat (first
          | refine QV QP ?_ | refine QZ ?_ | refine qcT rfl ?_ | refine qcF rfl ?_ | refine E_blockX ?_ | refine E_blockO rfl ?_
          | refine qs rfl rfl rfl rfl rfl rfl ?_
          | ((try refine qg rfl rfl rfl ?_); first | refine QV QP ?_ | refine QV QL ?_ | refine QV QA ?_ | refine QV QlT ?_ | refine QV QlF ?_ | refine QV QgT ?_ | refine QV QgF ?_ | refine QV QnT ?_ | refine QV QnF ?_ | refine QV QaA ?_))
        exact E_ret1 rfl rfl fun w hm => hm.ret
      rw [if_pos (by simp; omega)] at i2
      repeat (first
        | ((first | refine TW_plain rfl rfl ?_ | refine TW_gmet rfl rfl rfl rfl ?_); first | refine QW QP ?_ | refine QW (rr_load1 (v := .int .i64 lo) TyC.ty rfl (at_blk (i := 1) rfl rfl)) ?_ | refine QW (rr_load1 (v := .int .i64 g.terms) TyC.ty rfl (at_blk (i := 0) rfl rfl)) ?_ | refine QW QL ?_ | refine QW QA ?_ | refine QW QlT ?_ | refine QW QlF ?_ | refine QW QgT ?_ | refine QW QgF ?_ | refine QW QnT ?_ | refine QW QnF ?_ | refine QW QaA ?_)
        | refine TW_skip rfl rfl rfl rfl rfl rfl rfl ?_ | refine TW_done ?_)
      repeat (first
        | refine QV QP ?_ | refine QZ ?_ | refine qcT rfl ?_ | refine qcF rfl ?_ | refine E_blockX ?_ | refine E_blockO rfl ?_
        | refine qs rfl rfl rfl rfl rfl rfl ?_
        | ((try refine qg rfl rfl rfl ?_); first | refine QV QP ?_ | refine QV QL ?_ | refine QV QA ?_ | refine QV QlT ?_ | refine QV QlF ?_ | refine QV QgT ?_ | refine QV QgF ?_ | refine QV QnT ?_ | refine QV QnF ?_ | refine QV QaA ?_))
      refine E_pick [0] (by decide) rfl ?_
      exact E_round (k + 1) ⟨by omega, by rw [hrest]; exact i2⟩ (by show l.length - (k + 1) < l.length - k; omega) (by repeat' (first | exact True.intro | refine And.intro rfl ?_)) rfl
    · obtain rfl : k = l.length := by omega
      rw [List.drop_eq_nil_of_le (Nat.le_refl _), itemsE] at i2
      subst i2
      repeat (first
        | refine QV QP ?_ | refine QZ ?_ | refine qcT rfl ?_ | refine qcF rfl ?_ | refine E_blockX ?_ | refine E_blockO rfl ?_
        | refine qs rfl rfl rfl rfl rfl rfl ?_
        | ((try refine qg rfl rfl rfl ?_); first | refine QV QP ?_ | refine QV QL ?_ | refine QV QA ?_ | refine QV QlT ?_ | refine QV QlF ?_ | refine QV QgT ?_ | refine QV QgF ?_ | refine QV QnT ?_ | refine QV QnF ?_ | refine QV QaA ?_))
      exact E_ret1 rfl rfl fun w hm => hm.ret
  · rw [if_pos c0] at hE
    subst hE
    repeat (first
      | refine QV QP ?_ | refine QZ ?_ | refine qcT rfl ?_ | refine qcF rfl ?_ | refine E_blockX ?_ | refine E_blockO rfl ?_
      | refine qs rfl rfl rfl rfl rfl rfl ?_
      | ((try refine qg rfl rfl rfl ?_); first | refine QV QP ?_ | refine QV QL ?_ | refine QV QA ?_ | refine QV QlT ?_ | refine QV QlF ?_ | refine QV QgT ?_ | refine QV QgF ?_ | refine QV QnT ?_ | refine QV QnF ?_ | refine QV QaA ?_))
    exact E_ret1 rfl rfl fun w hm => hm.ret
theorem build_open (t n : Int) (vp : Value) (gm : Nat) (w : World) : (Instr.build 69 #[(0, graV t n vp), (1, .map (some gm))]).run Try.prog w = .ok (.agg (opC t n vp gm).toArray) w := by kernel_rfl
/-- what begun makes -/
def begS (t n : Int) (vp : Value) : Spec (Nat × Nat) := ⟨fun _ => True, fun x => .pointer (some ⟨x.1, 0, none⟩), fun x => [mapO restK x.2 (fun _ => none) 0, blkO x.1 (opC t n vp x.2).toArray 69]⟩
theorem begun_calls (t n : Int) (vp : Value) (w : World) : Calls Try.prog 16 #[graV t n vp] w (Meets (begS t n vp) w) := by
  have hb := build_open t n vp
  refine enter (args := [graV t n vp]) (n := 7) Try.func16 rfl rfl rfl ?_
  refine T_seq (T_region (TL_box rfl rfl rfl fun g1 => ?_))
  conv => arg 8; simp only [zA, zB, zC, zD, zE, zF, zG, zH, zI, rowS, ret, id_eq]
  repeat (first
    | refine QV QP ?_ | refine QZ ?_ | refine QV (rr_loadB (i := 0) TyC.ty rfl rfl rfl) ?_)
  refine TL_map restK rfl fun gm => ?_
  conv => arg 8; simp only [zA, zB, zC, zD, zE, zF, zG, zH, zI, rowS, ret, id_eq]
  repeat (first
    | refine QV QP ?_ | refine QZ ?_ | refine QV (rr_build rfl (hb _)) ?_)
  refine TL_box rfl rfl rfl fun go => ?_
  conv => arg 8; simp only [zA, zB, zC, zD, zE, zF, zG, zH, zI, rowS, ret, id_eq]
  repeat (first
    | refine QV QP ?_ | refine QZ ?_)
  exact E_ret1 rfl rfl fun w hm => hm.meets (S := begS t n vp) (go, gm) trivial [1, 2] (by decide) rfl
end Go.Proofs.Ytmcclhddjielnaa.eng

/- ItG -/
namespace Go.Proofs.Ytmcclhddjielnaa.eng
open Go.RowKit kit mix gramL treeL factsL itemL smallL
/-- an own slice, handed to a call that can't turn it -/
theorem SlB.row {W : Base} {L Lx : List Own} {w : World} (hm : Mem W L w) {i n size : Nat} {e : TypeId} {v : Value} {xs : List Value} (hi : L[i]? = some (rowO e size v n xs)) (is : List Nat) (hL : Lx = is.filterMap fun i => L[i]?) (hni : i ∉ is) : SlB (Base.on w Lx) v n xs := by
  have hh : (rowO e size v n xs).holds w := hm.get hi
  obtain ⟨base, cap, rfl, h1, h2, h3⟩ := Sl.of_own hh
  refine ⟨base, cap, rfl, h1, h2, fun hn => ?_⟩
  obtain ⟨b, off, rfl, hr⟩ := h3 hn
  have hf : (rowO e size (.slice (some ⟨b, off, none⟩) n cap) n xs).foot b := by
    rcases (show w.ownsRow 0 e size _ n xs from hh).2 with ⟨hv, _⟩ | ⟨g, cp, cur, hv, _⟩
    · cases hv
    · cases hv; exact .inl rfl
  refine ⟨b, off, rfl, ⟨(rowO e size _ n xs).lt w hh b hf, ?_⟩, hr⟩
  rintro ⟨o, ho, hfo⟩
  subst hL
  obtain ⟨j, hj, hoj⟩ := List.mem_filterMap.1 ho
  exact hm.owns.apart i j _ _ (fun h => hni (h ▸ hj)) hi hoj b hf hfo
theorem SlB.at {B : Base} {L : List Own} {α : Type} {f : α → List Value} {c : Nat} (hc : ∀ a, (f a).length = c) {base : Option Addr} {cap n : Nat} {l : List α} (h : SlB B (.slice base n cap) n (l.flatMap f)) (hn : 0 < n) : ∃ b off, base = some ⟨b, off, none⟩ ∧ ∀ (k : Nat) (hk : k < l.length) (j : Nat) (u : Value), (f l[k])[j]? = some u → At B L ⟨b, off + k * c + j, none⟩ u := by
  obtain ⟨base', cap', h0, h1, h2, h3⟩ := h
  cases h0
  obtain ⟨b, off, rfl, ho, hr⟩ := h3 hn
  exact ⟨b, off, rfl, fun k hk j u hj => at_elL (W := B) (L := L) hc (off := off) (fun q y hq => at_oldB ho hr q y hq) hk j u hj⟩
end Go.Proofs.Ytmcclhddjielnaa.eng

/- ItS -/
namespace Go.Proofs.Ytmcclhddjielnaa.eng
open Go.RowKit kit mix gramL treeL factsL itemL smallL
theorem checkI_ok {g : Gram} {l : List itemL.Item} (h : checkI g l = 0) : checkG g = 0 ∧ l.length ≤ 4000 ∧ ∀ x ∈ l, RightI g.prods g.terms.toNat x := by
  unfold checkI at h
  by_cases c0 : checkG g = 0
  · rw [if_neg (by rw [c0]; simp)] at h
    by_cases c1 : 4000 < l.length
    · rw [if_pos c1] at h; cases h
    · rw [if_neg c1] at h
      refine ⟨c0, by omega, fun x hx => ?_⟩
      have := of_decide_eq_true (itemsE_ok h x hx)
      have ht := (checkG_ok c0).1
      unfold RightI
      omega
  · rw [if_pos c0] at h; exact absurd h c0
theorem checkI_of {g : Gram} {l : List itemL.Item} (h : checkG g = 0) (hl : l.length ≤ 4000) (hr : ∀ x ∈ l, RightI g.prods g.terms.toNat x) : checkI g l = 0 := by
  unfold checkI
  rw [if_neg (by rw [h]; simp), if_neg (by omega)]
  have ht := (checkG_ok h).1
  refine itemsE_of fun x hx => decide_eq_true ?_
  have := hr x hx
  unfold RightI at this
  omega
def closedA (g : Gram) (l : List itemL.Item) : List itemL.Item := if checkI g l = 0 then closedI g.prods g.terms.toNat (lkG g) l else []
def itemsS (e : Int) (r : List itemL.Item) : Spec Value := ⟨fun _ => True, fun v => .tuple #[v, .int .i64 e], fun v => [rowO 31 3 v r.length (r.flatMap itC)]⟩
theorem flat_ne {α : Type} {f : α → List Value} {c : Nat} (hc : ∀ a, (f a).length = c) (hc0 : 0 < c) {l : List α} (h : 0 < l.length) : l.flatMap f ≠ [] := by
  intro e
  have := len_el hc l
  rw [e] at this
  have h2 : 0 < l.length * c := Nat.mul_pos h hc0
  rw [← this] at h2
  exact absurd h2 (by simp)
set_option maxHeartbeats 4000000 in
theorem itemsClosed_calls (v : Value) (g : Gram) (vl : Value) (l : List itemL.Item) (w : World) (hG : GraR (fun k => k < w.heap.size) w v g) (hl : Sl w vl l.length (l.flatMap itC)) :
    Calls Try.prog 5 #[v, vl] w (Meets (itemsS (checkI g l) (closedA g l)) w) := by
  have hG0 := hG
  have hck := fun w' (hg : Gr w w') => itCheck_calls v g vl l w' (hG.gr hg) (hl.gr hg)
  obtain ⟨vp, rfl, hp, ht, hn⟩ := hG
  obtain ⟨vb, bp, cp, rfl, -, -, hvb, hrp⟩ := prods_vb hp
  have hbg := begun_calls g.terms g.nons (.slice bp g.prods.length cp)
  have hA : closedA g l = if checkI g l = 0 then closedI g.prods g.terms.toNat (lkG g) l else [] := rfl
  refine enter (args := [graV g.terms g.nons (.slice bp g.prods.length cp), vl]) (n := 17) Try.func5 rfl rfl rfl ?_
  refine T_seq (T_region (TL_box rfl rfl rfl fun g2 => ?_))
  conv => arg 8; simp only [zA, zB, zC, zD, zE, zF, zG, zH, zI, rowS, ret, id_eq]
  repeat (first
    | refine QV QP ?_ | refine QZ ?_ | refine qcT rfl ?_ | refine qcF rfl ?_ | refine QV (rr_loadB (i := 0) TyC.ty rfl rfl rfl) ?_ | refine QV QnT ?_
    | refine QV QnF ?_)
  refine TL_call (he2 EntersC.en rfl rfl rfl) (fun w hm => hck w hm.below) rfl rfl rfl ?_
  intro _ _
  conv => arg 8; simp only [zA, zB, zC, zD, zE, zF, zG, zH, zI, rowS, ret, id_eq]
  by_cases c0 : checkI g l = 0
  · rw [if_pos c0] at hA
    obtain ⟨hg, hll, hr⟩ := checkI_ok c0
    have hT := (checkG_ok hg).1
    have hT2 := (checkG_ok hg).2.1
    have hcl := fun go gm w' B' ho' hs' hm' => itClosed_calls g hg bp cp vb w hG0 hvb (fun h => let ⟨b, off, h1, _, h3⟩ := hrp h; ⟨b, off, h1, fun i hi => (h3 i hi).1⟩) go gm 0 (fun _ => none) g.terms.toNat (by omega) (by omega) l vl hr (by omega) (fun x v h => by cases h) (by omega) w' B' ho' hs' hm'
    rw [hA, c0]
    repeat (first
      | refine QV QP ?_ | refine QZ ?_ | refine qcT rfl ?_ | refine qcF rfl ?_ | refine QV (rr_loadB (i := 0) TyC.ty rfl rfl rfl) ?_ | refine QV QnT ?_
      | refine QV QnF ?_)
    refine TL_call (he1 EntersC.en rfl rfl) (fun w hm => hbg w) rfl rfl rfl ?_
    rintro ⟨go, gm⟩ _
    conv => arg 8; simp only [zA, zB, zC, zD, zE, zF, zG, zH, zI, rowS, ret, id_eq, begS]
    conv => arg 7; simp only [begS]
    repeat (first
      | refine QV QP ?_ | refine QZ ?_ | refine qcT rfl ?_ | refine qcF rfl ?_ | refine QV QnT ?_ | refine QV QnF ?_)
    refine TL_callB [2, 1] [0] (by decide) rfl rfl (he2 EntersC.en rfl rfl rfl) (fun w' hm hb => hcl go gm w' _ ((Old.self w).on hm fun o h => pickMem h) (SlB.old ((Old.self w).on hm fun o h => pickMem h) hl (fun hn => flat_ne itC_len (by decide) hn)) hb) rfl rfl rfl ?_
    rintro ⟨f2, c2, v2⟩ _
    conv => arg 8; simp only [zA, zB, zC, zD, zE, zF, zG, zH, zI, rowS, ret, id_eq, itClS, opL]
    conv => arg 7; simp only [itClS]
    repeat (first
      | refine QV QP ?_ | refine QZ ?_ | refine qcT rfl ?_ | refine qcF rfl ?_ | refine QV QnT ?_ | refine QV QnF ?_)
    exact E_ret2 rfl rfl rfl fun w hm => hm.meets (S := itemsS 0 (closedI g.prods g.terms.toNat (lkG g) l)) v2 trivial [3] (by decide) rfl
  · rw [if_neg c0] at hA
    rw [hA]
    have hpos := checkI g l
    repeat (first
      | refine QV QP ?_ | refine QZ ?_ | refine qcT rfl ?_ | refine qcF rfl ?_ | refine QV (rr_neq (b := true) rfl rfl (decide_eq_true c0)) ?_
      | refine QV QnT ?_ | refine QV QnF ?_)
    refine E_nilrow 31 3 ?_
    exact E_ret2 rfl rfl rfl fun w hm => hm.meets (S := itemsS (checkI g l) []) (.slice none 0 0) trivial [1] (by decide) rfl
end Go.Proofs.Ytmcclhddjielnaa.eng

/- ItQ -/
namespace Go.Proofs.Ytmcclhddjielnaa.eng
open Go.RowKit kit mix
theorem eq_item (f f' : itemL.Item) (w : World) : (Op.equalIn 10000 31 (.agg (itC f).toArray) (.agg (itC f').toArray)).run Try.prog w = .ok (decide (f = f')) w := by
  obtain ⟨k, q, r⟩ := f
  obtain ⟨k', q', r'⟩ := f'
  unfold itC
  go_simp
  by_cases e1 : k = k' <;> by_cases e2 : q = q' <;> by_cases e3 : r = r' <;> simp [e1, e2, e3]
theorem one_its (l : List itemL.Item) : ∀ u ∈ l.flatMap itC, u.oneCell' = true := by
  intro u hu
  obtain ⟨f, _, h⟩ := List.mem_flatMap.1 hu
  simp only [itC, List.mem_cons, List.not_mem_nil, or_false] at h
  rcases h with rfl | rfl | rfl <;> rfl
end Go.Proofs.Ytmcclhddjielnaa.eng

/- ItT -/
namespace Go.Proofs.Ytmcclhddjielnaa.eng
open Go.RowKit kit mix
theorem ItT_len (a : itemL.Item) : (itC a).length = 3 := rfl
set_option maxHeartbeats 2000000 in
theorem equalItT_calls (v v' : Value) (l l' : List itemL.Item) (w : World) (hs : Sl w v l.length (l.flatMap itC)) (hs' : Sl w v' l'.length (l'.flatMap itC)) :
    Calls Try.prog 9 #[v, v'] w (Meets (ret (.bool (decide (l = l')))) w) := by
  obtain ⟨base, cap, rfl, hcap, hmax, hrd⟩ := hs
  obtain ⟨base', cap', rfl, hcap', hmax', hrd'⟩ := hs'
  unfold maxLen at hmax hmax'
  refine enter (args := [.slice base l.length cap, .slice base' l'.length cap']) (n := 26) Try.func9 rfl rfl rfl ?_
  by_cases c1 : l.length = l'.length
  · repeat (first
      | refine QV QP ?_ | refine QZ ?_ | refine qcT rfl ?_ | refine qcF rfl ?_ | refine E_blockX ?_ | refine E_blockO rfl ?_ | refine QV QL ?_
      | refine QV QlT ?_ | refine QV QlF ?_ | refine QV QnT ?_ | refine QV QnF ?_ | refine QV QaA ?_)
    refine T_loop (ι := Nat) (fun k => k ≤ l.length ∧ l.take k = l'.take k) (fun k => [(0, .slice base l.length cap), (1, .slice base' l'.length cap'), (12, .int .i64 l.length), (13, .int .i64 (k : Int))]) (fun _ => []) (fun k => l.length - k) 0 ⟨by omega, rfl⟩ ⟨rfl, rfl, rfl, rfl, trivial⟩ rfl ?_
    rintro k ⟨h1, h2⟩
    by_cases c2 : k < l.length
    · obtain ⟨b, off, rfl, hr⟩ := hrd (by omega)
      obtain ⟨b', off', rfl, hr'⟩ := hrd' (by omega)
      have c2' : k < l'.length := by omega
      have hat := at_el (L := ([] : List Own)) ItT_len hr c2
      have hat' := at_el (L := ([] : List Own)) ItT_len hr' c2'
      have heq := eq_item l[k] l'[k]
      by_cases c3 : l[k] = l'[k]
      · rw [decide_eq_true c3] at heq
        repeat (first
          | refine QV QP ?_ | refine QZ ?_ | refine qcT rfl ?_ | refine qcF rfl ?_ | refine E_blockX ?_ | refine E_blockO rfl ?_ | refine QV QL ?_
          | refine QV QlT ?_ | refine QV QlF ?_ | refine QV QnT ?_ | refine QV QnF ?_ | refine QV QaA ?_)
        refine T_draw 8 (List.replicate 8 true) rfl (by kernel_rfl) (by kernel_rfl) (by intro c a d v w h; cases d <;> exact h) ?_
        repeat (first
          | refine TM_valg rfl (qp rfl) rfl rfl ?_ | refine TM_valg rfl (rr_idxc Und.eq TyC.ty rfl rfl c2) rfl rfl ?_
          | refine TM_valg rfl (rr_idxc Und.eq TyC.ty rfl rfl c2') rfl rfl ?_ | refine TM_valg rfl (rr_loadN TyC.ty rfl rfl hat) rfl rfl ?_
          | refine TM_valg rfl (rr_loadN TyC.ty rfl rfl hat') rfl rfl ?_ | refine TM_valg rfl (qlen Und.eq rfl) rfl rfl ?_
          | refine TM_valg rfl (rr_lss rfl rfl (qT (by omega))) rfl rfl ?_ | refine TM_valg rfl (rr_lss rfl rfl (qF (by omega))) rfl rfl ?_
          | refine TM_valg rfl (rr_neq rfl rfl (qT (by omega))) rfl rfl ?_ | refine TM_valg rfl (rr_neq rfl rfl (qF (by omega))) rfl rfl ?_
          | refine TM_valg rfl (rr_add64 rfl rfl (by omega) (by omega) rfl) rfl rfl ?_ | refine TM_end ?_)
        repeat (first
          | refine QV QP ?_ | refine QZ ?_ | refine qcT rfl ?_ | refine qcF rfl ?_ | refine E_blockX ?_ | refine E_blockO rfl ?_
          | refine QV (rr_aggne rfl rfl (by kernel_rfl) heq rfl) ?_ | refine QV QL ?_ | refine QV QlT ?_ | refine QV QlF ?_ | refine QV QnT ?_ | refine QV QnF ?_
          | refine QV QaA ?_)
        exact E_round (k + 1) ⟨by omega, by rw [List.take_succ_eq_append_getElem c2, List.take_succ_eq_append_getElem c2', h2, c3]⟩ (by show l.length - (k + 1) < l.length - k; omega) ⟨rfl, rfl, rfl, rfl, trivial⟩ rfl
      · rw [decide_eq_false c3] at heq
        rw [decide_eq_false (fun h => c3 (by subst h; rfl))]
        repeat (first
          | refine QV QP ?_ | refine QZ ?_ | refine qcT rfl ?_ | refine qcF rfl ?_ | refine E_blockX ?_ | refine E_blockO rfl ?_ | refine QV QL ?_
          | refine QV QlT ?_ | refine QV QlF ?_ | refine QV QnT ?_ | refine QV QnF ?_ | refine QV QaA ?_)
        refine T_draw 8 (List.replicate 8 true) rfl (by kernel_rfl) (by kernel_rfl) (by intro c a d v w h; cases d <;> exact h) ?_
        repeat (first
          | refine TM_valg rfl (qp rfl) rfl rfl ?_ | refine TM_valg rfl (rr_idxc Und.eq TyC.ty rfl rfl c2) rfl rfl ?_
          | refine TM_valg rfl (rr_idxc Und.eq TyC.ty rfl rfl c2') rfl rfl ?_ | refine TM_valg rfl (rr_loadN TyC.ty rfl rfl hat) rfl rfl ?_
          | refine TM_valg rfl (rr_loadN TyC.ty rfl rfl hat') rfl rfl ?_ | refine TM_valg rfl (qlen Und.eq rfl) rfl rfl ?_
          | refine TM_valg rfl (rr_lss rfl rfl (qT (by omega))) rfl rfl ?_ | refine TM_valg rfl (rr_lss rfl rfl (qF (by omega))) rfl rfl ?_
          | refine TM_valg rfl (rr_neq rfl rfl (qT (by omega))) rfl rfl ?_ | refine TM_valg rfl (rr_neq rfl rfl (qF (by omega))) rfl rfl ?_
          | refine TM_valg rfl (rr_add64 rfl rfl (by omega) (by omega) rfl) rfl rfl ?_ | refine TM_end ?_)
        repeat (first
          | refine QV QP ?_ | refine QZ ?_ | refine qcT rfl ?_ | refine qcF rfl ?_ | refine E_blockX ?_ | refine E_blockO rfl ?_
          | refine QV (rr_aggne rfl rfl (by kernel_rfl) heq rfl) ?_ | refine QV QL ?_ | refine QV QlT ?_ | refine QV QlF ?_ | refine QV QnT ?_ | refine QV QnF ?_
          | refine QV QaA ?_)
        exact E_ret1 rfl rfl fun w hm => hm.ret
    · have e : l = l' := by
        rw [List.take_of_length_le (by omega), List.take_of_length_le (by omega)] at h2; exact h2
      rw [decide_eq_true e]
      repeat (first
        | refine QV QP ?_ | refine QZ ?_ | refine qcT rfl ?_ | refine qcF rfl ?_ | refine E_blockX ?_ | refine E_blockO rfl ?_ | refine QV QL ?_
        | refine QV QlT ?_ | refine QV QlF ?_ | refine QV QnT ?_ | refine QV QnF ?_ | refine QV QaA ?_)
      exact E_ret1 rfl rfl fun w hm => hm.ret
  · rw [decide_eq_false (fun h => c1 (by rw [h]))]
    repeat (first
      | refine QV QP ?_ | refine QZ ?_ | refine qcT rfl ?_ | refine qcF rfl ?_ | refine E_blockX ?_ | refine E_blockO rfl ?_ | refine QV QL ?_
      | refine QV QlT ?_ | refine QV QlF ?_ | refine QV QnT ?_ | refine QV QnF ?_ | refine QV QaA ?_)
    exact E_ret1 rfl rfl fun w hm => hm.ret
set_option maxHeartbeats 2000000 in
theorem indexFuncItT_calls (v : Value) (l : List itemL.Item) (w : World) (hs : Sl w v l.length (l.flatMap itC)) (fid : FuncId) (first cp : Array Value) (p : itemL.Item → Bool) (hen : Enters Try.prog fid)
    (hp : ∀ a ∈ l, ∀ w', Gr w w' → Calls Try.prog fid (first ++ #[(.agg (itC a).toArray)] ++ cp) w' (Meets (ret (.bool (p a))) w')) :
    Calls Try.prog 21 #[v, .func (.func fid) first cp] w (Meets (ret (.int .i64 (idxF p l))) w) := by
  obtain ⟨base, cap, rfl, hcap, hmax, hrd⟩ := hs
  unfold maxLen at hmax
  refine enter (args := [.slice base l.length cap, .func (.func fid) first cp]) (n := 19) Try.func21 rfl rfl rfl ?_
  repeat (first
    | refine QV QP ?_ | refine QZ ?_ | refine qcT rfl ?_ | refine qcF rfl ?_ | refine E_blockX ?_ | refine E_blockO rfl ?_ | refine QV QL ?_
    | refine QV QlT ?_ | refine QV QlF ?_ | refine QV QaA ?_)
  refine T_loop (ι := Nat) (fun k => k ≤ l.length ∧ ∀ j (hj : j < l.length), j < k → p l[j] = false) (fun k => [(0, .slice base l.length cap), (1, .func (.func fid) first cp), (7, .int .i64 l.length), (8, .int .i64 (k : Int))]) (fun _ => []) (fun k => l.length - k) 0 ⟨by omega, fun j hj h => by omega⟩ (by repeat' (first | exact True.intro | refine And.intro rfl ?_)) rfl ?_
  rintro k ⟨h1, h2⟩
  by_cases c2 : k < l.length
  · obtain ⟨b, off, rfl, hr⟩ := hrd (by omega)
    have hat := at_el (L := ([] : List Own)) ItT_len hr c2
    have hcl := hp l[k] (List.getElem_mem c2)
    by_cases c3 : p l[k] = true
    · rw [idxF_some c2 c3 h2]
      rw [c3] at hcl
      clear hp h2 hrd
      repeat (first
        | refine QV QP ?_ | refine QZ ?_ | refine qcT rfl ?_ | refine qcF rfl ?_ | refine E_blockX ?_ | refine E_blockO rfl ?_
        | refine QV (rr_idxc Und.eq TyC.ty rfl rfl c2) ?_ | refine QV (rr_loadN TyC.ty rfl rfl hat) ?_ | refine QV QL ?_ | refine QV QlT ?_ | refine QV QlF ?_
        | refine QV QaA ?_)
      refine TL_call (he1c hen rfl rfl) (fun w hm => hcl w hm.below) rfl rfl rfl ?_
      intro _ _
      repeat (first
        | refine QV QP ?_ | refine QZ ?_ | refine qcT rfl ?_ | refine qcF rfl ?_ | refine E_blockX ?_ | refine E_blockO rfl ?_ | refine QV QL ?_
        | refine QV QlT ?_ | refine QV QlF ?_ | refine QV QaA ?_)
      exact E_ret1 rfl rfl fun w hm => hm.ret
    · have c3' : p l[k] = false := by simpa using c3
      rw [c3'] at hcl
      clear hp hrd c3
      repeat (first
        | refine QV QP ?_ | refine QZ ?_ | refine qcT rfl ?_ | refine qcF rfl ?_ | refine E_blockX ?_ | refine E_blockO rfl ?_
        | refine QV (rr_idxc Und.eq TyC.ty rfl rfl c2) ?_ | refine QV (rr_loadN TyC.ty rfl rfl hat) ?_ | refine QV QL ?_ | refine QV QlT ?_ | refine QV QlF ?_
        | refine QV QaA ?_)
      refine TL_call (he1c hen rfl rfl) (fun w hm => hcl w hm.below) rfl rfl rfl ?_
      intro _ _
      repeat (first
        | refine QV QP ?_ | refine QZ ?_ | refine qcT rfl ?_ | refine qcF rfl ?_ | refine E_blockX ?_ | refine E_blockO rfl ?_ | refine QV QL ?_
        | refine QV QlT ?_ | refine QV QlF ?_ | refine QV QaA ?_)
      exact E_round (k + 1) ⟨by omega, fun j hj h => if e : j < k then h2 j hj e else (by obtain rfl : j = k := (by omega); exact c3')⟩ (by show l.length - (k + 1) < l.length - k; omega) (by repeat' (first | exact True.intro | refine And.intro rfl ?_)) rfl
  · rw [idxF_none fun j hj => h2 j hj (by omega)]
    clear hp h2 hrd
    repeat (first
      | refine QV QP ?_ | refine QZ ?_ | refine qcT rfl ?_ | refine qcF rfl ?_ | refine E_blockX ?_ | refine E_blockO rfl ?_ | refine QV QL ?_
      | refine QV QlT ?_ | refine QV QlF ?_ | refine QV QaA ?_)
    exact E_ret1 rfl rfl fun w hm => hm.ret
theorem containsFuncItT_calls (v : Value) (l : List itemL.Item) (w : World) (hs : Sl w v l.length (l.flatMap itC)) (fid : FuncId) (first cp : Array Value) (p : itemL.Item → Bool) (hen : Enters Try.prog fid)
    (hp : ∀ a ∈ l, ∀ w', Gr w w' → Calls Try.prog fid (first ++ #[(.agg (itC a).toArray)] ++ cp) w' (Meets (ret (.bool (p a))) w')) :
    Calls Try.prog 10 #[v, .func (.func fid) first cp] w (Meets (ret (.bool (l.any p))) w) := by
  refine enter (args := [v, .func (.func fid) first cp]) (n := 9) Try.func10 rfl rfl rfl ?_
  have hh := fun w' (hg : Gr w w') => indexFuncItT_calls v l w' (hs.gr hg) fid first cp p hen fun a ha w'' hg' => hp a ha w'' (hg.trans hg')
  have hr := idxF_range p l
  rw [← idxF_any p l]
  generalize idxF p l = r at *
  repeat (first
    | refine QV QP ?_ | refine QZ ?_ | refine QV QhT ?_ | refine QV QhF ?_)
  refine TL_call (he2 EntersC.en rfl rfl rfl) (fun w hm => hh _ hm.below) rfl rfl rfl ?_
  intro _ _
  repeat (first
    | refine QV QP ?_ | refine QZ ?_ | refine QV (rr_geq rfl rfl rfl) ?_ | refine QV QhT ?_ | refine QV QhF ?_)
  exact E_ret1 rfl rfl fun w hm => hm.ret
set_option maxHeartbeats 2000000 in
theorem cloneItT_calls (v : Value) (l : List itemL.Item) (w : World) (hs : Sl w v l.length (l.flatMap itC)) (hl : l.length * 24 ≤ 140737488355328) :
    Calls Try.prog 7 #[v] w (Meets (rowS 31 3 l.length (l.flatMap itC) id) w) := by
  obtain ⟨base, cap, rfl, hcap, hmax, hrd⟩ := hs
  unfold maxLen at hmax
  refine enter (args := [.slice base l.length cap]) (n := 8) Try.func7 rfl rfl rfl ?_
  have hsl : ∀ w', Gr w w' → Sl w' (.slice base l.length cap) l.length (l.flatMap itC) := fun w' hg => Sl.gr ⟨base, cap, rfl, hcap, hmax, hrd⟩ hg
  clear hrd
  cases base with
  | none =>
    repeat (first
      | refine QV QP ?_ | refine QZ ?_ | refine qcT rfl ?_ | refine qcF rfl ?_ | refine QV (rr_slnil Und.eq rfl rfl rfl) ?_)
    have h0 : l = [] := by
      cases l with
      | nil => rfl
      | cons x l => obtain ⟨_, _, h, _, _, h2⟩ := hsl w (Gr.refl w); simp only [Value.slice.injEq] at h; obtain ⟨rfl, _⟩ := h; obtain ⟨b, off, h, _⟩ := h2 (by simp); cases h
    subst h0
    refine E_nilrow 31 3 ?_
    exact E_ret1 rfl rfl fun w hm => hm.meets (S := rowS 31 3 0 [] id) _ trivial [0] (by decide) rfl
  | some p =>
    repeat (first
      | refine QV QP ?_ | refine QZ ?_ | refine qcT rfl ?_ | refine qcF rfl ?_ | refine QV (rr_slnil Und.eq rfl rfl rfl) ?_)
    refine TL_lit0 rfl fun g => ?_
    repeat (first
      | refine QV QP ?_ | refine QZ ?_ | refine qcT rfl ?_ | refine qcF rfl ?_)
    refine TL_appSl (i := 0) rfl (fun w' hm => hsl w' hm.below) rfl rfl (len_el ItT_len l) (one_its l) (by omega) (by omega) rfl fun v' => ?_
    rw [List.nil_append]
    repeat (first
      | refine QV QP ?_ | refine QZ ?_ | refine qcT rfl ?_ | refine qcF rfl ?_)
    refine E_ret1 rfl rfl fun w hm => ?_
    exact hm.meets (S := rowS 31 3 l.length (l.flatMap itC) id) v' trivial [0] (by decide) (by simp [rowS])
set_option maxHeartbeats 2000000 in
theorem indexOfItT_calls (v : Value) (l : List itemL.Item) (x : itemL.Item) (w : World) (hs : Sl w v l.length (l.flatMap itC)) :
    Calls Try.prog 20 #[v, .agg (itC x).toArray] w (Meets (ret (.int .i64 (idxF (fun y => decide (x = y)) l))) w) := by
  obtain ⟨base, cap, rfl, hcap, hmax, hrd⟩ := hs
  unfold maxLen at hmax
  refine enter (args := [.slice base l.length cap, .agg (itC x).toArray]) (n := 19) Try.func20 rfl rfl rfl ?_
  refine T_seq (T_region (TL_box rfl rfl rfl fun g3 => ?_))
  conv => arg 8; simp only [zA, zB, zC, zD, zE, zF, zG, zH, zI, rowS, ret, id_eq]
  repeat (first
    | refine QV QP ?_ | refine QZ ?_ | refine qcT rfl ?_ | refine qcF rfl ?_ | refine E_blockX ?_ | refine E_blockO rfl ?_ | refine QV QL ?_
    | refine QV QlT ?_ | refine QV QlF ?_ | refine QV QaA ?_)
  refine T_loop (ι := Nat) (fun k => k ≤ l.length ∧ ∀ j (hj : j < l.length), j < k → decide (x = l[j]) = false) (fun k => [(0, .slice base l.length cap), (3, .pointer (some ⟨g3, 0, none⟩)), (7, .int .i64 l.length), (8, .int .i64 (k : Int))]) (fun _ => [blkO g3 (itC x).toArray 31]) (fun k => l.length - k) 0 ⟨by omega, fun j hj h => by omega⟩ (by repeat' (first | exact True.intro | refine And.intro rfl ?_)) rfl ?_
  rintro k ⟨h1, h2⟩
  by_cases c2 : k < l.length
  · obtain ⟨b, off, rfl, hr⟩ := hrd (by omega)
    have hat := at_el (L := [blkO g3 (itC x).toArray 31]) ItT_len hr c2
    have heq := eq_item x l[k]
    by_cases c3 : x = l[k]
    · rw [idxF_some (p := fun y => decide (x = y)) c2 (decide_eq_true c3) h2]
      rw [decide_eq_true c3] at heq
      clear h2 hrd
      repeat (first
        | refine QV QP ?_ | refine QZ ?_ | refine qcT rfl ?_ | refine qcF rfl ?_ | refine E_blockX ?_ | refine E_blockO rfl ?_ | refine QV QL ?_
        | refine QV QlT ?_ | refine QV QlF ?_ | refine QV QaA ?_)
      refine T_ord ([blkO g3 (itC x).toArray 31]) (.calm 0 (.calm 1 (.calm 2 (.calm 3 (.calm 4 (.calm 5 (.done))))))) (fun _ h => h) (by kernel_rfl) (by kernel_rfl) (by intro c a d v w h; cases d <;> exact h) ?_
      repeat (first
        | ((first | refine TW_plain rfl rfl ?_ | refine TW_gmet rfl rfl rfl rfl ?_); first | refine QW QP ?_ | refine QW (rr_loadB (i := 0) TyC.ty rfl rfl rfl) ?_ | refine QW (rr_idxc Und.eq TyC.ty rfl rfl c2) ?_ | refine QW (rr_loadN TyC.ty rfl rfl hat) ?_ | refine QW (rr_aggeq rfl rfl (by kernel_rfl) heq) ?_ | refine QW QL ?_ | refine QW QlT ?_ | refine QW QlF ?_ | refine QW QaA ?_)
        | refine TW_done ?_)
      repeat (first
        | refine QV QP ?_ | refine QZ ?_ | refine qcT rfl ?_ | refine qcF rfl ?_ | refine E_blockX ?_ | refine E_blockO rfl ?_ | refine QV QL ?_
        | refine QV QlT ?_ | refine QV QlF ?_ | refine QV QaA ?_)
      exact E_ret1 rfl rfl fun w hm => hm.ret
    · rw [decide_eq_false c3] at heq
      clear hrd
      repeat (first
        | refine QV QP ?_ | refine QZ ?_ | refine qcT rfl ?_ | refine qcF rfl ?_ | refine E_blockX ?_ | refine E_blockO rfl ?_ | refine QV QL ?_
        | refine QV QlT ?_ | refine QV QlF ?_ | refine QV QaA ?_)
      refine T_ord ([blkO g3 (itC x).toArray 31]) (.calm 0 (.calm 1 (.calm 2 (.calm 3 (.calm 4 (.calm 5 (.done))))))) (fun _ h => h) (by kernel_rfl) (by kernel_rfl) (by intro c a d v w h; cases d <;> exact h) ?_
      repeat (first
        | ((first | refine TW_plain rfl rfl ?_ | refine TW_gmet rfl rfl rfl rfl ?_); first | refine QW QP ?_ | refine QW (rr_loadB (i := 0) TyC.ty rfl rfl rfl) ?_ | refine QW (rr_idxc Und.eq TyC.ty rfl rfl c2) ?_ | refine QW (rr_loadN TyC.ty rfl rfl hat) ?_ | refine QW (rr_aggeq rfl rfl (by kernel_rfl) heq) ?_ | refine QW QL ?_ | refine QW QlT ?_ | refine QW QlF ?_ | refine QW QaA ?_)
        | refine TW_done ?_)
      repeat (first
        | refine QV QP ?_ | refine QZ ?_ | refine qcT rfl ?_ | refine qcF rfl ?_ | refine E_blockX ?_ | refine E_blockO rfl ?_ | refine QV QL ?_
        | refine QV QlT ?_ | refine QV QlF ?_ | refine QV QaA ?_)
      exact E_round (k + 1) ⟨by omega, fun j hj h => if e : j < k then h2 j hj e else (by obtain rfl : j = k := (by omega); exact decide_eq_false c3)⟩ (by show l.length - (k + 1) < l.length - k; omega) (by repeat' (first | exact True.intro | refine And.intro rfl ?_)) rfl
  · rw [idxF_none fun j hj => h2 j hj (by omega)]
    clear h2 hrd
    repeat (first
      | refine QV QP ?_ | refine QZ ?_ | refine qcT rfl ?_ | refine qcF rfl ?_ | refine E_blockX ?_ | refine E_blockO rfl ?_ | refine QV QL ?_
      | refine QV QlT ?_ | refine QV QlF ?_ | refine QV QaA ?_)
    exact E_ret1 rfl rfl fun w hm => hm.ret
theorem containsItT_calls (v : Value) (l : List itemL.Item) (x : itemL.Item) (w : World) (hs : Sl w v l.length (l.flatMap itC)) :
    Calls Try.prog 8 #[v, .agg (itC x).toArray] w (Meets (ret (.bool (decide (x ∈ l)))) w) := by
  refine enter (args := [v, .agg (itC x).toArray]) (n := 9) Try.func8 rfl rfl rfl ?_
  have hh := fun w' (hg : Gr w w') => indexOfItT_calls v l x w' (hs.gr hg)
  have hr := idxF_range (fun y => decide (x = y)) l
  have ha : decide (x ∈ l) = decide (0 ≤ idxF (fun y => decide (x = y)) l) := by
    rw [idxF_any, Bool.eq_iff_iff, List.any_eq_true, decide_eq_true_eq]
    exact ⟨fun h => ⟨x, h, decide_eq_true rfl⟩, fun ⟨y, hy, h⟩ => of_decide_eq_true h ▸ hy⟩
  rw [ha]
  generalize idxF (fun y => decide (x = y)) l = r at *
  refine T_seq (T_region (TL_box rfl rfl rfl fun g3 => ?_))
  conv => arg 8; simp only [zA, zB, zC, zD, zE, zF, zG, zH, zI, rowS, ret, id_eq]
  repeat (first
    | refine QV QP ?_ | refine QZ ?_ | refine QV (rr_loadB (i := 0) TyC.ty rfl rfl rfl) ?_ | refine QV QhT ?_ | refine QV QhF ?_)
  refine TL_call (he2 EntersC.en rfl rfl rfl) (fun w hm => hh _ hm.below) rfl rfl rfl ?_
  intro _ _
  repeat (first
    | refine QV QP ?_ | refine QZ ?_ | refine QV (rr_geq rfl rfl rfl) ?_ | refine QV QhT ?_ | refine QV QhF ?_)
  exact E_ret1 rfl rfl fun w hm => hm.ret
end Go.Proofs.Ytmcclhddjielnaa.eng

/- ItemsGrowW -/
namespace Go.Proofs.Ytmcclhddjielnaa.itemsGrow
open Go.RowKit kit mix gramL treeL factsL itemL smallL eng
theorem brk_check : checkI brkG [(2, 0, 2)] = 0 := by kernel_rfl
theorem brk_work : (workI brkP 2 (lkG brkG) 12000 0 (firsts [] [(2, 0, 2)])).length = 3 := by kernel_rfl
theorem brk_len : (closedA brkG [(2, 0, 2)]).length = 3 := by
  unfold closedA closedI
  rw [if_pos brk_check, sort_len]
  exact brk_work
theorem one_calls (x : itemL.Item) (g15 : Nat) (vb : Value) (l : List itemL.Item) (w : World) (hg : w.heap[g15]? = some (.cells #[vb] 25 (0, 0))) (hs : Sl w vb l.length (l.flatMap itC)) :
    Calls Try.prog 11 #[.agg (itC x).toArray, .pointer (some ⟨g15, 0, none⟩)] w (Meets (ret (.bool (!decide (x ∈ l)))) w) := by
  have h4 : ∀ (L : List Own), At w L ⟨g15, 0, none⟩ vb := fun L => at_old (by rw [cell_of_row w g15 0 _ _ _ hg]; rfl)
  have hc := fun w' (hg : Gr w w') => containsItT_calls vb l x w' (hs.gr hg)
  refine enter (args := [.agg (itC x).toArray, .pointer (some ⟨g15, 0, none⟩)]) (n := 8) Try.func11 rfl rfl rfl ?_
  refine T_seq (T_region (TL_box rfl rfl rfl fun g2 => ?_))
  conv => arg 8; simp only [zA, zB, zC, zD, zE, zF, zG, zH, zI, rowS, ret, id_eq]
  repeat (first
    | refine QV QP ?_ | refine QZ ?_ | refine QV (rr_loadB (i := 0) TyC.ty rfl rfl rfl) ?_ | refine QV (rr_load1 (v := vb) TyC.ty rfl (h4 _)) ?_
    | refine QV (rr_not rfl rfl) ?_)
  refine TL_call (he2 EntersC.en rfl rfl rfl) (fun w hm => hc _ hm.below) rfl rfl rfl ?_
  intro _ _
  repeat (first
    | refine QV QP ?_ | refine QZ ?_ | refine QV (rr_not rfl rfl) ?_ | refine QV (rr_not rfl rfl) ?_)
  exact E_ret1 rfl rfl fun w hm => hm.ret
/-- what is told, in plain terms -/
theorem grow_law {g : Gram} {l m : List itemL.Item} (hl : checkI g l = 0) (hm : checkI g m = 0) :
    (checkI g (l ++ m) = 2 ∨ checkI g (l ++ m) = 0) ∧ (checkI g (closedA g l) = 2 ∨ checkI g (closedA g l) = 0) ∧
    (checkI g (l ++ m) = 0 → checkI g (closedA g l) = 0 → closedA g l = closedA g (closedA g l) ∧ (closedA g (l ++ m)).length = (firsts [] (closedA g l ++ closedA g m)).length ∧ (closedA g (l ++ m)).any (fun x => !decide (x ∈ firsts [] (closedA g l ++ closedA g m))) = false) := by
  obtain ⟨hg, l1, l2⟩ := checkI_ok hl
  obtain ⟨-, m1, m2⟩ := checkI_ok hm
  obtain ⟨t1, t2, -, -, hpl, hgb⟩ := checkG_ok hg
  have hw : ∀ q ∈ g.prods, q.2.length ≤ 8 := fun q hq => (hgb q hq).1
  have hT : g.terms.toNat ≤ 30 := by omega
  have hA : closedA g l = closedI g.prods g.terms.toNat (lkG g) l := if_pos hl
  have hB : closedA g m = closedI g.prods g.terms.toNat (lkG g) m := if_pos hm
  have hr := closed_right (lk := lkG g) hw hpl hT l2
  have two : ∀ (r : List itemL.Item), (∀ x ∈ r, RightI g.prods g.terms.toNat x) → checkI g r = 2 ∨ checkI g r = 0 := fun r hr => by
    by_cases c : 4000 < r.length
    · left; unfold checkI; rw [if_neg (by rw [hg]; simp), if_pos c]
    · exact .inr (checkI_of hg (by omega) hr)
  have hlm : ∀ x ∈ l ++ m, RightI g.prods g.terms.toNat x := fun x hx => (List.mem_append.1 hx).elim (l2 x) (m2 x)
  refine ⟨two _ hlm, by rw [hA]; exact two _ hr, fun h1 h2 => ?_⟩
  have hC : closedA g (l ++ m) = closedI g.prods g.terms.toNat (lkG g) (l ++ m) := if_pos h1
  have hD : closedA g (closedA g l) = closedI g.prods g.terms.toNat (lkG g) (closedA g l) := if_pos h2
  have hmem : ∀ x, x ∈ closedA g (l ++ m) ↔ x ∈ firsts [] (closedA g l ++ closedA g m) := fun x => by
    rw [hC, hA, hB, closed_both hw hpl hT l2 m2, mem_firsts, List.mem_append]
    simp
  refine ⟨by rw [hD, hA, closed_again hw hpl hT l2], ?_, ?_⟩
  · refine List.Perm.length_eq ((List.perm_ext_iff_of_nodup ?_ (firsts_nodup _ _ List.nodup_nil)).2 hmem)
    rw [hC]; exact ris_nodup (closed_ris hw hpl hT hlm)
  · rw [List.any_eq_false]
    intro x hx
    simp [(hmem x).1 hx]
theorem closedA_len {g : Gram} {l : List itemL.Item} (hl : checkI g l = 0) : (closedA g l).length ≤ 11439 := by
  obtain ⟨hg, l1, l2⟩ := checkI_ok hl
  obtain ⟨t1, t2, -, -, hpl, hgb⟩ := checkG_ok hg
  have hA : closedA g l = closedI g.prods g.terms.toNat (lkG g) l := if_pos hl
  rw [hA]
  exact closed_len (fun q hq => (hgb q hq).1) hpl (by omega) l2
set_option maxHeartbeats 8000000 in
theorem walk (w : World) (v : Value) (g : Gram) (h : GraR (fun k => k < w.heap.size) w v g) (_ : g.prods.length * 32 ≤ 140737488351232) (vl : Value) (l : List itemL.Item) (hl : Sl w vl l.length (l.flatMap itC)) (hlw : l.length * 24 ≤ 140737488351232) (vm : Value) (m : List itemL.Item) (hmm : Sl w vm m.length (m.flatMap itC)) (hmw : m.length * 24 ≤ 140737488351232) :
    Calls Try.prog 3 #[v, vl, vm] w (Meets (ret (.bool true)) w) := by
  have hC := fun vs s w' (hg : Gr w w') hs => itemsClosed_calls v g vs s w' (h.gr hg) hs
  have hgrow := grow_law (g := g) (l := l) (m := m)
  obtain ⟨vp, rfl, -⟩ := id h
  refine enter (args := [graV g.terms g.nons vp, vl, vm]) (n := 120) Try.func3 rfl rfl rfl ?_
  refine T_seq (T_region (TL_box rfl rfl rfl fun g3 => ?_))
  conv => arg 8; simp only [zA, zB, zC, zD, zE, zF, zG, zH, zI, rowS, ret, id_eq]
  repeat (first
    | refine QV QP ?_ | refine QZ ?_ | refine qcT rfl ?_ | refine qcF rfl ?_ | refine E_blockX ?_ | refine E_blockO rfl ?_
    | refine qs rfl rfl rfl rfl rfl rfl ?_
    | ((try refine qg rfl rfl rfl ?_); first | refine QV QP ?_ | refine QV QL ?_ | refine QV (rr_not rfl rfl) ?_ | refine QV QlT ?_ | refine QV QlF ?_ | refine QV QeT ?_ | refine QV QeF ?_ | refine QV QnT ?_ | refine QV QnF ?_ | refine QV QaA ?_))
  refine TL_call (he0 EntersC.en rfl) (fun w hm => brackets_calls w) rfl rfl rfl ?_
  rintro ⟨vk, F⟩ _
  conv => arg 8; simp only [zA, zB, zC, zD, zE, zF, zG, zH, zI, rowS, ret, id_eq, gramS]
  conv => arg 7; simp only [gramS]
  repeat (first
    | refine QV QP ?_ | refine QZ ?_ | refine qcT rfl ?_ | refine qcF rfl ?_ | refine E_blockX ?_ | refine E_blockO rfl ?_
    | refine qs rfl rfl rfl rfl rfl rfl ?_
    | ((try refine qg rfl rfl rfl ?_); first | refine QV QP ?_ | refine QV (rr_build rfl (build_it2 2 2)) ?_ | refine QV QL ?_ | refine QV (rr_not rfl rfl) ?_ | refine QV QlT ?_ | refine QV QlF ?_ | refine QV QeT ?_ | refine QV QeF ?_ | refine QV QnT ?_ | refine QV QnF ?_ | refine QV QaA ?_))
  refine TL_one (cs := (itC (2, 0, 2)).toArray) rfl rfl rfl rfl rfl fun g21 => ?_
  conv => arg 8; simp only [zA, zB, zC, zD, zE, zF, zG, zH, zI, rowS, ret, id_eq]
  refine TL_call (he2 EntersC.en rfl rfl rfl) (fun w hm => itemsClosed_calls _ brkG _ [(2, 0, 2)] w (prodsO_gra ok2 ok1 (hm.get (i := 1) rfl)) (sl_blk (i := 2) (xs := [(2, 0, 2)].flatMap itC) rfl (fun j u hj => by simpa using hj) (Nat.le_refl 1) (by decide) w hm)) rfl rfl rfl ?_
  intro v1 _
  conv => arg 8; simp only [zA, zB, zC, zD, zE, zF, zG, zH, zI, rowS, ret, id_eq, itemsS]
  conv => arg 7; simp only [itemsS]
  rw [brk_check, brk_len]
  refine TL_know (i := 3) rfl row_slm fun hrow => ?_
  obtain ⟨a1, c1, rfl, -⟩ := hrow
  repeat (first
    | refine QV QP ?_ | refine QZ ?_ | refine qcT rfl ?_ | refine qcF rfl ?_ | refine E_blockX ?_ | refine E_blockO rfl ?_
    | refine qs rfl rfl rfl rfl rfl rfl ?_
    | ((try refine qg rfl rfl rfl ?_); first | refine QV QP ?_ | refine QV (rr_loadB (i := 0) TyC.ty rfl rfl rfl) ?_ | refine QV QL ?_ | refine QV (rr_not rfl rfl) ?_ | refine QV QlT ?_ | refine QV QlF ?_ | refine QV QeT ?_ | refine QV QeF ?_ | refine QV QnT ?_ | refine QV QnF ?_ | refine QV QaA ?_))
  refine TL_call (he2 EntersC.en rfl rfl rfl) (fun w hm => hC vl l w hm.below (hl.gr hm.below)) rfl rfl rfl ?_
  intro va _
  conv => arg 8; simp only [zA, zB, zC, zD, zE, zF, zG, zH, zI, rowS, ret, id_eq, itemsS]
  conv => arg 7; simp only [itemsS]
  refine TL_pick [0, 4] (by decide) rfl ?_
  repeat (first
    | refine QV QP ?_ | refine QZ ?_ | refine qcT rfl ?_ | refine qcF rfl ?_ | refine E_blockX ?_ | refine E_blockO rfl ?_
    | refine qs rfl rfl rfl rfl rfl rfl ?_
    | ((try refine qg rfl rfl rfl ?_); first | refine QV QP ?_ | refine QV (rr_loadB (i := 0) TyC.ty rfl rfl rfl) ?_ | refine QV QL ?_ | refine QV (rr_not rfl rfl) ?_ | refine QV QlT ?_ | refine QV QlF ?_ | refine QV QeT ?_ | refine QV QeF ?_ | refine QV QnT ?_ | refine QV QnF ?_ | refine QV QaA ?_))
  refine TL_call (he2 EntersC.en rfl rfl rfl) (fun w hm => hC vm m w hm.below (hmm.gr hm.below)) rfl rfl rfl ?_
  intro vb _
  conv => arg 8; simp only [zA, zB, zC, zD, zE, zF, zG, zH, zI, rowS, ret, id_eq, itemsS]
  conv => arg 7; simp only [itemsS]
  have hA0 : checkI g l ≠ 0 → closedA g l = [] := fun h => if_neg h
  by_cases q1 : checkI g l = 0
  · by_cases q2 : checkI g m = 0
    · obtain ⟨hlm2, hA2, hlaw⟩ := hgrow q1 q2
      obtain ⟨hg, l1, -⟩ := checkI_ok q1
      obtain ⟨-, m1, -⟩ := checkI_ok q2
      clear hgrow hA0
      rw [q1, q2]
      repeat (first
        | refine QV QP ?_ | refine QZ ?_ | refine qcT rfl ?_ | refine qcF rfl ?_ | refine E_blockX ?_ | refine E_blockO rfl ?_
        | refine qs rfl rfl rfl rfl rfl rfl ?_
        | ((try refine qg rfl rfl rfl ?_); first | refine QV QP ?_ | refine QV QL ?_ | refine QV (rr_not rfl rfl) ?_ | refine QV QlT ?_ | refine QV QlF ?_ | refine QV QeT ?_ | refine QV QeF ?_ | refine QV QnT ?_ | refine QV QnF ?_ | refine QV QaA ?_))
      refine T_ord ([blkO g3 (graV g.terms g.nons vp).cells 24]) (.calm 0 (.calm 1 (.calm 3 (.one 2 (.one 4 (.one 5 (.calm 6 (.calm 7 (.calm 8 (.calm 9 (.calm 10 (.done)))))))))))) (sub_pick [0] (by decide) rfl) (by kernel_rfl) (by kernel_rfl) (by intro c a d v w h; cases d <;> exact h) ?_
      repeat (first
        | ((first | refine TW_plain rfl rfl ?_ | refine TW_gmet rfl rfl rfl rfl ?_); first | refine QW QP ?_ | refine QW (rr_loadB (i := 0) TyC.ty rfl rfl rfl) ?_ | refine QW QL ?_ | refine QW (rr_not rfl rfl) ?_ | refine QW QlT ?_ | refine QW QlF ?_ | refine QW QeT ?_ | refine QW QeF ?_ | refine QW QnT ?_ | refine QW QnF ?_ | refine QW QaA ?_)
        | refine TW_skip rfl rfl rfl rfl rfl rfl rfl ?_ | refine TW_done ?_)
      refine TW_one rfl ?_
      refine TL_call (he1 EntersC.en rfl rfl) (fun w hm => cloneItT_calls vl l w (hl.gr hm.below) (by omega)) rfl rfl rfl ?_
      intro vc _
      conv => arg 8; simp only [zA, zB, zC, zD, zE, zF, zG, zH, zI, rowS, ret, id_eq, rowS]
      refine TW_on (sub_pick [0] (by decide) rfl) ?_
      refine TW_one rfl ?_
      refine TL_appSl (i := 3) rfl (fun w' hm => hmm.gr hm.below) rfl rfl (len_el itC_len m) (one_its m) (by omega) (by omega) rfl fun vd => ?_
      conv => arg 8; simp only [zA, zB, zC, zD, zE, zF, zG, zH, zI, rowS, ret, id_eq]
      refine TW_on (sub_pick [0] (by decide) rfl) ?_
      refine TW_one rfl ?_
      rw [← List.length_append, ← List.flatMap_append]
      refine TL_call (he2 EntersC.en rfl rfl rfl) (fun w hm => hC _ (l ++ m) w hm.below (Sl.of_own (hm.get (i := 3) rfl))) rfl rfl rfl ?_
      intro ve _
      conv => arg 8; simp only [zA, zB, zC, zD, zE, zF, zG, zH, zI, rowS, ret, id_eq, itemsS]
      conv => arg 7; simp only [itemsS]
      refine TW_on (sub_pick [0] (by decide) rfl) ?_
      repeat (first
        | ((first | refine TW_plain rfl rfl ?_ | refine TW_gmet rfl rfl rfl rfl ?_); first | refine QW QP ?_ | refine QW QL ?_ | refine QW (rr_not rfl rfl) ?_ | refine QW QlT ?_ | refine QW QlF ?_ | refine QW QeT ?_ | refine QW QeF ?_ | refine QW QnT ?_ | refine QW QnF ?_ | refine QW QaA ?_)
        | refine TW_skip rfl rfl rfl rfl rfl rfl rfl ?_ | refine TW_done ?_)
      repeat (first
        | refine QV QP ?_ | refine QZ ?_ | refine qcT rfl ?_ | refine qcF rfl ?_ | refine E_blockX ?_ | refine E_blockO rfl ?_
        | refine qs rfl rfl rfl rfl rfl rfl ?_
        | ((try refine qg rfl rfl rfl ?_); first | refine QV QP ?_ | refine QV (rr_loadB (i := 0) TyC.ty rfl rfl rfl) ?_ | refine QV QL ?_ | refine QV (rr_not rfl rfl) ?_ | refine QV QlT ?_ | refine QV QlF ?_ | refine QV QeT ?_ | refine QV QeF ?_ | refine QV QnT ?_ | refine QV QnF ?_ | refine QV QaA ?_))
      refine TL_call (he2 EntersC.en rfl rfl rfl) (fun w hm => hC va (closedA g l) w hm.below (Sl.of_own (hm.get (i := 1) rfl))) rfl rfl rfl ?_
      intro vf _
      conv => arg 8; simp only [zA, zB, zC, zD, zE, zF, zG, zH, zI, rowS, ret, id_eq, itemsS]
      conv => arg 7; simp only [itemsS]
      generalize checkI g (l ++ m) = e1 at *
      generalize checkI g (closedA g l) = e2 at *
      by_cases q3 : e1 = 2
      · subst q3
        repeat (first
          | refine QV QP ?_ | refine QZ ?_ | refine qcT rfl ?_ | refine qcF rfl ?_ | refine E_blockX ?_ | refine E_blockO rfl ?_
          | refine qs rfl rfl rfl rfl rfl rfl ?_
          | ((try refine qg rfl rfl rfl ?_); first | refine QV QP ?_ | refine QV QL ?_ | refine QV (rr_not rfl rfl) ?_ | refine QV QlT ?_ | refine QV QlF ?_ | refine QV QeT ?_ | refine QV QeF ?_ | refine QV QnT ?_ | refine QV QnF ?_ | refine QV QaA ?_))
        exact E_ret1 rfl rfl fun w hm => hm.ret
      by_cases q4 : e2 = 2
      · subst q4
        repeat (first
          | refine QV QP ?_ | refine QZ ?_ | refine qcT rfl ?_ | refine qcF rfl ?_ | refine E_blockX ?_ | refine E_blockO rfl ?_
          | refine qs rfl rfl rfl rfl rfl rfl ?_
          | ((try refine qg rfl rfl rfl ?_); first | refine QV QP ?_ | refine QV QL ?_ | refine QV (rr_not rfl rfl) ?_ | refine QV QlT ?_ | refine QV QlF ?_ | refine QV QeT ?_ | refine QV QeF ?_ | refine QV QnT ?_ | refine QV QnF ?_ | refine QV QaA ?_))
        exact E_ret1 rfl rfl fun w hm => hm.ret
      obtain rfl : e1 = 0 := by omega
      obtain rfl : e2 = 0 := by omega
      obtain ⟨w1, w2, w3⟩ := hlaw rfl rfl
      have hAl : (closedA g l).length ≤ 11439 := closedA_len q1
      have hBl : (closedA g m).length ≤ 11439 := closedA_len q2
      generalize closedA g (closedA g l) = D at *
      generalize closedA g (l ++ m) = C at *
      generalize closedA g l = A at *
      generalize closedA g m = B at *
      subst w1
      refine TL_know (i := 4) rfl row_slm fun hrow => ?_
      obtain ⟨ae, ce, rfl, -⟩ := hrow
      repeat (first
        | refine QV QP ?_ | refine QZ ?_ | refine qcT rfl ?_ | refine qcF rfl ?_ | refine E_blockX ?_ | refine E_blockO rfl ?_
        | refine qs rfl rfl rfl rfl rfl rfl ?_
        | ((try refine qg rfl rfl rfl ?_); first | refine QV QP ?_ | refine QV QL ?_ | refine QV (rr_not rfl rfl) ?_ | refine QV QlT ?_ | refine QV QlF ?_ | refine QV QeT ?_ | refine QV QeF ?_ | refine QV QnT ?_ | refine QV QnF ?_ | refine QV QaA ?_))
      refine TL_new rfl fun g15 => ?_
      conv => arg 8; simp only [zA, zB, zC, zD, zE, zF, zG, zH, zI, rowS, ret, id_eq]
      repeat (first
        | refine QV QP ?_ | refine QZ ?_ | refine qcT rfl ?_ | refine qcF rfl ?_ | refine E_blockX ?_ | refine E_blockO rfl ?_
        | refine qs rfl rfl rfl rfl rfl rfl ?_
        | ((try refine qg rfl rfl rfl ?_); first | refine QV QP ?_ | refine QV QL ?_ | refine QV (rr_not rfl rfl) ?_ | refine QV QlT ?_ | refine QV QlF ?_ | refine QV QeT ?_ | refine QV QeF ?_ | refine QV QnT ?_ | refine QV QnF ?_ | refine QV QaA ?_))
      refine TL_call (he1 EntersC.en rfl rfl) (fun w hm => cloneItT_calls va A w (Sl.of_own (hm.get (i := 1) rfl)) (by omega)) rfl rfl rfl ?_
      intro vg _
      conv => arg 8; simp only [zA, zB, zC, zD, zE, zF, zG, zH, zI, rowS, ret, id_eq, rowS]
      repeat (first
        | refine QV QP ?_ | refine QZ ?_ | refine qcT rfl ?_ | refine qcF rfl ?_ | refine E_blockX ?_ | refine E_blockO rfl ?_
        | refine qs rfl rfl rfl rfl rfl rfl ?_
        | ((try refine qg rfl rfl rfl ?_); first | refine QV QP ?_ | refine QV QL ?_ | refine QV (rr_not rfl rfl) ?_ | refine QV QlT ?_ | refine QV QlF ?_ | refine QV QeT ?_ | refine QV QeF ?_ | refine QV QnT ?_ | refine QV QnF ?_ | refine QV QaA ?_))
      refine TL_appSl (i := 7) rfl (sl_row (i := 2) rfl) rfl rfl (len_el itC_len B) (one_its B) (by omega) (by omega) rfl fun vt => ?_
      conv => arg 8; simp only [zA, zB, zC, zD, zE, zF, zG, zH, zI, rowS, ret, id_eq]
      refine TL_know (i := 7) rfl row_slm fun hrow => ?_
      obtain ⟨ap, cap, rfl, -, hap⟩ := hrow
      rw [← List.length_append, ← List.flatMap_append] at *
      generalize hAB : A ++ B = AB at *
      have hABl : AB.length ≤ 22878 := by rw [← hAB, List.length_append]; omega
      repeat (first
        | refine QV QP ?_ | refine QZ ?_ | refine qcT rfl ?_ | refine qcF rfl ?_ | refine E_blockX ?_ | refine E_blockO rfl ?_
        | refine qs rfl rfl rfl rfl rfl rfl ?_
        | ((try refine qg rfl rfl rfl ?_); first | refine QV QP ?_ | refine QV QL ?_ | refine QV (rr_not rfl rfl) ?_ | refine QV QlT ?_ | refine QV QlF ?_ | refine QV QeT ?_ | refine QV QeF ?_ | refine QV QnT ?_ | refine QV QnF ?_ | refine QV QaA ?_))
      refine T_nil 31 3 ?_
      refine T_pick [0, 1, 2, 4, 5, 6, 7, 8] (by decide) rfl ?_
      conv => arg 7; simp only [zA, zB, zC, zD, zE, zF, zG, zH, zI, rowS, ret, id_eq]
      refine T_loop (ι := Nat × Value) (fun (k, _) => k ≤ AB.length) (fun (k, _) => [(9, va), (10, .int .i64 0), (12, .int .i64 0), (13, .slice ae C.length ce), (14, vf), (15, .pointer (some ⟨g15, 0, none⟩)), (81, .slice ap AB.length cap), (82, .int .i64 AB.length), (83, .int .i64 (k : Int))])
        (fun (k, v) => [blkO g3 (graV g.terms g.nons vp).cells 24, rowO 31 3 va A.length (A.flatMap itC), rowO 31 3 vb B.length (B.flatMap itC), rowO 31 3 (.slice ae C.length ce) C.length (C.flatMap itC), rowO 31 3 vf A.length (A.flatMap itC), blkO g15 #[v] 25, rowO 31 3 (.slice ap AB.length cap) AB.length (AB.flatMap itC), rowO 31 3 v (firsts [] (AB.take k)).length ((firsts [] (AB.take k)).flatMap itC)]) (fun (k, _) => AB.length - k) (0, .slice none 0 0) (Nat.zero_le _) (by repeat' (first | exact True.intro | refine And.intro rfl ?_)) rfl ?_
      rintro ⟨k, v⟩ i1
      dsimp only at i1 ⊢
      clear hC
      by_cases c1 : k < AB.length
      · obtain ⟨gp, rfl⟩ := hap (by omega)
        have hat := fun (L : List Own) (i : Nat) (hL : L[i]? = some (rowO 31 3 (.slice (some ⟨gp, 0, none⟩) AB.length cap) AB.length (AB.flatMap itC))) => at_rowel (W := (w : Base)) itC_len hL c1
        have hnx : firsts [] (AB.take (k + 1)) = more (firsts [] (AB.take k)) AB[k] := by rw [List.take_succ_eq_append_getElem c1, firsts_snoc]
        have hnd : (firsts [] (AB.take k)).length ≤ k := Nat.le_trans (firstsLe _ _) (by rw [List.length_nil, List.length_take]; omega)
        generalize hnx2 : firsts [] (AB.take (k + 1)) = both' at *
        generalize firsts [] (AB.take k) = both at *
        clear w2 w3
        generalize AB[k] = x at *
        repeat (first
          | refine QV QP ?_ | refine QZ ?_ | refine qcT rfl ?_ | refine qcF rfl ?_ | refine E_blockX ?_ | refine E_blockO rfl ?_
          | refine qs rfl rfl rfl rfl rfl rfl ?_
          | ((try refine qg rfl rfl rfl ?_); first | refine QV QP ?_ | refine QV (rr_idxc Und.eq TyC.ty rfl rfl c1) ?_ | refine QV (rr_loadN (cs := itC x) TyC.ty rfl rfl (hat _ 6 rfl)) ?_ | refine QV QL ?_ | refine QV (rr_not rfl rfl) ?_ | refine QV QlT ?_ | refine QV QlF ?_ | refine QV QeT ?_ | refine QV QeF ?_ | refine QV QnT ?_ | refine QV QnF ?_ | refine QV QaA ?_))
        refine TL_new rfl fun g17 => ?_
        conv => arg 8; simp only [zA, zB, zC, zD, zE, zF, zG, zH, zI, rowS, ret, id_eq]
        refine TL_storeB (i := 8) (cs' := (itC x).toArray) rfl rfl rfl rfl rfl rfl ?_
        conv => arg 8; simp only [zA, zB, zC, zD, zE, zF, zG, zH, zI, rowS, ret, id_eq]
        repeat (first
          | refine QV QP ?_ | refine QZ ?_ | refine qcT rfl ?_ | refine qcF rfl ?_ | refine E_blockX ?_ | refine E_blockO rfl ?_
          | refine qs rfl rfl rfl rfl rfl rfl ?_
          | ((try refine qg rfl rfl rfl ?_); first | refine QV QP ?_ | refine QV (rr_load1 (v := v) TyC.ty rfl (at_blk (i := 5) rfl rfl)) ?_ | refine QV (rr_loadB (i := 8) TyC.ty rfl rfl rfl) ?_ | refine QV QL ?_ | refine QV (rr_not rfl rfl) ?_ | refine QV QlT ?_ | refine QV QlF ?_ | refine QV QeT ?_ | refine QV QeF ?_ | refine QV QnT ?_ | refine QV QnF ?_ | refine QV QaA ?_))
        refine TL_call (he2 EntersC.en rfl rfl rfl) (fun w hm => containsItT_calls _ both x w (Sl.of_own (hm.get (i := 7) rfl))) rfl rfl rfl ?_
        intro _ _
        conv => arg 8; simp only [zA, zB, zC, zD, zE, zF, zG, zH, zI, rowS, ret, id_eq]
        by_cases c2 : x ∈ both
        · have hm1 : more both x = both := if_pos c2
          rw [hm1] at hnx
          rw [decide_eq_true c2]
          repeat (first
            | refine QV QP ?_ | refine QZ ?_ | refine qcT rfl ?_ | refine qcF rfl ?_ | refine E_blockX ?_ | refine E_blockO rfl ?_
            | refine qs rfl rfl rfl rfl rfl rfl ?_
            | ((try refine qg rfl rfl rfl ?_); first | refine QV QP ?_ | refine QV QL ?_ | refine QV (rr_not rfl rfl) ?_ | refine QV QlT ?_ | refine QV QlF ?_ | refine QV QeT ?_ | refine QV QeF ?_ | refine QV QnT ?_ | refine QV QnF ?_ | refine QV QaA ?_))
          refine E_pick [0, 1, 2, 3, 4, 5, 6, 7] (by decide) rfl ?_
          exact E_round (k + 1, v) (by show k + 1 ≤ AB.length; omega) (by show AB.length - (k + 1) < AB.length - k; omega) (by repeat' (first | exact True.intro | refine And.intro rfl ?_)) (by dsimp only; rw [hnx2, hnx]; rfl)
        · have hm1 : more both x = both ++ [x] := if_neg c2
          rw [hm1] at hnx
          rw [decide_eq_false c2]
          repeat (first
            | refine QV QP ?_ | refine QZ ?_ | refine qcT rfl ?_ | refine qcF rfl ?_ | refine E_blockX ?_ | refine E_blockO rfl ?_
            | refine qs rfl rfl rfl rfl rfl rfl ?_
            | ((try refine qg rfl rfl rfl ?_); first | refine QV QP ?_ | refine QV (rr_load1 (v := v) TyC.ty rfl (at_blk (i := 5) rfl rfl)) ?_ | refine QV (rr_loadB (i := 8) TyC.ty rfl rfl rfl) ?_ | refine QV QL ?_ | refine QV (rr_not rfl rfl) ?_ | refine QV QlT ?_ | refine QV QlF ?_ | refine QV QeT ?_ | refine QV QeF ?_ | refine QV QnT ?_ | refine QV QnF ?_ | refine QV QaA ?_))
          refine TL_pushN (i := 7) rfl rfl rfl rfl rfl rfl rfl (fun z h => by cases h; rfl) (by omega) (by omega) rfl fun z v' => ?_
          conv => arg 8; simp only [zA, zB, zC, zD, zE, zF, zG, zH, zI, rowS, ret, id_eq]
          refine TL_slv (i := 7) rfl fun hv1 hv2 => TL_store1 (i := 5) rfl rfl rfl hv1 hv2 rfl ?_
          conv => arg 8; simp only [zA, zB, zC, zD, zE, zF, zG, zH, zI, rowS, ret, id_eq]
          repeat (first
            | refine QV QP ?_ | refine QZ ?_ | refine qcT rfl ?_ | refine qcF rfl ?_ | refine E_blockX ?_ | refine E_blockO rfl ?_
            | refine qs rfl rfl rfl rfl rfl rfl ?_
            | ((try refine qg rfl rfl rfl ?_); first | refine QV QP ?_ | refine QV QL ?_ | refine QV (rr_not rfl rfl) ?_ | refine QV QlT ?_ | refine QV QlF ?_ | refine QV QeT ?_ | refine QV QeF ?_ | refine QV QnT ?_ | refine QV QnF ?_ | refine QV QaA ?_))
          refine E_pick [0, 1, 2, 3, 4, 5, 6, 7] (by decide) rfl ?_
          exact E_round (k + 1, v') (by show k + 1 ≤ AB.length; omega) (by show AB.length - (k + 1) < AB.length - k; omega) (by repeat' (first | exact True.intro | refine And.intro rfl ?_)) (by dsimp only; rw [hnx2, hnx, List.length_append, List.flatMap_append]; rfl)
      · obtain rfl : k = AB.length := by omega
        rw [List.take_length]
        generalize firsts [] AB = both at *
        refine T_know (i := 7) rfl row_slm fun hrow => ?_
        obtain ⟨ab, cb, rfl, -⟩ := hrow
        repeat (first
          | refine QV QP ?_ | refine QZ ?_ | refine qcT rfl ?_ | refine qcF rfl ?_ | refine E_blockX ?_ | refine E_blockO rfl ?_
          | refine qs rfl rfl rfl rfl rfl rfl ?_
          | ((try refine qg rfl rfl rfl ?_); first | refine QV QP ?_ | refine QV QL ?_ | refine QV (rr_not rfl rfl) ?_ | refine QV QlT ?_ | refine QV QlF ?_ | refine QV QeT ?_ | refine QV QeF ?_ | refine QV QnT ?_ | refine QV QnF ?_ | refine QV QaA ?_))
        refine TL_gcall (he2 EntersC.en rfl rfl rfl) (fun w hm => equalItT_calls va vf A A w (Sl.of_own (hm.get (i := 1) rfl)) (Sl.of_own (hm.get (i := 4) rfl))) rfl rfl rfl rfl rfl ?_
        intro _ _
        conv => arg 8; simp only [zA, zB, zC, zD, zE, zF, zG, zH, zI, rowS, ret, id_eq]
        rw [decide_eq_true rfl]
        repeat (first
          | refine QV QP ?_ | refine QZ ?_ | refine qcT rfl ?_ | refine qcF rfl ?_ | refine E_blockX ?_ | refine E_blockO rfl ?_
          | refine qs rfl rfl rfl rfl rfl rfl ?_
          | ((try refine qg rfl rfl rfl ?_); first | refine QV QP ?_ | refine QV (rr_load1 (v := .slice ab both.length cb) TyC.ty rfl (at_blk (i := 5) rfl rfl)) ?_ | refine QV QL ?_ | refine QV (rr_not rfl rfl) ?_ | refine QV QlT ?_ | refine QV QlF ?_ | refine QV QeT ?_ | refine QV QeF ?_ | refine QV QnT ?_ | refine QV QnF ?_ | refine QV QaA ?_ | refine QV (rr_func rfl rfl) ?_))
        refine TL_gcall (he2 EntersC.en rfl rfl rfl) (fun w hm => containsFuncItT_calls _ C w (Sl.of_own (hm.get (i := 3) rfl)) _ #[] #[.pointer (some ⟨g15, 0, none⟩)] (fun x => !decide (x ∈ both)) EntersC.en (fun x hx w' hg => one_calls x g15 _ both w' ((hm.gr hg).get (i := 5) rfl) (Sl.of_own ((hm.gr hg).get (i := 7) rfl)))) rfl rfl rfl rfl rfl ?_
        intro _ _
        conv => arg 8; simp only [zA, zB, zC, zD, zE, zF, zG, zH, zI, rowS, ret, id_eq]
        rw [w3]
        repeat (first
          | refine QV QP ?_ | refine QZ ?_ | refine qcT rfl ?_ | refine qcF rfl ?_ | refine E_blockX ?_ | refine E_blockO rfl ?_
          | refine qs rfl rfl rfl rfl rfl rfl ?_
          | ((try refine qg rfl rfl rfl ?_); first | refine QV QP ?_ | refine QV (rr_not rfl rfl) ?_ | refine QV QL ?_ | refine QV (rr_not rfl rfl) ?_ | refine QV QlT ?_ | refine QV QlF ?_ | refine QV QeT ?_ | refine QV QeF ?_ | refine QV QnT ?_ | refine QV QnF ?_ | refine QV QaA ?_))
        exact E_ret1 rfl rfl fun w hm => hm.ret
    · repeat (first
        | refine QV QP ?_ | refine QZ ?_ | refine qcT rfl ?_ | refine qcF rfl ?_ | refine E_blockX ?_ | refine E_blockO rfl ?_
        | refine qs rfl rfl rfl rfl rfl rfl ?_
        | ((try refine qg rfl rfl rfl ?_); first | refine QV QP ?_ | refine QV (rr_neq (b := true) rfl rfl (decide_eq_true q2)) ?_ | refine QV QL ?_ | refine QV (rr_not rfl rfl) ?_ | refine QV QlT ?_ | refine QV QlF ?_ | refine QV QeT ?_ | refine QV QeF ?_ | refine QV QnT ?_ | refine QV QnF ?_ | refine QV QaA ?_))
      exact E_ret1 rfl rfl fun w hm => hm.ret
  · have hA1 : (closedA g l).length = 0 := by rw [hA0 q1]; rfl
    refine TL_know (i := 1) rfl row_slm fun hrow => ?_
    obtain ⟨a9, c9, rfl, -⟩ := hrow
    repeat (first
      | refine QV QP ?_ | refine QZ ?_ | refine qcT rfl ?_ | refine qcF rfl ?_ | refine E_blockX ?_ | refine E_blockO rfl ?_
      | refine qs rfl rfl rfl rfl rfl rfl ?_
      | ((try refine qg rfl rfl rfl ?_); first | refine QV QP ?_ | refine QV (rr_neq (b := true) rfl rfl (decide_eq_true q1)) ?_ | refine QV (rr_eql (b := false) rfl rfl (decide_eq_false q1)) ?_ | refine QV QL ?_ | refine QV (rr_not rfl rfl) ?_ | refine QV QlT ?_ | refine QV QlF ?_ | refine QV QeT ?_ | refine QV QeF ?_ | refine QV QnT ?_ | refine QV QnF ?_ | refine QV QaA ?_))
    exact E_ret1 rfl rfl fun w hm => hm.ret
end Go.Proofs.Ytmcclhddjielnaa.itemsGrow


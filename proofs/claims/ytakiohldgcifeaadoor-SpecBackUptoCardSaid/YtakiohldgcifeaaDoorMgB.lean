/- Part 2 of what SpecBackUpto needs: SpecX, RexL, RexF, RexG, IdxB, ReadM, Shp, Map, ClassB, Class, ClsRg, ClassSetsE, ClassN, RexS, App, RexC, RexN, SmL, ClassT, RexM, LookOk, RexE, RexPl, RexP, RexJ, RexK. -/
import Derived.Test.YtakiohldgcifeaaDoorMgA
import Derived.WalkKit
import Derived.WalkSpells
import Derived.WalkLawsBesides
import Derived.Deep.RegionLaw
import Derived.Deep.AppendLies
import Derived.Deep.QuietTactic
import Derived.BigQuiet
import Derived.Deep.DeepCutAuto
import Derived.Lib.Hide
import Derived.Test.YtakiohldgcifeaaDoorRows
import Derived.ProofKit
import Derived.OpenShut
import Derived.ShutString
import Derived.SizedLaws
import Derived.JoinedCond
import Derived.Deep.CondSized
import Derived.Deep.Quiet
import Derived.StillTail
import Derived.Deep.LoopGhost
import Derived.Laws.BitsLemmas
import Derived.Laws.BytesString
import Derived.Test.YtakiohldgcifeaaDoorProg
import Derived.Laws.Entries
import Derived.Laws.BitsAllLaws
import Derived.Laws.StructEq
import Derived.ChangeKeysEq
import Derived.Lib.TrailingZeros
import Derived.Laws.MakeOwn
import Derived.Laws.AppendOwn
import Derived.Laws.Bits64b
import Derived.Shelf.Strings.Builder1
import Derived.Shelf.Small.Wraps
import Derived.Shelf.Strings.Cut
import Derived.Shelf.LaysM
import Derived.Shelf.Strings.Shaped
import Derived.Shelf.Strings.Split
import Derived.Lib.Strings
import Derived.Lib.Slices
import Derived.Lib.Walk
import Derived.Lib.Bytealg
import Derived.Maps.OwnSet
import Derived.DeepKeys4
import Derived.WideKeyEntry
/- SpecX -/
namespace Go.Proofs.YtakiohldgcifeaaDoor.eng
open Go.Shelf
def lays169_ren : Go.Shelf.Ren := ⟨fun | 169 => 14 | n => n, fun | 70 => 47 | 9 => 9 | 0 => 0 | 72 => 50 | 37 => 48 | 127 => 78 | 3 => 3 | 5 => 5 | n => n, fun | n => n⟩
theorem lays169 : Go.Proofs.Lays.n169 Tryd.prog lays169_ren := {
  mixed := by kernel_rfl
  f169 := Tryd.func14.trans (congrArg some (by kernel_rfl))
  t0 := Tryd.underlying0
  a0 := Tryd.isAgg0
  z0 := Tryd.sizeOf0
  v0 := Tryd.zeroValue0
  t3 := Tryd.underlying3
  a3 := Tryd.isAgg3
  z3 := Tryd.sizeOf3
  v3 := Tryd.zeroValue3
  t9 := Tryd.underlying9
  a9 := Tryd.isAgg9
  z9 := Tryd.sizeOf9
  v9 := Tryd.zeroValue9
  t37 := Tryd.underlying48
  a37 := Tryd.isAgg48
  z37 := Tryd.sizeOf48
  v37 := Tryd.zeroValue48
  t70 := Tryd.underlying47
  a70 := Tryd.isAgg47
  z70 := Tryd.sizeOf47
  v70 := Tryd.zeroValue47
  t72 := Tryd.underlying50
  a72 := Tryd.isAgg50
  z72 := Tryd.sizeOf50
  v72 := Tryd.zeroValue50
  t127 := Tryd.underlying78
  a127 := Tryd.isAgg78
  z127 := Tryd.sizeOf78
  v127 := Tryd.zeroValue78 }
theorem Builder_Extra_169 : Builder.Extra Tryd.prog lays169_ren := {
  sizeBuilder := by kernel_rfl
  liesBuilder := by kernel_rfl
  t5 := Tryd.underlying5
  a5 := Tryd.isAgg5
  z5 := Tryd.sizeOf5
  v5 := Tryd.zeroValue5
  infoByte := by kernel_rfl
  cellsByte := by kernel_rfl
  sizeByte := by kernel_rfl
  neB5 := by decide }
open Go.RowKit in
theorem Builder_String_any (B b : Nat) (l : List UInt8) (w : World) (h : Lib.IsBuilder 50 5 B b (Lib.byteCells l) w) (hBw : B ≤ w.heap.size) :
    Calls Tryd.prog 14 #[.pointer (some ⟨b, 0, none⟩)] w fun e w' => e = .returned (.string ⟨l.toArray⟩) ∧ Below B w w' := Any.Builder_String_any lays169 Builder_Extra_169 B b l w h hBw
def lays103_ren : Go.Shelf.Ren := ⟨fun | 103 => 33 | 210 => 40 | 206 => 55 | n => n, fun | 9 => 9 | 4 => 4 | 24 => 80 | 3 => 3 | n => n, fun | n => n⟩
theorem lays103 : Go.Proofs.Lays.n103 Tryd.prog lays103_ren := {
  mixed := by kernel_rfl
  f103 := Tryd.func33.trans (congrArg some (by kernel_rfl))
  f206 := Tryd.func55.trans (congrArg some (by kernel_rfl))
  f210 := Tryd.func40.trans (congrArg some (by kernel_rfl))
  t3 := Tryd.underlying3
  a3 := Tryd.isAgg3
  z3 := Tryd.sizeOf3
  v3 := Tryd.zeroValue3
  t4 := Tryd.underlying4
  a4 := Tryd.isAgg4
  z4 := Tryd.sizeOf4
  v4 := Tryd.zeroValue4
  t9 := Tryd.underlying9
  a9 := Tryd.isAgg9
  z9 := Tryd.sizeOf9
  v9 := Tryd.zeroValue9
  t24 := Tryd.underlying80
  a24 := Tryd.isAgg80
  z24 := Tryd.sizeOf80
  v24 := Tryd.zeroValue80 }
open Go.RowKit in
theorem strings_CutPrefix (s p : ByteArray) (w : World) :
    Calls Tryd.prog 33 #[.string s, .string p] w fun e w' => e = .returned (.tuple #[.string ⟨(Lib.trimPrefix s.data.toList p.data.toList).toArray⟩, .bool (Lib.hasPrefix s.data.toList p.data.toList)]) ∧ w' = w := Any.strings_CutPrefix lays103 s p w
def laysM145_ren : Go.Shelf.Ren := ⟨fun | 145 => 18 | 220 => 32 | 219 => 39 | 217 => 51 | 225 => 52 | 224 => 53 | 267 => 54 | 266 => 65 | 314 => 66 | n => n, fun | 9 => 9 | 4 => 4 | 59 => 63 | 3 => 3 | 5 => 5 | 46 => 91 | 146 => 111 | 51 => 110 | n => n, fun | 1 => 0 | n => n⟩
theorem laysM145 : Go.Proofs.LaysM.n145 Tryd.prog laysM145_ren := {
  mixed := by kernel_rfl
  f145 := Tryd.func18.trans (congrArg some (by kernel_rfl))
  f217 := Tryd.func51.trans (congrArg some (by kernel_rfl))
  f219 := Tryd.func39.trans (congrArg some (by kernel_rfl))
  f220 := Tryd.func32.trans (congrArg some (by kernel_rfl))
  f224 := Tryd.func53.trans (congrArg some (by kernel_rfl))
  f225 := Tryd.func52.trans (congrArg some (by kernel_rfl))
  f266 := Tryd.func65.trans (congrArg some (by kernel_rfl))
  f267 := Tryd.func54.trans (congrArg some (by kernel_rfl))
  f314 := Tryd.func66.trans (congrArg some (by kernel_rfl))
  t3 := Tryd.underlying3
  a3 := Tryd.isAgg3
  z3 := Tryd.sizeOf3
  v3 := Tryd.zeroValue3
  t4 := Tryd.underlying4
  a4 := Tryd.isAgg4
  z4 := Tryd.sizeOf4
  v4 := Tryd.zeroValue4
  t5 := Tryd.underlying5
  a5 := Tryd.isAgg5
  z5 := Tryd.sizeOf5
  v5 := Tryd.zeroValue5
  t9 := Tryd.underlying9
  a9 := Tryd.isAgg9
  z9 := Tryd.sizeOf9
  v9 := Tryd.zeroValue9
  t46 := Tryd.underlying91
  a46 := Tryd.isAgg91
  z46 := Tryd.sizeOf91
  v46 := Tryd.zeroValue91
  t51 := Tryd.underlying110
  a51 := Tryd.isAgg110
  z51 := Tryd.sizeOf110
  v51 := Tryd.zeroValue110
  t59 := Tryd.underlying63
  a59 := Tryd.isAgg63
  z59 := Tryd.sizeOf63
  v59 := Tryd.zeroValue63
  t146 := Tryd.underlying111
  a146 := Tryd.isAgg111
  z146 := Tryd.sizeOf111
  v146 := Tryd.zeroValue111
  g1 := by kernel_rfl
  i3 := by kernel_rfl
  i4 := by kernel_rfl
  i5 := by kernel_rfl
  i9 := by kernel_rfl
  i46 := by kernel_rfl
  i51 := by kernel_rfl
  i59 := by kernel_rfl
  i146 := by kernel_rfl
  m1 := by kernel_rfl
  s1_3 := fun w h => Go.Proofs.cell_of_shapedOpen_int (zero := #[.int .i64 0]) (t := 3) h (of_decide_eq_true (by kernel_rfl)) (by kernel_rfl) rfl (by kernel_rfl) (by kernel_rfl) Tryd.underlying3 }
def lays146_ren : Go.Shelf.Ren := ⟨fun | 146 => 35 | 221 => 43 | 268 => 59 | 138 => 60 | 143 => 61 | 195 => 70 | 197 => 71 | 218 => 72 | 219 => 39 | 260 => 76 | 217 => 51 | 225 => 52 | 224 => 53 | 267 => 54 | 266 => 65 | 314 => 66 | n => n, fun | 9 => 9 | 31 => 55 | 3 => 3 | 4 => 4 | 0 => 0 | 105 => 115 | 21 => 21 | 5 => 5 | 46 => 91 | 119 => 122 | 139 => 125 | 138 => 124 | 146 => 111 | 51 => 110 | n => n, fun | 1 => 0 | 3 => 2 | 4 => 3 | n => n⟩
theorem lays146 : Go.Proofs.Lays.n146 Tryd.prog lays146_ren := {
  mixed := by kernel_rfl
  f138 := Tryd.func60.trans (congrArg some (by kernel_rfl))
  f143 := Tryd.func61.trans (congrArg some (by kernel_rfl))
  f146 := Tryd.func35.trans (congrArg some (by kernel_rfl))
  f195 := Tryd.func70.trans (congrArg some (by kernel_rfl))
  f197 := Tryd.func71.trans (congrArg some (by kernel_rfl))
  f217 := Tryd.func51.trans (congrArg some (by kernel_rfl))
  f218 := Tryd.func72.trans (congrArg some (by kernel_rfl))
  f219 := Tryd.func39.trans (congrArg some (by kernel_rfl))
  f221 := Tryd.func43.trans (congrArg some (by kernel_rfl))
  f224 := Tryd.func53.trans (congrArg some (by kernel_rfl))
  f225 := Tryd.func52.trans (congrArg some (by kernel_rfl))
  f260 := Tryd.func76.trans (congrArg some (by kernel_rfl))
  f266 := Tryd.func65.trans (congrArg some (by kernel_rfl))
  f267 := Tryd.func54.trans (congrArg some (by kernel_rfl))
  f268 := Tryd.func59.trans (congrArg some (by kernel_rfl))
  f314 := Tryd.func66.trans (congrArg some (by kernel_rfl))
  t0 := Tryd.underlying0
  a0 := Tryd.isAgg0
  z0 := Tryd.sizeOf0
  v0 := Tryd.zeroValue0
  t3 := Tryd.underlying3
  a3 := Tryd.isAgg3
  z3 := Tryd.sizeOf3
  v3 := Tryd.zeroValue3
  t4 := Tryd.underlying4
  a4 := Tryd.isAgg4
  z4 := Tryd.sizeOf4
  v4 := Tryd.zeroValue4
  t5 := Tryd.underlying5
  a5 := Tryd.isAgg5
  z5 := Tryd.sizeOf5
  v5 := Tryd.zeroValue5
  t9 := Tryd.underlying9
  a9 := Tryd.isAgg9
  z9 := Tryd.sizeOf9
  v9 := Tryd.zeroValue9
  t21 := Tryd.underlying21
  a21 := Tryd.isAgg21
  z21 := Tryd.sizeOf21
  v21 := Tryd.zeroValue21
  t31 := Tryd.underlying55
  a31 := Tryd.isAgg55
  z31 := Tryd.sizeOf55
  v31 := Tryd.zeroValue55
  t46 := Tryd.underlying91
  a46 := Tryd.isAgg91
  z46 := Tryd.sizeOf91
  v46 := Tryd.zeroValue91
  t51 := Tryd.underlying110
  a51 := Tryd.isAgg110
  z51 := Tryd.sizeOf110
  v51 := Tryd.zeroValue110
  t105 := Tryd.underlying115
  a105 := Tryd.isAgg115
  z105 := Tryd.sizeOf115
  v105 := Tryd.zeroValue115
  t119 := Tryd.underlying122
  a119 := Tryd.isAgg122
  z119 := Tryd.sizeOf122
  t138 := Tryd.underlying124
  a138 := Tryd.isAgg124
  z138 := Tryd.sizeOf124
  v138 := Tryd.zeroValue124
  t139 := Tryd.underlying125
  a139 := Tryd.isAgg125
  z139 := Tryd.sizeOf125
  v139 := Tryd.zeroValue125
  t146 := Tryd.underlying111
  a146 := Tryd.isAgg111
  z146 := Tryd.sizeOf111
  v146 := Tryd.zeroValue111
  g1 := by kernel_rfl
  g3 := by kernel_rfl
  g4 := by kernel_rfl }
open Go.RowKit Go.Lib in
theorem strings_Split (s sep : ByteArray) (m : Int) (w : World) (hs : s.size < 4294967281) (hm : w.cell? ⟨0, 0, none⟩ = some (.int .i64 m)) (h1 : 1 ≤ sep.size) :
    Calls Tryd.prog 35 #[.string s, .string sep] w fun e w' =>
      e = .returned (.slice (some ⟨w.heap.size, 0, none⟩) (Lib.countB s sep + 1) (Lib.countB s sep + 1)) ∧ w' = w.alloc (.cells ((Lib.splitB sep 0 (Lib.countB s sep) s).map Value.string).toArray 9) := Any.strings_Split lays146 (by kernel_rfl) s sep m w hs hm h1
end Go.Proofs.YtakiohldgcifeaaDoor.eng

/- RexL -/
namespace Go.Proofs.YtakiohldgcifeaaDoor.rexL
open classL
inductive Rx where
  | mk (kind : Int) (c : C4) (kids : List Rx)
def Rx.kind : Rx → Int | .mk k _ _ => k
def Rx.cls : Rx → C4 | .mk _ c _ => c
def Rx.kids : Rx → List Rx | .mk _ _ l => l
def kidsN (k : Int) : Int := if k = 1 then 0 else if k = 2 then 0 else if k = 3 then 0 else if k = 6 then 1 else if k = 4 then 2 else if k = 5 then 2 else -1
mutual
/-- Check at a node: the error, how many nodes -/
def chk : Rx → Nat → Nat → Int × Nat
  | .mk k c l, deep, n => if 100 < n + 1 then (2, n + 1) else if 30 < deep then (7, n + 1) else if kidsN k ≠ (l.length : Int) then (1, n + 1) else if (decide (k = 3) != decide (c ≠ C4.zero)) = true then (1, n + 1) else chks l (deep + 1) (n + 1)
def chks : List Rx → Nat → Nat → Int × Nat
  | [], _, n => (0, n)
  | r :: l, deep, n => if (chk r deep n).1 ≠ 0 then chk r deep n else chks l deep (chk r deep n).2
end
mutual
def sizeX : Rx → Nat
  | .mk _ _ l => sizesX l + 1
def sizesX : List Rx → Nat
  | [] => 0
  | r :: l => sizeX r + sizesX l
end
theorem sizeX_pos (r : Rx) : 0 < sizeX r := by obtain ⟨k, c, l⟩ := r; rw [sizeX]; omega
theorem sizesX_mem : ∀ {l : List Rx} {r : Rx}, r ∈ l → sizeX r ≤ sizesX l
  | x :: l, r, h => by
    rw [sizesX]
    rcases List.mem_cons.1 h with rfl | h
    · omega
    · have := sizesX_mem h; omega
/-! ### expressions that are as they should be -/
inductive Re where
  | none
  | empty
  | byte (c : C4)
  | cat (a b : Re)
  | alt (a b : Re)
  | star (a : Re)
def Re.size : Re → Nat
  | .cat a b => a.size + b.size + 1
  | .alt a b => a.size + b.size + 1
  | .star a => a.size + 1
  | _ => 1
def Re.hgt : Re → Nat
  | .cat a b => max a.hgt b.hgt + 1
  | .alt a b => max a.hgt b.hgt + 1
  | .star a => a.hgt + 1
  | _ => 1
def Re.nz : Re → Prop
  | .byte c => c ≠ C4.zero
  | .cat a b => a.nz ∧ b.nz
  | .alt a b => a.nz ∧ b.nz
  | .star a => a.nz
  | _ => True
def Re.kind : Re → Int
  | .none => 1
  | .empty => 2
  | .byte _ => 3
  | .cat _ _ => 4
  | .alt _ _ => 5
  | .star _ => 6
def Re.cls : Re → C4
  | .byte c => c
  | _ => C4.zero
def Re.kids : Re → List Re
  | .cat a b => [a, b]
  | .alt a b => [a, b]
  | .star a => [a]
  | _ => []
def emb : Re → Rx
  | .none => .mk 1 C4.zero []
  | .empty => .mk 2 C4.zero []
  | .byte c => .mk 3 c []
  | .cat a b => .mk 4 C4.zero [emb a, emb b]
  | .alt a b => .mk 5 C4.zero [emb a, emb b]
  | .star a => .mk 6 C4.zero [emb a]
theorem emb_eq (r : Re) : emb r = .mk r.kind r.cls (r.kids.map emb) := by cases r <;> rfl
theorem Re.size_pos (r : Re) : 0 < r.size := by cases r <;> simp [Re.size]
theorem Re.hgt_pos (r : Re) : 0 < r.hgt := by cases r <;> simp [Re.hgt]
theorem len_two {α : Type} {l : List α} (h : l.length = 2) : ∃ a b, l = [a, b] :=
  match l, h with
  | [a, b], _ => ⟨a, b, rfl⟩
/-- what Check wants -/
structure Fit (r : Re) (deep n : Nat) : Prop where
  nz : r.nz
  sz : n + r.size ≤ 100
  dp : deep + r.hgt ≤ 31
theorem chk_pair {p : Int × Nat} {q : Nat} (h : p = (0, q)) : p.1 = 0 ∧ p.2 = q := by subst h; exact ⟨rfl, rfl⟩
theorem chk_fit : ∀ (N : Nat) (r : Rx) (deep n q : Nat), sizeX r ≤ N → chk r deep n = (0, q) → ∃ e : Re, r = emb e ∧ Fit e deep n ∧ q = n + e.size
  | 0, r, _, _, _, h, _ => by have := sizeX_pos r; omega
  | N + 1, .mk k c l, deep, n, q, hN, h => by
    have IH := chk_fit N
    rw [sizeX] at hN
    rw [chk] at h
    split at h
    · simp at h
    split at h
    · simp at h
    split at h
    · simp at h
    split at h
    · simp at h
    rename_i h1 h2 h3 h4
    have h3 : kidsN k = (l.length : Int) := by simpa using h3
    have h4 : decide (k = 3) = decide (c ≠ C4.zero) := by
      generalize decide (k = 3) = x at *
      generalize decide (c ≠ C4.zero) = y at *
      cases x <;> cases y <;> simp_all
    have leaf : ∀ e : Re, k = e.kind → c = e.cls → l = [] → e.kids = [] → e.size = 1 → e.hgt = 1 → e.nz → ∃ e : Re, Rx.mk k c l = emb e ∧ Fit e deep n ∧ q = n + e.size := fun e a1 a2 a3 a4 a5 a6 a7 => by
      subst a1 a2 a3
      rw [chks] at h
      refine ⟨e, by rw [emb_eq, a4]; rfl, ⟨a7, by omega, by omega⟩, ?_⟩
      simp at h; omega
    unfold kidsN at h3
    have hz : k ≠ 3 → c = C4.zero := fun hk => by
      rw [decide_eq_false hk] at h4
      exact Classical.byContradiction fun hc => by rw [decide_eq_true hc] at h4; cases h4
    by_cases k1 : k = 1
    · rw [if_pos k1] at h3
      exact leaf .none k1 (hz (by omega)) (List.eq_nil_of_length_eq_zero (by omega)) rfl rfl rfl trivial
    rw [if_neg k1] at h3
    by_cases k2 : k = 2
    · rw [if_pos k2] at h3
      exact leaf .empty k2 (hz (by omega)) (List.eq_nil_of_length_eq_zero (by omega)) rfl rfl rfl trivial
    rw [if_neg k2] at h3
    by_cases k3 : k = 3
    · rw [if_pos k3] at h3
      rw [decide_eq_true k3] at h4
      exact leaf (.byte c) k3 rfl (List.eq_nil_of_length_eq_zero (by omega)) rfl rfl rfl (by show c ≠ C4.zero; exact of_decide_eq_true h4.symm)
    rw [if_neg k3] at h3
    have hc := hz k3
    subst hc
    have two : ∀ (a b : Rx), l = [a, b] → ∃ x y : Re, a = emb x ∧ b = emb y ∧ Fit x (deep + 1) (n + 1) ∧ Fit y (deep + 1) (n + 1 + x.size) ∧ q = n + 1 + x.size + y.size := fun a b hl => by
      subst hl
      rw [sizesX, sizesX, sizesX] at hN
      rw [chks, chks, chks] at h
      by_cases e1 : (chk a (deep + 1) (n + 1)).1 = 0
      · rw [if_neg (by simpa using e1)] at h
        obtain ⟨x, rfl, f1, g1⟩ := IH a (deep + 1) (n + 1) (chk a (deep + 1) (n + 1)).2 (by omega) (Prod.ext e1 rfl)
        rw [g1] at h
        by_cases e2 : (chk b (deep + 1) (n + 1 + x.size)).1 = 0
        · rw [if_neg (by simpa using e2)] at h
          obtain ⟨y, rfl, f2, g2⟩ := IH b (deep + 1) (n + 1 + x.size) (chk b (deep + 1) (n + 1 + x.size)).2 (by omega) (Prod.ext e2 rfl)
          exact ⟨x, y, rfl, rfl, f1, f2, by rw [g2] at h; simp at h; omega⟩
        · rw [if_pos e2] at h
          exact absurd (chk_pair h).1 e2
      · rw [if_pos e1] at h
        exact absurd (chk_pair h).1 e1
    by_cases k6 : k = 6
    · rw [if_pos k6] at h3
      obtain ⟨a, rfl⟩ : ∃ a, l = [a] := List.length_eq_one_iff.1 (by omega)
      rw [sizesX, sizesX] at hN
      rw [chks, chks] at h
      by_cases e1 : (chk a (deep + 1) (n + 1)).1 = 0
      · rw [if_neg (by simpa using e1)] at h
        obtain ⟨x, rfl, f1, g1⟩ := IH a (deep + 1) (n + 1) (chk a (deep + 1) (n + 1)).2 (by omega) (Prod.ext e1 rfl)
        have := f1.sz
        have := f1.dp
        exact ⟨.star x, by rw [k6]; rfl, ⟨f1.nz, by simp only [Re.size]; omega, by simp only [Re.hgt]; omega⟩, by rw [g1] at h; simp at h; simp only [Re.size]; omega⟩
      · rw [if_pos e1] at h
        exact absurd (chk_pair h).1 e1
    rw [if_neg k6] at h3
    by_cases k4 : k = 4
    · rw [if_pos k4] at h3
      obtain ⟨a, b, rfl⟩ : ∃ a b, l = [a, b] := len_two (by omega)
      obtain ⟨x, y, rfl, rfl, f1, f2, g⟩ := two a b rfl
      have := f1.dp
      have := f2.dp
      have := f2.sz
      exact ⟨.cat x y, by rw [k4]; rfl, ⟨⟨f1.nz, f2.nz⟩, by simp only [Re.size]; omega, by simp only [Re.hgt]; omega⟩, by simp only [Re.size]; omega⟩
    rw [if_neg k4] at h3
    by_cases k5 : k = 5
    · rw [if_pos k5] at h3
      obtain ⟨a, b, rfl⟩ : ∃ a b, l = [a, b] := len_two (by omega)
      obtain ⟨x, y, rfl, rfl, f1, f2, g⟩ := two a b rfl
      have := f1.dp
      have := f2.dp
      have := f2.sz
      exact ⟨.alt x y, by rw [k5]; rfl, ⟨⟨f1.nz, f2.nz⟩, by simp only [Re.size]; omega, by simp only [Re.hgt]; omega⟩, by simp only [Re.size]; omega⟩
    rw [if_neg k5] at h3
    omega
theorem fit_chk : ∀ (e : Re) (deep n : Nat), Fit e deep n → chk (emb e) deep n = (0, n + e.size)
  | .none, deep, n, h => by
    have := h.sz; have := h.dp
    simp only [Re.size, Re.hgt] at *
    rw [emb, chk, if_neg (by omega), if_neg (by omega), if_neg (by decide), if_neg (by decide), chks]
  | .empty, deep, n, h => by
    have := h.sz; have := h.dp
    simp only [Re.size, Re.hgt] at *
    rw [emb, chk, if_neg (by omega), if_neg (by omega), if_neg (by decide), if_neg (by decide), chks]
  | .byte c, deep, n, h => by
    have h1 := h.sz; have h2 := h.dp
    have h3 : c ≠ C4.zero := h.nz
    simp only [Re.size, Re.hgt] at *
    rw [emb, chk, if_neg (by omega), if_neg (by omega), if_neg (by show ¬ ((0 : Int) ≠ 0); simp), if_neg (by rw [decide_eq_true h3]; decide), chks]
  | .star a, deep, n, h => by
    have h1 := h.sz; have h2 := h.dp
    simp only [Re.size, Re.hgt] at *
    have e := fit_chk a (deep + 1) (n + 1) ⟨h.nz, by omega, by omega⟩
    have := a.hgt_pos
    have := a.size_pos
    rw [emb, chk, if_neg (by omega), if_neg (by omega), if_neg (by show ¬ ((1 : Int) ≠ 1); simp), if_neg (by decide), chks, e, if_neg (by simp), chks]
    simp; omega
  | .cat a b, deep, n, h => by
    have h1 := h.sz; have h2 := h.dp
    simp only [Re.size, Re.hgt] at *
    have := a.hgt_pos
    have := a.size_pos
    have := b.size_pos
    have e := fit_chk a (deep + 1) (n + 1) ⟨h.nz.1, by omega, by omega⟩
    have e' := fit_chk b (deep + 1) (n + 1 + a.size) ⟨h.nz.2, by omega, by omega⟩
    rw [emb, chk, if_neg (by omega), if_neg (by omega), if_neg (by show ¬ ((2 : Int) ≠ 2); simp), if_neg (by decide), chks, e, if_neg (by simp), chks, e', if_neg (by simp), chks]
    simp; omega
  | .alt a b, deep, n, h => by
    have h1 := h.sz; have h2 := h.dp
    simp only [Re.size, Re.hgt] at *
    have := a.hgt_pos
    have := a.size_pos
    have := b.size_pos
    have e := fit_chk a (deep + 1) (n + 1) ⟨h.nz.1, by omega, by omega⟩
    have e' := fit_chk b (deep + 1) (n + 1 + a.size) ⟨h.nz.2, by omega, by omega⟩
    rw [emb, chk, if_neg (by omega), if_neg (by omega), if_neg (by show ¬ ((2 : Int) ≠ 2); simp), if_neg (by decide), chks, e, if_neg (by simp), chks, e', if_neg (by simp), chks]
    simp; omega
/-! ### what expressions mean -/
inductive Star (P : List UInt8 → Prop) : List UInt8 → Prop
  | nil : Star P []
  | cons {u v : List UInt8} : P u → Star P v → Star P (u ++ v)
def Lang : Re → List UInt8 → Prop
  | .none, _ => False
  | .empty, s => s = []
  | .byte c, s => ∃ b : UInt8, s = [b] ∧ c.mem b.toNat = true
  | .cat a b, s => ∃ u v, s = u ++ v ∧ Lang a u ∧ Lang b v
  | .alt a b, s => Lang a s ∨ Lang b s
  | .star a, s => Star (Lang a) s
theorem star_snoc {P : List UInt8 → Prop} {u v : List UInt8} (h : Star P u) (hv : P v) : Star P (u ++ v) := by
  induction h with
  | nil => have := Star.cons hv .nil; simpa using this
  | cons h1 _ ih => rw [List.append_assoc]; exact .cons h1 ih
def seg (s : List UInt8) (f j : Nat) : List UInt8 := (s.drop f).take (j - f)
theorem seg_len {s : List UInt8} {f j : Nat} (h : j ≤ s.length) : (seg s f j).length = j - f := by unfold seg; rw [List.length_take, List.length_drop]; omega
theorem seg_self (s : List UInt8) (f : Nat) : seg s f f = [] := by unfold seg; simp
theorem seg_app {s : List UInt8} {f i j : Nat} (h1 : f ≤ i) (h2 : i ≤ j) : seg s f j = seg s f i ++ seg s i j := by
  unfold seg
  rw [show j - f = (i - f) + (j - i) by omega, List.take_add, List.drop_drop, show f + (i - f) = i by omega]
theorem seg_cut {s u v : List UInt8} {f j : Nat} (hf : f ≤ j) (hj : j ≤ s.length) (h : seg s f j = u ++ v) : f + u.length ≤ j ∧ u = seg s f (f + u.length) ∧ v = seg s (f + u.length) j := by
  have hl := seg_len (s := s) (f := f) hj
  rw [h, List.length_append] at hl
  have h1 : f + u.length ≤ j := by omega
  have e := seg_app (s := s) (f := f) (i := f + u.length) (j := j) (by omega) h1
  rw [h] at e
  have hlu : u.length = (seg s f (f + u.length)).length := by rw [seg_len (by omega)]; omega
  have := List.append_inj e hlu
  exact ⟨h1, this.1, this.2⟩
def EndP (r : Re) (s : List UInt8) (f j : Nat) : Prop := f ≤ j ∧ j ≤ s.length ∧ Lang r (seg s f j)
/-- step by step -/
inductive Rch (R : Nat → Nat → Prop) (f : Nat) : Nat → Prop
  | refl : Rch R f f
  | step {i j : Nat} : Rch R f i → R i j → Rch R f j
theorem Rch.cons {R : Nat → Nat → Prop} {f i j : Nat} (h : R f i) (h' : Rch R i j) : Rch R f j := by
  induction h' with
  | refl => exact .step .refl h
  | step _ h2 ih => exact .step ih h2
theorem end_star {a : Re} {s : List UInt8} {f j : Nat} (hf : f ≤ s.length) : EndP (.star a) s f j ↔ Rch (EndP a s) f j := by
  constructor
  · rintro ⟨h1, h2, h⟩
    have h : Star (Lang a) (seg s f j) := h
    have aux : ∀ w, Star (Lang a) w → ∀ f, f ≤ j → seg s f j = w → Rch (EndP a s) f j := by
      intro w hw
      induction hw with
      | nil =>
        intro f hf' e
        have := seg_len (s := s) (f := f) h2
        rw [e] at this
        have : f = j := by simp at this; omega
        subst this; exact .refl
      | cons hu _ ih =>
        intro f hf' e
        obtain ⟨a1, a2, a3⟩ := seg_cut hf' h2 e
        exact Rch.cons ⟨Nat.le_add_right _ _, by omega, by rw [← a2]; exact hu⟩ (ih _ a1 a3.symm)
    exact aux _ h f h1 rfl
  · intro h
    induction h with
    | refl => exact ⟨Nat.le_refl _, hf, by rw [seg_self]; exact Star.nil⟩
    | step _ h2 ih =>
      obtain ⟨a1, a2, a3⟩ := ih
      obtain ⟨b1, b2, b3⟩ := h2
      exact ⟨by omega, b2, by rw [seg_app a1 b1]; exact star_snoc a3 b3⟩
def EndC (s : List UInt8) (r : Re) (f : Nat) (c : C4) : Prop := ∀ j, j < 256 → (c.mem j = true ↔ EndP r s f j)
end Go.Proofs.YtakiohldgcifeaaDoor.rexL

/- RexF -/
namespace Go.Proofs.YtakiohldgcifeaaDoor.rexL
open classL
abbrev Txt := List UInt8
/-- a reader: where it is, how many brackets are open, what went wrong -/
structure RS where
  p : Nat
  o : Nat
  e : Int
def RS.up (st : RS) : RS := { st with p := st.p + 1 }
def failS (st : RS) (e : Int) : RS := if st.e = 0 then { st with e := e } else st
def isB (s : Txt) (st : RS) (b : UInt8) : Bool := decide (st.e = 0) && decide (s[st.p]? = some b)
def takeS (s : Txt) (st : RS) (b : UInt8) : RS := if isB s st b then st.up else st
def endsB (s : Txt) (st : RS) : Bool := decide (st.e ≠ 0) || decide (st.p = s.length) || isB s st 124 || isB s st 41
def hexL : Txt := [48, 49, 50, 51, 52, 53, 54, 55, 56, 57, 97, 98, 99, 100, 101, 102]
def signsL : Txt := [40, 41, 91, 93, 124, 42, 43, 63, 46, 94, 45, 92]
def ntsL : Txt := [110, 116, 115]
def ctlL : Txt := [10, 9, 32]
def digitS (s : Txt) (st : RS) : UInt8 × RS :=
  if st.e = 0 then
    match s[st.p]? with
    | some b => match hexL.idxOf? b with | some n => (UInt8.ofNat n, st.up) | none => (0, failS st 6)
    | none => (0, failS st 6)
  else (0, st)
def turnedS (s : Txt) (st : RS) : UInt8 × RS :=
  match s[st.p]? with
  | none => (0, failS st 6)
  | some b =>
    match ntsL.idxOf? b with
    | some i => (ctlL.getD i 0, st.up)
    | none =>
      if b = 120 then (UInt8.ofNat ((digitS s st.up).1.toNat * 16 + (digitS s (digitS s st.up).2).1.toNat), (digitS s (digitS s st.up).2).2)
      else if b ∈ signsL then (b, st.up) else (0, failS st 6)
def charS (s : Txt) (st : RS) : UInt8 × RS :=
  if st.e ≠ 0 then (0, st) else
  match s[st.p]? with
  | none => (0, failS st 6)
  | some b => if b = 92 then turnedS s st.up else if b < 33 ∨ 126 < b ∨ b ∈ signsL then (0, failS st 6) else (b, st.up)
/-- one item of a class: what it is, where one comes -/
def itemS (s : Txt) (c : C4) (st : RS) : C4 × RS :=
  let lo := (charS s st).1
  let s1 := (charS s st).2
  if isB s s1 45 then
    let hi := (charS s s1.up).1
    let s2 := (charS s s1.up).2
    (c.join (rangeF lo.toNat hi.toNat), if s2.e = 0 ∧ hi < lo then failS { s2 with p := s1.p + 1 } 6 else s2)
  else (c.join (rangeF lo.toNat lo.toNat), s1)
def clsGo (s : Txt) (neg : Bool) : Nat → Nat → C4 → RS → Option (C4 × RS)
  | 0, _, _, _ => none
  | f + 1, n, c, st =>
    if st.e = 0 ∧ ¬ (isB s st 93 = true ∧ (0 < n ∨ neg = true)) then clsGo s neg f (n + 1) (itemS s c st).1 (itemS s c st).2 else some (c, st)
def classS (s : Txt) (f : Nat) (st : RS) : Option (C4 × RS) :=
  match clsGo s (isB s st 94) f 0 C4.zero (takeS s st 94) with
  | none => none
  | some (c, st1) =>
    let c2 := if isB s st 94 then c.not else c
    let st2 := if c2 = C4.zero then failS st1 6 else st1
    some (c2, takeS s st2 93)
def twoX (k : Int) (a b : Rx) : Rx := .mk k C4.zero [a, b]
def plusX (o : Rx) : Rx := twoX 4 o (.mk 6 C4.zero [if sizeX o ≤ 100 then o else .mk 2 C4.zero []])
mutual
def altF (s : Txt) : Nat → RS → Option (Rx × RS)
  | 0, _ => none
  | f + 1, st => match catF s f st with | none => none | some (o, st1) => altL s f o st1
def altL (s : Txt) : Nat → Rx → RS → Option (Rx × RS)
  | 0, _, _ => none
  | f + 1, o, st => if isB s st 124 then (match catF s f st.up with | none => none | some (o2, st2) => altL s f (twoX 5 o o2) st2) else some (o, st)
def catF (s : Txt) : Nat → RS → Option (Rx × RS)
  | 0, _ => none
  | f + 1, st => match repF s f st with | none => none | some (o, st1) => catL s f o st1
def catL (s : Txt) : Nat → Rx → RS → Option (Rx × RS)
  | 0, _, _ => none
  | f + 1, o, st => if endsB s st then some (o, st) else (match repF s f st with | none => none | some (o2, st2) => catL s f (twoX 4 o o2) st2)
def repF (s : Txt) : Nat → RS → Option (Rx × RS)
  | 0, _ => none
  | f + 1, st => match atomF s f st with | none => none | some (o, st1) => repL s f o st1
def repL (s : Txt) : Nat → Rx → RS → Option (Rx × RS)
  | 0, _, _ => none
  | f + 1, o, st =>
    if st.e ≠ 0 then some (o, st) else if isB s st 42 then repL s f (.mk 6 C4.zero [o]) st.up
    else if isB s st 43 then repL s f (plusX o) st.up
    else if isB s st 63 then repL s f (twoX 5 o (.mk 2 C4.zero [])) st.up else some (o, st)
def atomF (s : Txt) : Nat → RS → Option (Rx × RS)
  | 0, _ => none
  | f + 1, st =>
    if isB s st 40 then brF s f st
    else if isB s st 91 then
      (if isB s st.up 93 then some (.mk 1 C4.zero [], st.up.up) else match classS s f st.up with | none => none | some (c, st1) => some (.mk 3 c [], st1))
    else if isB s st 46 then some (.mk 3 (rangeF 10 10).not [], st.up)
    else some (.mk 3 (rangeF (charS s st).1.toNat (charS s st).1.toNat) [], (charS s st).2)
def brF (s : Txt) : Nat → RS → Option (Rx × RS)
  | 0, _ => none
  | f + 1, st =>
    if st.o = 30 then some (.mk 0 C4.zero [], failS st 7)
    else if isB s st.up 41 then some (.mk 2 C4.zero [], st.up.up)
    else match altF s f { st.up with o := st.o + 1 } with
      | none => none
      | some (r, st1) => some (r, if isB s { st1 with o := st1.o - 1 } 41 then { st1 with o := st1.o - 1 }.up else failS { st1 with o := st1.o - 1 } 6)
end
def parseF (s : Txt) : Option (Rx × Int × Int) :=
  if 300 < s.length then some (.mk 0 C4.zero [], 0, 2) else
  match altF s (8 * s.length + 16) ⟨0, 0, 0⟩ with
  | none => none
  | some (r, st) =>
    let st1 := if st.e = 0 ∧ st.p < s.length then failS st 6 else st
    if st1.e ≠ 0 then some (.mk 0 C4.zero [], st1.p, st1.e) else if (chk r 1 0).1 ≠ 0 then some (.mk 0 C4.zero [], s.length, (chk r 1 0).1) else some (r, 0, 0)

/-! ### how a reader goes on -/
section
variable {s : Txt}
structure Goes (s : Txt) (st st' : RS) : Prop where
  o : st'.o = st.o
  ge : st.p ≤ st'.p
  le : st'.p ≤ s.length
theorem Goes.trans {a b c : RS} (h : Goes s a b) (h' : Goes s b c) : Goes s a c := ⟨by rw [h'.o, h.o], Nat.le_trans h.ge h'.ge, h'.le⟩
theorem Goes.refl {st : RS} (h : st.p ≤ s.length) : Goes s st st := ⟨rfl, Nat.le_refl _, h⟩
theorem fail_p (st : RS) (e : Int) : (failS st e).p = st.p ∧ (failS st e).o = st.o := by unfold failS; split <;> exact ⟨rfl, rfl⟩
theorem goes_fail {st : RS} (h : st.p ≤ s.length) (e : Int) : Goes s st (failS st e) := ⟨(fail_p st e).2, Nat.le_of_eq (fail_p st e).1.symm, by rw [(fail_p st e).1]; exact h⟩
theorem isB_lt {st : RS} {b : UInt8} (h : isB s st b = true) : st.e = 0 ∧ st.p < s.length ∧ s[st.p]? = some b := by
  unfold isB at h
  simp only [Bool.and_eq_true, decide_eq_true_eq] at h
  exact ⟨h.1, (List.getElem?_eq_some_iff.1 h.2).1, h.2⟩
theorem goes_up {st : RS} (h : st.p < s.length) : Goes s st st.up := ⟨rfl, Nat.le_succ _, h⟩
theorem goes_take {st : RS} (h : st.p ≤ s.length) (b : UInt8) : Goes s st (takeS s st b) := by
  unfold takeS
  split
  · rename_i c; exact goes_up (isB_lt c).2.1
  · exact Goes.refl h
theorem get_lt {p : Nat} {b : UInt8} (h : s[p]? = some b) : p < s.length := (List.getElem?_eq_some_iff.1 h).1
theorem digit_goes {st : RS} (h : st.p ≤ s.length) : Goes s st (digitS s st).2 := by
  unfold digitS
  split
  · split
    · rename_i b hb
      split
      · exact goes_up (get_lt hb)
      · exact goes_fail h 6
    · exact goes_fail h 6
  · exact Goes.refl h
theorem turned_goes {st : RS} (h : st.p ≤ s.length) : Goes s st (turnedS s st).2 := by
  unfold turnedS
  split
  · exact goes_fail h 6
  · rename_i b hb
    split
    · exact goes_up (get_lt hb)
    · split
      · have h1 := digit_goes (s := s) (st := st.up) (get_lt hb)
        exact (goes_up (get_lt hb)).trans (h1.trans (digit_goes h1.le))
      · split
        · exact goes_up (get_lt hb)
        · exact goes_fail h 6
theorem char_goes {st : RS} (h : st.p ≤ s.length) : Goes s st (charS s st).2 := by
  unfold charS
  split
  · exact Goes.refl h
  · split
    · exact goes_fail h 6
    · rename_i b hb
      split
      · exact (goes_up (get_lt hb)).trans (turned_goes (get_lt hb))
      · split
        · exact goes_fail h 6
        · exact goes_up (get_lt hb)
theorem fail_e {st : RS} {e : Int} (h : st.e = 0) : (failS st e).e = e := by unfold failS; rw [if_pos h]
/-- a char goes on, or something is wrong -/
theorem char_on {st : RS} (h0 : st.p ≤ s.length) (h : (charS s st).2.e = 0) : st.p < (charS s st).2.p := by
  unfold charS at h ⊢
  split at h
  · rename_i c; exact absurd h c
  · rename_i c
    rw [if_neg c]
    have c : st.e = 0 := by simpa using c
    split at h
    · rw [fail_e c] at h; cases h
    · rename_i b hb
      split at h
      · rename_i c2
        rw [if_pos c2]
        have := (turned_goes (s := s) (st := st.up) (get_lt hb)).ge
        exact this
      · rename_i c2
        rw [if_neg c2]
        split at h
        · rw [fail_e c] at h; cases h
        · rename_i c3
          rw [if_neg c3]
          exact Nat.lt_succ_self _
theorem item_goes {c : C4} {st : RS} (h : st.p ≤ s.length) : Goes s st (itemS s c st).2 := by
  unfold itemS
  have h1 := char_goes h
  dsimp only
  split
  · rename_i c1
    have h2 := goes_up (isB_lt c1).2.1
    have h3 := char_goes h2.le
    split
    · refine h1.trans (h2.trans ?_)
      refine ⟨?_, ?_, ?_⟩
      · rw [(fail_p _ _).2]; exact h3.o
      · rw [(fail_p _ _).1]; exact Nat.le_refl _
      · rw [(fail_p _ _).1]; exact h2.le
    · exact h1.trans (h2.trans h3)
  · exact h1
theorem item_on {c : C4} {st : RS} (h0 : st.p ≤ s.length) (h : (itemS s c st).2.e = 0) : st.p < (itemS s c st).2.p := by
  unfold itemS at h ⊢
  have h1 := @char_on s st h0
  have g1 := char_goes h0
  dsimp only at h ⊢
  split
  · rename_i c1
    rw [if_pos c1] at h
    have e1 := h1 (isB_lt c1).1
    have h2 := goes_up (isB_lt c1).2.1
    have h3 := char_goes h2.le
    split
    · rw [(fail_p _ _).1]; exact Nat.lt_succ_of_lt e1
    · exact Nat.lt_of_lt_of_le e1 (Nat.le_trans h2.ge h3.ge)
  · rename_i c1
    rw [if_neg c1] at h
    exact h1 h
theorem clsGo_goes {neg : Bool} : ∀ (f n : Nat) (c : C4) (st : RS) (R : C4 × RS), clsGo s neg f n c st = some R → st.p ≤ s.length → Goes s st R.2
  | 0, _, _, _, _, h, _ => nomatch h
  | f + 1, n, c, st, R, h, h0 => by
    rw [clsGo] at h
    split at h
    · have := item_goes (c := c) h0
      exact this.trans (clsGo_goes f _ _ _ R h this.le)
    · cases h; exact Goes.refl h0
theorem clsGo_some {neg : Bool} : ∀ (f n : Nat) (c : C4) (st : RS), st.p ≤ s.length → s.length - st.p + 1 < f → ∃ R, clsGo s neg f n c st = some R
  | 0, _, _, _, _, h => absurd h (Nat.not_lt_zero _)
  | f + 1, n, c, st, h0, h => by
    rw [clsGo]
    split
    · have g := item_goes (c := c) h0
      by_cases e : (itemS s c st).2.e = 0
      · have := item_on h0 e
        have hle := g.le
        exact clsGo_some f _ _ _ g.le (by omega)
      · cases f with
        | zero => omega
        | succ f => rw [clsGo, if_neg (by rintro ⟨h, _⟩; exact e h)]; exact ⟨_, rfl⟩
    · exact ⟨_, rfl⟩
theorem class_goes {f : Nat} {st : RS} {R : C4 × RS} (h : classS s f st = some R) (h0 : st.p ≤ s.length) : Goes s st R.2 := by
  unfold classS at h
  split at h
  · cases h
  · rename_i c st1 hc
    have g1 := goes_take (s := s) h0 94
    have g2 := clsGo_goes _ _ _ _ _ hc g1.le
    cases h
    dsimp only at g2 ⊢
    have g3 : ∀ q : Prop, ∀ _ : Decidable q, Goes s st1 (if q then failS st1 6 else st1) := fun q _ => by
      split
      · exact goes_fail g2.le 6
      · exact Goes.refl g2.le
    exact g1.trans (g2.trans ((g3 _ _).trans (goes_take (g3 _ _).le 93)))
/-- of all of them -/
def GoesAt (s : Txt) (f : Nat) : Prop :=
  (∀ st R, altF s f st = some R → st.p ≤ s.length → Goes s st R.2) ∧ (∀ o st R, altL s f o st = some R → st.p ≤ s.length → Goes s st R.2) ∧
  (∀ st R, catF s f st = some R → st.p ≤ s.length → Goes s st R.2) ∧ (∀ o st R, catL s f o st = some R → st.p ≤ s.length → Goes s st R.2) ∧
  (∀ st R, repF s f st = some R → st.p ≤ s.length → Goes s st R.2) ∧ (∀ o st R, repL s f o st = some R → st.p ≤ s.length → Goes s st R.2) ∧
  (∀ st R, atomF s f st = some R → st.p ≤ s.length → Goes s st R.2) ∧ (∀ st R, brF s f st = some R → st.p < s.length → Goes s st R.2 ∧ (st.e = 0 → R.2.e = 0 → st.p < R.2.p))
theorem goes_at (s : Txt) : ∀ f, GoesAt s f
  | 0 => ⟨fun _ _ h => by rw [altF] at h; (cases h), fun _ _ _ h => by rw [altL] at h; (cases h), fun _ _ h => by rw [catF] at h; (cases h), fun _ _ _ h => by rw [catL] at h; (cases h), fun _ _ h => by rw [repF] at h; (cases h), fun _ _ _ h => by rw [repL] at h; (cases h), fun _ _ h => by rw [atomF] at h; (cases h), fun _ _ h => by rw [brF] at h; (cases h)⟩
  | f + 1 => by
    obtain ⟨a1, a2, a3, a4, a5, a6, a7, a8⟩ := goes_at s f
    refine ⟨fun st R h h0 => ?_, fun o st R h h0 => ?_, fun st R h h0 => ?_, fun o st R h h0 => ?_, fun st R h h0 => ?_, fun o st R h h0 => ?_, fun st R h h0 => ?_, fun st R h h0 => ?_⟩
    · rw [altF] at h
      split at h
      · cases h
      · rename_i o st1 hc
        have g := a3 _ _ hc h0
        exact g.trans (a2 _ _ _ h g.le)
    · rw [altL] at h
      split at h
      · rename_i c
        have g0 := goes_up (isB_lt c).2.1
        split at h
        · cases h
        · rename_i o st1 hc
          have g := a3 _ _ hc g0.le
          exact g0.trans (g.trans (a2 _ _ _ h g.le))
      · cases h; exact Goes.refl h0
    · rw [catF] at h
      split at h
      · cases h
      · rename_i o st1 hc
        have g := a5 _ _ hc h0
        exact g.trans (a4 _ _ _ h g.le)
    · rw [catL] at h
      split at h
      · cases h; exact Goes.refl h0
      · split at h
        · cases h
        · rename_i o st1 hc
          have g := a5 _ _ hc h0
          exact g.trans (a4 _ _ _ h g.le)
    · rw [repF] at h
      split at h
      · cases h
      · rename_i o st1 hc
        have g := a7 _ _ hc h0
        exact g.trans (a6 _ _ _ h g.le)
    · rw [repL] at h
      split at h
      · cases h; exact Goes.refl h0
      · split at h
        · rename_i c
          have g0 := goes_up (isB_lt c).2.1
          exact g0.trans (a6 _ _ _ h g0.le)
        · split at h
          · rename_i c
            have g0 := goes_up (isB_lt c).2.1
            exact g0.trans (a6 _ _ _ h g0.le)
          · split at h
            · rename_i c
              have g0 := goes_up (isB_lt c).2.1
              exact g0.trans (a6 _ _ _ h g0.le)
            · cases h; exact Goes.refl h0
    · rw [atomF] at h
      split at h
      · rename_i c; exact (a8 _ _ h (isB_lt c).2.1).1
      · split at h
        · rename_i c
          have g0 := goes_up (isB_lt c).2.1
          split at h
          · rename_i c2
            cases h
            exact g0.trans (goes_up (isB_lt c2).2.1)
          · split at h
            · cases h
            · rename_i c' st1 hc
              cases h
              exact g0.trans (class_goes hc g0.le)
        · split at h
          · rename_i c
            cases h
            exact goes_up (isB_lt c).2.1
          · cases h
            exact char_goes h0
    · rw [brF] at h
      split at h
      · cases h
        exact ⟨goes_fail (Nat.le_of_lt h0) 7, fun h1 h2 => by rw [show (Rx.mk 0 C4.zero [], failS st 7).2 = failS st 7 from rfl, fail_e h1] at h2; cases h2⟩
      · split at h
        · rename_i c
          cases h
          exact ⟨(goes_up h0).trans (goes_up (isB_lt c).2.1), fun _ _ => by show st.p < st.p + 1 + 1; omega⟩
        · split at h
          · cases h
          · rename_i r st1 hc
            have g := a1 _ _ hc (by exact h0)
            have g1 : st1.o = st.o + 1 := g.o
            have g2 : st.p + 1 ≤ st1.p := g.ge
            cases h
            dsimp only
            split
            · rename_i c2
              refine ⟨⟨?_, ?_, ?_⟩, fun _ _ => ?_⟩
              · show st1.o - 1 = st.o; omega
              · show st.p ≤ st1.p + 1; omega
              · exact (isB_lt c2).2.1
              · show st.p < st1.p + 1; omega
            · refine ⟨⟨?_, ?_, ?_⟩, fun _ _ => ?_⟩
              · rw [(fail_p _ _).2]; show st1.o - 1 = st.o; omega
              · rw [(fail_p _ _).1]; show st.p ≤ st1.p; omega
              · rw [(fail_p _ _).1]; exact g.le
              · rw [(fail_p _ _).1]; show st.p < st1.p; omega
/-- an atom goes on, or something is wrong -/
theorem atom_on {f : Nat} {st : RS} {R : Rx × RS} (h : atomF s f st = some R) (h0 : st.p ≤ s.length) (he : st.e = 0) (hR : R.2.e = 0) : st.p < R.2.p := by
  cases f with
  | zero => rw [atomF] at h; cases h
  | succ f =>
    rw [atomF] at h
    split at h
    · rename_i c; exact ((goes_at s f).2.2.2.2.2.2.2 _ _ h (isB_lt c).2.1).2 he hR
    · split at h
      · rename_i c
        have g0 := goes_up (isB_lt c).2.1
        split at h
        · cases h; show st.p < st.p + 1 + 1; omega
        · split at h
          · cases h
          · rename_i c' st1 hc
            cases h
            exact (class_goes hc g0.le).ge
      · split at h
        · cases h; exact Nat.lt_succ_self _
        · cases h; exact char_on h0 hR
theorem rep_on {f : Nat} {st : RS} {R : Rx × RS} (h : repF s f st = some R) (h0 : st.p ≤ s.length) (he : st.e = 0) (hR : R.2.e = 0) : st.p < R.2.p := by
  cases f with
  | zero => rw [repF] at h; cases h
  | succ f =>
    rw [repF] at h
    split at h
    · cases h
    · rename_i o st1 hc
      have g1 := (goes_at s f).2.2.2.2.2.2.1 _ _ hc h0
      have g2 := (goes_at s f).2.2.2.2.2.1 _ _ _ h g1.le
      by_cases e1 : st1.e = 0
      · exact Nat.lt_of_lt_of_le (atom_on hc h0 he e1) g2.ge
      · cases f with
        | zero => rw [repL] at h; cases h
        | succ f => rw [repL, if_pos e1] at h; cases h; exact absurd hR e1
/-- how much fuel is enough: eight for each byte that is left -/
def SomeAt (s : Txt) (f : Nat) : Prop :=
  (∀ st, st.p ≤ s.length → 8 * (s.length - st.p) + 6 < f → ∃ R, altF s f st = some R) ∧ (∀ o st, st.p ≤ s.length → 8 * (s.length - st.p) + 5 < f → ∃ R, altL s f o st = some R) ∧
  (∀ st, st.p ≤ s.length → 8 * (s.length - st.p) + 5 < f → ∃ R, catF s f st = some R) ∧ (∀ o st, st.p ≤ s.length → 8 * (s.length - st.p) + 4 < f → ∃ R, catL s f o st = some R) ∧
  (∀ st, st.p ≤ s.length → 8 * (s.length - st.p) + 3 < f → ∃ R, repF s f st = some R) ∧ (∀ o st, st.p ≤ s.length → 8 * (s.length - st.p) + 2 < f → ∃ R, repL s f o st = some R) ∧
  (∀ st, st.p ≤ s.length → 8 * (s.length - st.p) + 2 < f → ∃ R, atomF s f st = some R) ∧ (∀ st, st.p < s.length → 8 * (s.length - st.p) + 1 < f → ∃ R, brF s f st = some R)
theorem some_at (s : Txt) : ∀ f, SomeAt s f
  | 0 => ⟨fun _ _ h => absurd h (Nat.not_lt_zero _), fun _ _ _ h => absurd h (Nat.not_lt_zero _), fun _ _ h => absurd h (Nat.not_lt_zero _), fun _ _ _ h => absurd h (Nat.not_lt_zero _), fun _ _ h => absurd h (Nat.not_lt_zero _), fun _ _ _ h => absurd h (Nat.not_lt_zero _), fun _ _ h => absurd h (Nat.not_lt_zero _), fun _ _ h => absurd h (Nat.not_lt_zero _)⟩
  | f + 1 => by
    obtain ⟨a1, a2, a3, a4, a5, a6, a7, a8⟩ := some_at s f
    obtain ⟨b1, b2, b3, b4, b5, b6, b7, b8⟩ := goes_at s f
    refine ⟨fun st h0 h => ?_, fun o st h0 h => ?_, fun st h0 h => ?_, fun o st h0 h => ?_, fun st h0 h => ?_, fun o st h0 h => ?_, fun st h0 h => ?_, fun st h0 h => ?_⟩
    · rw [altF]
      obtain ⟨R, hR⟩ := a3 st h0 (by omega)
      rw [hR]
      have g := b3 _ _ hR h0
      have := g.ge
      exact a2 _ _ g.le (by omega)
    · rw [altL]
      split
      · rename_i c
        have g0 := goes_up (isB_lt c).2.1
        have e0 : st.up.p = st.p + 1 := rfl
        obtain ⟨R, hR⟩ := a3 st.up g0.le (by have := g0.le; omega)
        rw [hR]
        have g := b3 _ _ hR g0.le
        have h1 := g.ge
        have h2 := g0.le
        exact a2 _ _ g.le (by omega)
      · exact ⟨_, rfl⟩
    · rw [catF]
      obtain ⟨R, hR⟩ := a5 st h0 (by omega)
      rw [hR]
      have g := b5 _ _ hR h0
      have := g.ge
      exact a4 _ _ g.le (by omega)
    · rw [catL]
      split
      · exact ⟨_, rfl⟩
      · rename_i c
        have he : st.e = 0 := by
          unfold endsB at c
          simp only [Bool.or_eq_true, not_or, decide_eq_true_eq] at c
          simpa using c.1.1.1
        obtain ⟨R, hR⟩ := a5 st h0 (by omega)
        rw [hR]
        have g := b5 _ _ hR h0
        by_cases e : R.2.e = 0
        · have h1 := rep_on hR h0 he e
          have h2 := g.le
          exact a4 _ _ g.le (by omega)
        · cases f with
          | zero => omega
          | succ f =>
            refine ⟨(twoX 4 o R.1, R.2), ?_⟩
            obtain ⟨r1, r2⟩ := R
            dsimp only at e ⊢
            rw [catL, if_pos (by unfold endsB; rw [decide_eq_true e]; rfl)]
    · rw [repF]
      obtain ⟨R, hR⟩ := a7 st h0 (by omega)
      rw [hR]
      have g := b7 _ _ hR h0
      have := g.ge
      exact a6 _ _ g.le (by omega)
    · rw [repL]
      split
      · exact ⟨_, rfl⟩
      · split
        · rename_i c
          have g0 := goes_up (isB_lt c).2.1
          have e0 : st.up.p = st.p + 1 := rfl
          exact a6 _ _ g0.le (by have := g0.le; omega)
        · split
          · rename_i c
            have g0 := goes_up (isB_lt c).2.1
            have e0 : st.up.p = st.p + 1 := rfl
            exact a6 _ _ g0.le (by have := g0.le; omega)
          · split
            · rename_i c
              have g0 := goes_up (isB_lt c).2.1
              have e0 : st.up.p = st.p + 1 := rfl
              exact a6 _ _ g0.le (by have := g0.le; omega)
            · exact ⟨_, rfl⟩
    · rw [atomF]
      split
      · rename_i c; exact a8 _ (isB_lt c).2.1 (by have := (isB_lt c).2.1; omega)
      · split
        · rename_i c
          have g0 := goes_up (isB_lt c).2.1
          have e0 : st.up.p = st.p + 1 := rfl
          split
          · exact ⟨_, rfl⟩
          · unfold classS
            have g1 := goes_take (s := s) g0.le 94
            have h1 := g1.ge
            have h2 := g1.le
            have h3 := (isB_lt c).2.1
            obtain ⟨R, hR⟩ := clsGo_some (neg := isB s st.up 94) f 0 C4.zero (takeS s st.up 94) g1.le (by omega)
            rw [hR]
            exact ⟨_, rfl⟩
        · split
          · exact ⟨_, rfl⟩
          · exact ⟨_, rfl⟩
    · rw [brF]
      split
      · exact ⟨_, rfl⟩
      · split
        · exact ⟨_, rfl⟩
        · obtain ⟨R, hR⟩ := a1 { st.up with o := st.o + 1 } (by exact h0) (by show 8 * (s.length - (st.p + 1)) + 6 < f; omega)
          rw [hR]
          exact ⟨_, rfl⟩
theorem parse_some (s : Txt) : ∃ R, parseF s = some R := by
  unfold parseF
  split
  · exact ⟨_, rfl⟩
  · obtain ⟨R, hR⟩ := (some_at s (8 * s.length + 16)).1 ⟨0, 0, 0⟩ (Nat.zero_le _) (by show 8 * (s.length - 0) + 6 < _; omega)
    rw [hR]
    obtain ⟨r, st⟩ := R
    dsimp only
    generalize (if st.e = 0 ∧ st.p < s.length then failS st 6 else st) = st1
    by_cases c1 : st1.e ≠ 0
    · rw [if_pos c1]; exact ⟨_, rfl⟩
    · rw [if_neg c1]
      by_cases c2 : (chk r 1 0).1 ≠ 0
      · rw [if_pos c2]; exact ⟨_, rfl⟩
      · rw [if_neg c2]; exact ⟨_, rfl⟩
end
end Go.Proofs.YtakiohldgcifeaaDoor.rexL

/- RexG -/
namespace Go.Proofs.YtakiohldgcifeaaDoor.rexL
open classL
def hexD (n : Nat) : UInt8 := hexL.getD n 0
def charT (b : UInt8) : Txt :=
  if b = 10 then [92, 110] else if b = 9 then [92, 116] else if b = 32 then [92, 115]
  else if b < 33 ∨ 126 < b then [92, 120, hexD (b.toNat / 16), hexD (b.toNat % 16)]
  else if b ∈ signsL then [92, b] else [b]
/-- how many come one behind the other from b on -/
def runL : Nat → List Nat → Nat
  | _, [] => 0
  | b, x :: r => if x = b + 1 then runL (b + 1) r + 1 else 0
def itemT (b k : Nat) : Txt := charT (UInt8.ofNat b) ++ ((if 1 < k then [45] else []) ++ (if 0 < k then charT (UInt8.ofNat (b + k)) else []))
def itemsT : Nat → List Nat → Txt
  | 0, _ => []
  | _ + 1, [] => []
  | f + 1, b :: r => itemT b (runL b r) ++ itemsT f (r.drop (runL b r))
def classT (c : C4) : Txt :=
  if cnt c = 1 then charT (UInt8.ofNat ((bytesL c).getD 0 0))
  else if cnt c = 255 ∧ c.mem 10 = false then [46]
  else if 128 < cnt c then [91, 94] ++ (itemsT 256 (bytesL c.not) ++ [93])
  else [91] ++ (itemsT 256 (bytesL c) ++ [93])
/-- brackets are wanted -/
def inBr (lv : Nat) (e : Re) : Bool := decide (1 ≤ lv ∧ e.kind = 5 ∨ 2 ≤ lv ∧ e.kind = 4 ∨ 3 ≤ lv ∧ e.kind = 6)
def wrap (b : Bool) (t : Txt) : Txt := if b then [40] ++ (t ++ [41]) else t
def body : Re → Txt
  | .empty => [40, 41]
  | .none => [91, 93]
  | .byte c => classT c
  | .star a => wrap (inBr 3 a) (body a) ++ [42]
  | .cat a b => wrap (inBr 1 a) (body a) ++ wrap (inBr 2 b) (body b)
  | .alt a b => wrap (inBr 0 a) (body a) ++ ([124] ++ wrap (inBr 1 b) (body b))
section
variable {s : Txt}
theorem at_of {p : Nat} {x : UInt8} {post : Txt} (h : s.drop p = x :: post) : s[p]? = some x ∧ s.drop (p + 1) = post := by
  have h1 : p < s.length := by
    rcases Nat.lt_or_ge p s.length with h1 | h1
    · exact h1
    · rw [List.drop_of_length_le h1] at h; cases h
  rw [List.drop_eq_getElem_cons h1] at h
  obtain ⟨e1, e2⟩ := List.cons.inj h
  exact ⟨by rw [List.getElem?_eq_getElem h1, e1], e2⟩
theorem drop_app {p : Nat} {t post : Txt} (h : s.drop p = t ++ post) : s.drop (p + t.length) = post := by
  rw [← List.drop_drop, h, List.drop_left]
theorem isB_is {p o : Nat} {x b : UInt8} {post : Txt} (h : s.drop p = x :: post) : isB s ⟨p, o, 0⟩ b = decide (x = b) := by
  unfold isB
  rw [(at_of h).1]
  simp
theorem isB_nil {p o : Nat} {b : UInt8} (h : s.drop p = []) : isB s ⟨p, o, 0⟩ b = false := by
  unfold isB
  rw [List.getElem?_eq_none (by simpa using h)]
  simp
/-! ### bytes -/
theorem hex_some : ∀ n, n < 16 → hexL.idxOf? (hexD n) = some n := by decide
/-- how a byte is written -/
inductive CharIs (b : UInt8) : Txt → Prop
  | plain (h : b ≠ 92) (h2 : ¬ (b < 33 ∨ 126 < b ∨ b ∈ signsL)) : CharIs b [b]
  | two (x : UInt8) (i : Nat) (h : ntsL.idxOf? x = some i) (h2 : ctlL.getD i 0 = b) : CharIs b [92, x]
  | sign (h : ntsL.idxOf? b = none) (h1 : b ≠ 120) (h2 : b ∈ signsL) : CharIs b [92, b]
  | hex (h l : Nat) (hh : h < 16) (hl : l < 16) (e : UInt8.ofNat ((UInt8.ofNat h).toNat * 16 + (UInt8.ofNat l).toNat) = b) : CharIs b [92, 120, hexD h, hexD l]
set_option maxRecDepth 100000 in
theorem hex_back : ∀ n, n < 256 → UInt8.ofNat ((UInt8.ofNat ((UInt8.ofNat n).toNat / 16)).toNat * 16 + (UInt8.ofNat ((UInt8.ofNat n).toNat % 16)).toNat) = UInt8.ofNat n := by decide
theorem sign_ok : ∀ b ∈ signsL, ntsL.idxOf? b = none ∧ b ≠ 120 := by decide
theorem char_is (b : UInt8) : CharIs b (charT b) := by
  unfold charT
  split
  · rename_i c; subst c; exact .two 110 0 (by decide) (by decide)
  · split
    · rename_i c; subst c; exact .two 116 1 (by decide) (by decide)
    · split
      · rename_i c; subst c; exact .two 115 2 (by decide) (by decide)
      · split
        · refine .hex _ _ (by have := b.toNat_lt; omega) (Nat.mod_lt _ (by omega)) ?_
          have := hex_back b.toNat b.toNat_lt
          rwa [UInt8.ofNat_toNat] at this
        · rename_i c
          split
          · rename_i c2; exact .sign (sign_ok b c2).1 (sign_ok b c2).2 c2
          · rename_i c2
            refine .plain ?_ (by rintro (h | h | h); exact c (.inl h); exact c (.inr h); exact c2 h)
            rintro rfl; exact c2 (by decide)
theorem digit_is {p o n : Nat} {post : Txt} (hn : n < 16) (h : s.drop p = hexD n :: post) : digitS s ⟨p, o, 0⟩ = (UInt8.ofNat n, ⟨p + 1, o, 0⟩) := by
  unfold digitS
  rw [if_pos rfl]
  dsimp only
  rw [(at_of h).1]
  dsimp only
  rw [hex_some n hn]
  rfl
/-- a byte that is written is read -/
theorem char_back {p o : Nat} {b : UInt8} {post : Txt} (h : s.drop p = charT b ++ post) : charS s ⟨p, o, 0⟩ = (b, ⟨p + (charT b).length, o, 0⟩) := by
  have hi := char_is b
  generalize charT b = t at *
  unfold charS
  rw [if_neg (by simp)]
  dsimp only
  cases hi with
  | plain h1 h2 =>
    rw [(at_of h).1]
    dsimp only
    rw [if_neg h1, if_neg h2]; rfl
  | two x i h1 h2 =>
    obtain ⟨k1, k2⟩ := at_of h
    obtain ⟨k3, k4⟩ := at_of (s := s) (p := p + 1) k2
    rw [k1]
    dsimp only
    rw [if_pos rfl]
    unfold turnedS RS.up
    dsimp only
    rw [k3]
    dsimp only
    rw [h1]
    dsimp only
    rw [h2]; rfl
  | sign h0 h1 h2 =>
    obtain ⟨k1, k2⟩ := at_of h
    obtain ⟨k3, k4⟩ := at_of (s := s) (p := p + 1) k2
    rw [k1]
    dsimp only
    rw [if_pos rfl]
    unfold turnedS RS.up
    dsimp only
    rw [k3]
    dsimp only
    rw [h0]
    dsimp only
    rw [if_neg h1, if_pos h2]; rfl
  | hex a l ha hl e =>
    obtain ⟨k1, k2⟩ := at_of h
    obtain ⟨k3, k4⟩ := at_of (s := s) (p := p + 1) k2
    obtain ⟨k5, k6⟩ := at_of (s := s) (p := p + 1 + 1) k4
    rw [k1]
    dsimp only
    rw [if_pos rfl]
    unfold turnedS RS.up
    dsimp only
    rw [k3]
    dsimp only
    rw [show ntsL.idxOf? 120 = none by decide]
    dsimp only
    rw [if_pos rfl, digit_is ha k4]
    dsimp only
    rw [digit_is hl k6]
    dsimp only
    rw [e]; rfl
/-- what a written byte begins with -/
theorem char_head (b : UInt8) : ∃ x r, charT b = x :: r ∧ x ≠ 93 ∧ x ≠ 94 ∧ x ≠ 45 ∧ x ≠ 124 ∧ x ≠ 41 ∧ x ≠ 40 ∧ x ≠ 91 ∧ x ≠ 46 ∧ x ≠ 42 ∧ x ≠ 43 ∧ x ≠ 63 := by
  have hi := char_is b
  generalize charT b = t at *
  cases hi with
  | plain h1 h2 =>
    have hs : ∀ x ∈ signsL, b ≠ x := fun x hx e => h2 (.inr (.inr (e ▸ hx)))
    exact ⟨b, [], rfl, hs _ (by decide), hs _ (by decide), hs _ (by decide), hs _ (by decide), hs _ (by decide), hs _ (by decide), hs _ (by decide), hs _ (by decide), hs _ (by decide), hs _ (by decide), hs _ (by decide)⟩
  | two x i h1 h2 => exact ⟨92, [x], rfl, by decide, by decide, by decide, by decide, by decide, by decide, by decide, by decide, by decide, by decide, by decide⟩
  | sign h0 h1 h2 => exact ⟨92, [b], rfl, by decide, by decide, by decide, by decide, by decide, by decide, by decide, by decide, by decide, by decide, by decide⟩
  | hex a l ha hl e => exact ⟨92, _, rfl, by decide, by decide, by decide, by decide, by decide, by decide, by decide, by decide, by decide, by decide, by decide⟩
/-! ### classes -/
theorem run_le : ∀ (b : Nat) (r : List Nat), runL b r ≤ r.length
  | _, [] => Nat.le_refl _
  | b, x :: r => by
    rw [runL]
    split
    · have := run_le (b + 1) r; simp; omega
    · exact Nat.zero_le _
theorem run_take : ∀ (b : Nat) (r : List Nat) (n : Nat), n ∈ r.take (runL b r) ↔ b < n ∧ n ≤ b + runL b r
  | b, [], n => by
    rw [runL]
    constructor
    · intro h; cases h
    · intro h; omega
  | b, x :: r, n => by
    rw [runL]
    split
    · rename_i c
      subst c
      rw [List.take_succ_cons, List.mem_cons, run_take (b + 1) r n]
      omega
    · rw [List.take_zero]
      constructor
      · intro h; cases h
      · intro h; omega
/-- what one item tells -/
theorem item_back {p o : Nat} {c : C4} {b k : Nat} {x : UInt8} {post : Txt} (hb : b + k < 256) (hx : x ≠ 45) (hk : k ≠ 1) (h : s.drop p = itemT b k ++ x :: post) :
    itemS s c ⟨p, o, 0⟩ = (c.join (rangeF (b : Int) ((b + k : Nat) : Int)), ⟨p + (itemT b k).length, o, 0⟩) := by
  have hb1 : (UInt8.ofNat b).toNat = b := by rw [UInt8.toNat_ofNat']; exact Nat.mod_eq_of_lt (by omega)
  have hb2 : (UInt8.ofNat (b + k)).toNat = b + k := by rw [UInt8.toNat_ofNat']; exact Nat.mod_eq_of_lt (by omega)
  unfold itemT at h ⊢
  rw [List.append_assoc] at h
  unfold itemS
  rw [char_back h]
  dsimp only
  have h2 := drop_app h
  by_cases c0 : k = 0
  · subst c0
    simp only [Nat.lt_irrefl, show ¬ 1 < 0 by omega, if_false, List.append_nil, List.nil_append] at h2 ⊢
    rw [isB_is h2, decide_eq_false hx]
    simp only [Bool.false_eq_true, if_false]
    rw [hb1]; rfl
  · have c1 : 1 < k := by omega
    rw [if_pos c1, if_pos (show 0 < k by omega)] at h2 ⊢
    have h3 : s.drop (p + (charT (UInt8.ofNat b)).length) = 45 :: (charT (UInt8.ofNat (b + k)) ++ x :: post) := by rw [h2]; simp
    rw [isB_is h3, decide_eq_true rfl]
    simp only [if_true]
    have h4 := (at_of h3).2
    unfold RS.up
    dsimp only
    rw [char_back h4]
    dsimp only
    rw [if_neg (by rintro ⟨_, hlt⟩; rw [UInt8.lt_iff_toNat_lt, hb1, hb2] at hlt; omega), hb1, hb2]
    simp only [List.length_append, List.length_cons, List.length_nil]
    congr 2
    omega
theorem itemT_head (b k : Nat) : ∃ x r, itemT b k = x :: r ∧ x ≠ 93 ∧ x ≠ 94 ∧ x ≠ 45 := by
  obtain ⟨x, r, h1, h2, h3, h4, _⟩ := char_head (UInt8.ofNat b)
  unfold itemT
  rw [h1]
  exact ⟨x, _, rfl, h2, h3, h4⟩
theorem items_head (f : Nat) (l : List Nat) : itemsT f l = [] ∨ ∃ x r, itemsT f l = x :: r ∧ x ≠ 93 ∧ x ≠ 94 ∧ x ≠ 45 := by
  cases f with
  | zero => exact .inl rfl
  | succ f =>
    cases l with
    | nil => exact .inl rfl
    | cons b r =>
      obtain ⟨x, q, h1, h2⟩ := itemT_head b (runL b r)
      rw [itemsT, h1]
      exact .inr ⟨x, _, rfl, h2⟩
/-- items ahead of the class's end -/
theorem items_next (f : Nat) (l : List Nat) (post : Txt) : ∃ x r, itemsT f l ++ 93 :: post = x :: r ∧ x ≠ 45 := by
  rcases items_head f l with h | ⟨x, r, h, _, _, h3⟩
  · rw [h]; exact ⟨93, post, rfl, by decide⟩
  · rw [h]; exact ⟨x, _, rfl, h3⟩
theorem or5 : ∀ q d1 d2 m d : Bool, (d1 || d2) = d → (((q || d1) || d2) || m) = (q || (d || m)) := by decide
theorem or4 : ∀ q d1 m d : Bool, d1 = d → ((q || d1) || m) = (q || (d || m)) := by decide
/-- all items are read: the class has what the list has -/
theorem items_back {neg : Bool} : ∀ (f : Nat) (l : List Nat) (p o n : Nat) (c : C4) (post : Txt) (F : Nat), l.length ≤ f → (∀ x ∈ l, x < 256) → (0 < n ∨ neg = true ∨ l ≠ []) → s.drop p = itemsT f l ++ 93 :: post → 2 * l.length < F →
    ∃ c', clsGo s neg F n c ⟨p, o, 0⟩ = some (c', ⟨p + (itemsT f l).length, o, 0⟩) ∧ ∀ i, i < 256 → c'.mem i = (c.mem i || decide (i ∈ l))
  | f, [], p, o, n, c, post, F, _, _, hn, h, hF => by
    obtain ⟨F, rfl⟩ : ∃ F', F = F' + 1 := ⟨F - 1, by omega⟩
    have e : itemsT f [] = [] := by cases f <;> rfl
    rw [e] at h ⊢
    refine ⟨c, ?_, fun i _ => by simp⟩
    rw [clsGo, if_neg]
    · rfl
    · rintro ⟨_, hx⟩
      refine hx ⟨by rw [isB_is h]; rfl, ?_⟩
      rcases hn with hn | hn | hn
      · exact .inl hn
      · exact .inr hn
      · exact absurd rfl hn
  | 0, _ :: _, _, _, _, _, _, _, hl, _, _, _, _ => by simp at hl
  | f + 1, b :: r, p, o, n, c, post, F, hl, hm, hn, h, hF => by
    simp only [List.length_cons] at hl hF
    have hrl := run_le b r
    have hlen : (r.drop (runL b r)).length = r.length - runL b r := List.length_drop
    have hmr : ∀ x ∈ r.drop (runL b r), x < 256 := fun x hx => hm x (List.mem_cons_of_mem _ (List.mem_of_mem_drop hx))
    have hbk : b + runL b r < 256 := by
      by_cases c0 : runL b r = 0
      · rw [c0]; exact hm b (List.mem_cons_self ..)
      · have := (run_take b r (b + runL b r)).2 ⟨by omega, Nat.le_refl _⟩
        exact hm _ (List.mem_cons_of_mem _ (List.mem_of_mem_take this))
    have hmem : ∀ i, decide (i ∈ b :: r) = (decide (b ≤ i ∧ i ≤ b + runL b r) || decide (i ∈ r.drop (runL b r))) := fun i => by
      have h1 := run_take b r i
      have h2 : i ∈ r ↔ i ∈ r.take (runL b r) ∨ i ∈ r.drop (runL b r) := by rw [← List.mem_append, List.take_append_drop]
      rw [← Bool.decide_or]
      apply decide_eq_decide.2
      rw [List.mem_cons, h2, h1]
      constructor
      · rintro (h | h | h)
        · exact .inl (by omega)
        · exact .inl (by omega)
        · exact .inr h
      · rintro (h | h)
        · by_cases e : i = b
          · exact .inl e
          · exact .inr (.inl (by omega))
        · exact .inr (.inr h)
    rw [itemsT, List.append_assoc] at h
    obtain ⟨x0, r0, e0, f1, f2, f3⟩ := itemT_head b (runL b r)
    have hgo : ∀ (q n : Nat) (st : RS), st = ⟨q, o, 0⟩ → (∃ x r, s.drop q = x :: r ∧ x ≠ 93) → st.e = 0 ∧ ¬ (isB s st 93 = true ∧ (0 < n ∨ neg = true)) := by
      rintro q n _ rfl ⟨x, r, e, hx⟩
      exact ⟨rfl, by rw [isB_is e, decide_eq_false hx]; rintro ⟨h, _⟩; cases h⟩
    obtain ⟨F, rfl⟩ : ∃ F', F = F' + 1 := ⟨F - 1, by omega⟩
    by_cases c1 : runL b r = 1
    · -- two items
      have e2 : itemT b 1 = charT (UInt8.ofNat b) ++ charT (UInt8.ofNat (b + 1)) := by unfold itemT; simp
      have e3 : ∀ q, itemT q 0 = charT (UInt8.ofNat q) := fun q => by unfold itemT; simp
      rw [c1] at h hbk hmem hlen hmr
      have h' : s.drop p = itemT b 0 ++ (itemT (b + 1) 0 ++ (itemsT f (r.drop 1) ++ 93 :: post)) := by rw [h, e2, e3, e3]; simp
      obtain ⟨x1, r1, g1, g2, g3, g4⟩ := itemT_head (b + 1) 0
      obtain ⟨x2, r2, k1, k2⟩ := items_next f (r.drop 1) post
      have i1 := item_back (o := o) (c := c) (b := b) (k := 0) (by omega) g4 (by omega) (post := r1 ++ (itemsT f (r.drop 1) ++ 93 :: post)) (by rw [h', g1]; rfl)
      have h2 := drop_app h'
      have i2 := item_back (o := o) (c := c.join (rangeF (b : Int) ((b + 0 : Nat) : Int))) (b := b + 1) (k := 0) (by omega) k2 (by omega) (post := r2) (by rw [h2, k1])
      have h3 := drop_app h2
      obtain ⟨F, rfl⟩ : ∃ F', F = F' + 1 := ⟨F - 1, by omega⟩
      obtain ⟨y1, y2, y1e, y3, _⟩ := itemT_head b 0
      rw [clsGo, if_pos (hgo p n _ rfl ⟨y1, _, by rw [h', y1e]; rfl, y3⟩), i1]
      dsimp only
      rw [clsGo, if_pos (hgo _ (n + 1) _ rfl ⟨x1, _, by rw [h2, g1]; rfl, g2⟩), i2]
      dsimp only
      obtain ⟨c', m1, m2⟩ := items_back f (r.drop 1) (p + (itemT b 0).length + (itemT (b + 1) 0).length) o (n + 1 + 1) ((c.join (rangeF (b : Int) ((b + 0 : Nat) : Int))).join (rangeF ((b + 1 : Nat) : Int) ((b + 1 + 0 : Nat) : Int))) post F (by omega) hmr (.inl (by omega)) h3 (by omega)
      refine ⟨c', ?_, fun i hi => ?_⟩
      · rw [m1, itemsT, c1, e2, e3, e3]
        congr 3
        simp only [List.length_append]
        omega
      · rw [m2 i hi, join_mem, join_mem, range_mem _ _ _ hi, range_mem _ _ _ hi, hmem i]
        exact or5 _ _ _ _ _ (by rw [← Bool.decide_or, decide_eq_decide]; omega)
    · obtain ⟨x2, r2, k1, k2⟩ := items_next f (r.drop (runL b r)) post
      have i1 := item_back (o := o) (c := c) (b := b) (k := runL b r) hbk k2 c1 (post := r2) (by rw [h, k1])
      have h2 := drop_app h
      rw [clsGo, if_pos (hgo p n _ rfl ⟨x0, _, by rw [h, e0]; rfl, f1⟩), i1]
      dsimp only
      obtain ⟨c', m1, m2⟩ := items_back f (r.drop (runL b r)) (p + (itemT b (runL b r)).length) o (n + 1) (c.join (rangeF (b : Int) ((b + runL b r : Nat) : Int))) post F (by omega) hmr (.inl (by omega)) h2 (by omega)
      refine ⟨c', ?_, fun i hi => ?_⟩
      · rw [m1, itemsT]
        congr 3
        simp only [List.length_append]
        omega
      · rw [m2 i hi, join_mem, range_mem _ _ _ hi, hmem i]
        exact or4 _ _ _ _ (decide_eq_decide.2 (by omega))
end
end Go.Proofs.YtakiohldgcifeaaDoor.rexL

/- IdxB -/
namespace Go.Proofs.YtakiohldgcifeaaDoor.eng
open Go.RowKit kit mix
set_option maxHeartbeats 1000000 in
set_option maxRecDepth 100000 in
theorem idxIn_calls (s : ByteArray) (c : Int) (w : World) :
    Calls Tryd.prog 51 #[.string s, .int .u8 c] w fun e w' => e = .returned (.int .i64 (Lib.indexByte s.data.toList c.toNat.toUInt8)) ∧ w' = w := by
  go_enter Tryd.func51, Tryd.ntmps51
  go_wp2
  rw [run_callFunc_extern Tryd.func65 (by kernel_rfl) (by kernel_rfl) (by kernel_rfl) (e := Extern.BytealgIndexByte.indexByte) (by kernel_rfl), Lib.run_indexByteString]
  simp only [Result.andThen]
  rw [Oper.upon_value]
  go_wp2
  go_ret
  exact ⟨rfl, rfl⟩
theorem idxIn2_calls (l : List UInt8) (c : UInt8) (w : World) : Calls Tryd.prog 51 #[str l, .int .u8 (c.toNat : Int)] w (Meets (ret (.int .i64 (Lib.indexByte l c))) w) :=
  (idxIn_calls ⟨l.toArray⟩ (c.toNat : Int) w).mono fun e w' ⟨h1, h2⟩ => by
    subst h2
    refine meets_ret ?_ (Gr.refl _)
    rw [h1, Int.toNat_natCast]
    have : c.toNat.toUInt8 = c := by rw [Nat.toUInt8_eq, UInt8.ofNat_toNat]
    rw [this]
/-- strings.IndexByte -/
theorem idxB_calls (l : List UInt8) (c : UInt8) (w : World) : Calls Tryd.prog 63 #[str l, .int .u8 (c.toNat : Int)] w (Meets (ret (.int .i64 (Lib.indexByte l c))) w) := by
  refine enter (args := [str l, .int .u8 (c.toNat : Int)]) (n := 8) Tryd.func63 rfl rfl rfl ?_
  repeat(first|refine qv rfl (qp rfl) rfl rfl ?_|refine TL_nil ?_|refine T_seq ?_|refine T_region ?_|refine T_ret ?_|refine E_then ?_|refine E_thenR ?_)
  refine TL_call (he2 (Enters.of (by kernel_rfl)) rfl rfl rfl) (fun w' hm => idxIn2_calls l c w') rfl rfl rfl ?_
  intro _ _
  repeat(first|refine qv rfl (qp rfl) rfl rfl ?_|refine TL_nil ?_|refine T_seq ?_|refine T_region ?_|refine T_ret ?_|refine E_then ?_|refine E_thenR ?_)
  exact E_ret1 rfl rfl fun w hm => hm.ret
theorem idxB_some {l : List UInt8} {c : UInt8} {i : Nat} (h : l.idxOf? c = some i) : Lib.indexByte l c = (i : Int) := by
  induction l generalizing i with
  | nil => cases h
  | cons b l ih =>
    rw [List.idxOf?_cons] at h
    unfold Lib.indexByte
    by_cases e : (b == c) = true
    · rw [if_pos e] at h ⊢; cases h; rfl
    · rw [if_neg e] at h ⊢
      cases hq : l.idxOf? c with
      | none => rw [hq] at h; cases h
      | some q =>
        rw [hq] at h
        cases h
        rw [ih hq, if_neg (by simp)]; rfl
theorem idxB_none {l : List UInt8} {c : UInt8} (h : l.idxOf? c = none) : Lib.indexByte l c = -1 := by
  induction l with
  | nil => rfl
  | cons b l ih =>
    rw [List.idxOf?_cons] at h
    unfold Lib.indexByte
    by_cases e : (b == c) = true
    · rw [if_pos e] at h; cases h
    · rw [if_neg e] at h ⊢
      cases hq : l.idxOf? c with
      | none => rw [ih hq]; rfl
      | some q => rw [hq] at h; cases h
end Go.Proofs.YtakiohldgcifeaaDoor.eng

/- ReadM -/
namespace Go.Proofs.YtakiohldgcifeaaDoor.eng
open Go.RowKit kit mix Go.ChangeShapes Go.WideShapes Go.ChangeAt
/-- a measure that goes down into what a datum has -/
structure Msr (P : Program) (H : Type) where
  ok : TypeId → DataW H → Prop
  lim : TypeId → Nat → Prop
  slim : Nat → Prop
  zero : ∀ e, lim e 0
  slice : ∀ {t e : TypeId} {elems spare : List (DataW H)}, P.underlying t = some (.slice e) → ok t (.slice elems spare) → lim e elems.length ∧ ∀ d ∈ elems, ok e d
  strct : ∀ {t : TypeId} {fs : Array Field} {parts : List (DataW H)}, P.underlying t = some (.struct fs) → ok t (.agg parts) → ∀ (i : Nat) (f : Field) (d : DataW H), fs[i]? = some f → parts[i]? = some d → ok f.type d
  arr : ∀ {t e : TypeId} {m : Nat} {parts : List (DataW H)}, P.underlying t = some (.array m e) → ok t (.agg parts) → ∀ d ∈ parts, ok e d
  str : ∀ {t : TypeId} {b : List UInt8}, ok t (.lit (.string b)) → slim b.length
section
variable {H : Type} {P : Program}
theorem bulk_all : ∀ (l : List (DataW H)) (d : DataW H), d ∈ l → Rows.uptoBulk d ≤ Rows.uptoBulkAll l
  | [], _, h => by cases h
  | x :: r, d, h => by
    rw [Rows.uptoBulkAll]
    rcases List.mem_cons.1 h with rfl | h
    · omega
    · have := bulk_all r d h; omega
theorem bulk_one (d : DataW H) : 1 ≤ Rows.uptoBulk d := by
  unfold Rows.uptoBulk
  split <;> omega
theorem bulk_count : ∀ (ds : List (DataW H)), ds.length ≤ Rows.uptoBulkAll ds
  | [] => by simp
  | d :: r => by
    have := bulk_count r
    have := bulk_one d
    rw [Rows.uptoBulkAll, List.length_cons]; omega
/-- by bulk -/
def bulkM (P : Program) (H : Type) : Msr P H where
  ok _ d := Rows.uptoBulk d ≤ 1048576
  lim _ n := n ≤ 1048576
  slim n := n ≤ 1048576
  zero e := by simp
  slice := fun {t e elems spare} _ h => by
    rw [Rows.uptoBulk] at h
    exact ⟨by have := bulk_count elems; omega, fun d hd => by have := bulk_all elems d hd; omega⟩
  strct := fun {t fs parts} _ h i f d _ hd => by
    rw [Rows.uptoBulk] at h
    have := bulk_all parts d (List.mem_of_getElem? hd)
    omega
  arr := fun {t e m parts} _ h d hd => by
    rw [Rows.uptoBulk] at h
    have := bulk_all parts d hd
    omega
  str := fun {t b} h => by rw [Rows.uptoBulk] at h; omega
theorem bulkM_top {ds : List (DataW H)} (hk : Rows.uptoSmall H ds = true) (j : Nat) {t : TypeId} {d : DataW H} (hd : ds[j]? = some d) : (bulkM P H).ok t d := by
  have h := of_decide_eq_true hk
  have := bulk_all ds d (List.mem_of_getElem? hd)
  show Rows.uptoBulk d ≤ 1048576
  omega
end
section
variable {H : Type} {enc0 : TypeId × Value → H} {P : Program} {W : World} {M : Msr P H}
def OpensM (M : Msr P H) (enc0 : TypeId × Value → H) (W : World) (t : TypeId) {α : Type} (is : List Value → α → Prop) : Prop :=
  ∀ fuel cs x, DataW.trod enc0 P W 0 (fun _ => true) true fuel t cs = some x → M.ok t x.1 → ∃ a, is cs a
theorem OpensM.mono {t : TypeId} {α β : Type} {is : List Value → α → Prop} {is' : List Value → β → Prop} (h : OpensM M enc0 W t is) (hi : ∀ cs a, is cs a → ∃ b, is' cs b) : OpensM M enc0 W t is' := fun f cs x hx hm => let ⟨_, ha⟩ := h f cs x hx hm; hi _ _ ha
theorem opensM_of {t : TypeId} {α : Type} {is : List Value → α → Prop} (h : Opens enc0 P W t is) : OpensM M enc0 W t is := fun f cs x hx _ => h f cs x hx
theorem opensM_i64 {t : TypeId} (ht : P.underlying t = some (.int .i64)) : OpensM M enc0 W t (isInt .i64 (-9223372036854775808) 9223372036854775807) := opensM_of (opens_i64 ht)
theorem opensM_str {t : TypeId} (ht : P.underlying t = some .string) : OpensM M enc0 W t (fun cs s => isStr cs s ∧ M.slim s.length) := fun f cs x h hm => by
  obtain ⟨s, h1, h2, h3⟩ := DataW.trod_string ht h
  refine ⟨s.data.toList, ⟨by rw [h1, str_of], ?_⟩, ?_⟩
  · have e : s.data.toList.length = s.size := Array.length_toList
    unfold maxLen at h3; omega
  · rw [h2] at hm
    exact M.str hm
theorem opensM_slice {t e : TypeId} {c : Nat} (ht : P.underlying t = some (.slice e)) (hc : P.cellsOf e = c) (hc0 : 0 < c) {α : Type} {is : List Value → α → Prop} (hd : OpensM M enc0 W e is) (_ : ∀ cs a, is cs a → cs.length = c) : OpensM M enc0 W t (fun cs l => isSl W is c cs l ∧ M.lim e l.length) := fun fuel cs x h hm => by
  rcases DataW.trod_slice ht h with ⟨rfl, _⟩ | ⟨a, len, cap, elems, rest, n, _, rfl, hx, _, hlc, hmx, hel, hread, _⟩
  · exact ⟨[], ⟨_, rfl, none, 0, rfl, Nat.le_refl _, by decide, fun h => by simp at h⟩, M.zero e⟩
  · rw [hx] at hm
    obtain ⟨hlim, hall⟩ := M.slice ht hm
    have each : ∀ i, i < len → ∃ y : α, ∃ cs, W.cells? 0 (a.add (i * c)) c = some cs ∧ is cs y := fun i hi => by
      have h1 := hread i hi
      rw [hc, List.getElem?_eq_getElem (by omega)] at h1
      cases hcell : W.cells? 0 (a.add (i * c)) c with
      | none => rw [hcell] at h1; simp at h1
      | some cs =>
        rw [hcell] at h1
        obtain ⟨y, hy⟩ := hd n cs _ h1 (hall _ (List.mem_map.2 ⟨_, List.getElem_mem (by omega), rfl⟩))
        exact ⟨y, cs, rfl, hy⟩
    obtain ⟨l, hll, hp⟩ := list_of len each
    subst hll
    refine ⟨l, ⟨_, rfl, some a, cap, rfl, hlc, hmx, fun h0 => ?_⟩, by rw [List.length_map, hel] at hlim; exact hlim⟩
    obtain ⟨cs0, h1, h2⟩ := hp 0 l[0] (List.getElem?_eq_getElem h0)
    have h3 := (cells_some h1).2 0 hc0
    have hlen := (cells_some h1).1
    rw [List.getElem?_eq_getElem (by omega)] at h3
    have hsp := spot_none h3
    have e0 : a.spot = none := by
      rw [Nat.zero_mul] at hsp
      unfold Addr.add at hsp
      simpa using hsp
    obtain ⟨b, off, spot⟩ := a
    simp only at e0
    subst e0
    refine ⟨b, off, rfl, fun i hi => ?_⟩
    obtain ⟨cs, h4, h5⟩ := hp i l[i] (List.getElem?_eq_getElem hi)
    refine ⟨cs, h5, fun j u hj => ?_⟩
    have hjl : j < c := by have := (List.getElem?_eq_some_iff.1 hj).1; rw [(cells_some h4).1] at this; exact this
    have h6 := (cells_some h4).2 j hjl
    rw [addr_add, addr_add] at h6
    rw [h6]; exact hj
/-- a struct's fields -/
theorem fieldM_of {t : TypeId} {fs : Array Field} (ht : P.underlying t = some (.struct fs)) {fuel : Nat} {cs : List Value} {x : DataW H × List MemPlace} (h : DataW.trod enc0 P W 0 (fun _ => true) true fuel t cs = some x) (hm : M.ok t x.1) :
    cs.length = P.cellsOf t ∧ ∀ (i : Nat) (f : Field), fs[i]? = some f → ∀ {α : Type} {is : List Value → α → Prop}, OpensM M enc0 W f.type is → ∃ a, is ((cs.drop f.offset).take (P.cellsOf f.type)) a := by
  obtain ⟨xs, n, _, hx, hl, hlen, hf⟩ := DataW.trod_struct ht h
  refine ⟨hl, fun i f hi α is ho => ?_⟩
  have h1 := hf i f hi
  have hlt : i < xs.length := by rw [hlen]; exact (Array.getElem?_eq_some_iff.1 hi).1
  rw [List.getElem?_eq_getElem hlt] at h1
  rw [hx] at hm
  exact ho n _ _ h1 (M.strct ht hm i f _ hi (by rw [List.getElem?_map, List.getElem?_eq_getElem hlt]; rfl))
/-- at the top: a struct by value -/
theorem topM_agg {t : TypeId} {fs : Array Field} (ht : P.underlying t = some (.struct fs)) {base : Nat} {v : Value} {d : DataW H} {ps : List MemPlace} (hv : Value.okWide P W .any base t v) (h : DataW.Trod enc0 P W 0 (fun _ => true) true t v d ps) {α : Type} {is : List Value → α → Prop} (ho : OpensM M enc0 W t is) (hm : M.ok t d) : ∃ cs a, v = .agg cs ∧ is cs.toList a := by
  obtain ⟨cs, fuel, rfl, hf⟩ := top_agg ht hv h
  obtain ⟨a, ha⟩ := ho fuel cs.toList _ hf hm
  exact ⟨cs, a, rfl, ha⟩
end
/-- a slice of elements whose cells are told by a function -/
theorem SlX.flat {α : Type} {W : World} {is : List Value → α → Prop} {f : α → List Value} {c : Nat} {v : Value} {l : List α} (h : SlX W is c v l) (hc : ∀ a, (f a).length = c) (hc0 : 0 < c) (hf : ∀ cs a, is cs a → cs = f a) : Sl W v l.length (l.flatMap f) := by
  obtain ⟨base, cap, h1, h2, h3, h4⟩ := h
  refine ⟨base, cap, h1, h2, h3, fun h0 => ?_⟩
  obtain ⟨b, off, h5, h6⟩ := h4 h0
  refine ⟨b, off, h5, fun j u hj => ?_⟩
  have hjl := (List.getElem?_eq_some_iff.1 hj).1
  rw [flatMap_len hc] at hjl
  have hi : j / c < l.length := (Nat.div_lt_iff_lt_mul hc0).2 hjl
  have hmod := Nat.mod_lt j hc0
  have hdm : j / c * c + j % c = j := by rw [Nat.mul_comm]; exact Nat.div_add_mod j c
  obtain ⟨cs, h7, h8⟩ := h6 (j / c) hi
  rw [hf _ _ h7] at h8
  have h9 := flatMap_get hc l (j / c) (j % c) l[j / c] (List.getElem?_eq_getElem hi) hmod
  rw [hdm] at h9
  rw [h9] at hj
  have := h8 (j % c) u hj
  rw [Nat.add_assoc, hdm] at this
  exact this
end Go.Proofs.YtakiohldgcifeaaDoor.eng

/- Shp -/
namespace Go.Proofs.YtakiohldgcifeaaDoor.eng
open Go.RowKit kit mix
/-- how a datum reads, all of its blocks being in F -/
structure Shp (α : Type) where
  c : Nat
  is : (Nat → Prop) → World → List Value → α → Prop
  len : ∀ {F w cs a}, is F w cs a → cs.length = c
  stay : ∀ {F w w' cs a}, is F w cs a → (∀ k, F k → w'.heap[k]? = w.heap[k]?) → is F w' cs a
  mono : ∀ {F F' w cs a}, is F w cs a → (∀ k, F k → F' k) → is F' w cs a
theorem rd_stay {w w' : World} {b off : Nat} {cs : List Value} (h : Rd w b off cs) (hk : w'.heap[b]? = w.heap[b]?) : Rd w' b off cs := fun j u hj => by
  rw [World.cell?_of_block (w := w) (a := ⟨b, off + j, none⟩) hk]; exact h j u hj
/-- a slice -/
def SlF {α : Type} (s : Shp α) (F : Nat → Prop) (w : World) (v : Value) (l : List α) : Prop :=
  ∃ base cap, v = .slice base l.length cap ∧ l.length ≤ cap ∧ cap ≤ maxLen ∧ (0 < l.length → ∃ b off, base = some ⟨b, off, none⟩ ∧ F b ∧ ∀ i (h : i < l.length), ∃ cs, s.is F w cs l[i] ∧ Rd w b (off + i * s.c) cs)
section
variable {α β : Type} {s : Shp α} {F F' : Nat → Prop} {w w' : World} {v : Value} {l : List α}
theorem SlF.stay (h : SlF s F w v l) (hk : ∀ k, F k → w'.heap[k]? = w.heap[k]?) : SlF s F w' v l :=
  let ⟨base, cap, h1, h2, h3, h4⟩ := h
  ⟨base, cap, h1, h2, h3, fun h0 => let ⟨b, off, h5, h6, h7⟩ := h4 h0; ⟨b, off, h5, h6, fun i hi => let ⟨cs, h8, h9⟩ := h7 i hi; ⟨cs, s.stay h8 hk, rd_stay h9 (hk b h6)⟩⟩⟩
theorem SlF.mono (h : SlF s F w v l) (hk : ∀ k, F k → F' k) : SlF s F' w v l :=
  let ⟨base, cap, h1, h2, h3, h4⟩ := h
  ⟨base, cap, h1, h2, h3, fun h0 => let ⟨b, off, h5, h6, h7⟩ := h4 h0; ⟨b, off, h5, hk b h6, fun i hi => let ⟨cs, h8, h9⟩ := h7 i hi; ⟨cs, s.mono h8 hk, h9⟩⟩⟩
theorem SlF.nil : SlF s F w (.slice none 0 0) [] := ⟨none, 0, rfl, Nat.le_refl _, by decide, fun h => by simp at h⟩
/-- cells that a function tells -/
def flatS (f : α → List Value) (c : Nat) (hc : ∀ a, (f a).length = c) (p : α → Prop) : Shp α :=
  ⟨c, fun _ _ cs a => cs = f a ∧ p a, fun h => by rw [h.1, hc], fun h _ => h, fun h _ => h⟩
def strS : Shp (List UInt8) := flatS (fun s => [str s]) 1 (fun _ => rfl) (fun s => s.length ≤ 9223372036854775807)
def sliceS (s : Shp α) : Shp (List α) :=
  ⟨1, fun F w cs l => ∃ v, cs = [v] ∧ SlF s F w v l, fun ⟨_, h, _⟩ => by rw [h]; rfl, fun ⟨v, h1, h2⟩ hk => ⟨v, h1, h2.stay hk⟩, fun ⟨v, h1, h2⟩ hk => ⟨v, h1, h2.mono hk⟩⟩
/-- one behind the other -/
def pairS (s : Shp α) (t : Shp β) : Shp (α × β) :=
  ⟨s.c + t.c, fun F w cs x => ∃ c1 c2, cs = c1 ++ c2 ∧ s.is F w c1 x.1 ∧ t.is F w c2 x.2, fun ⟨_, _, h, h1, h2⟩ => by rw [h, List.length_append, s.len h1, t.len h2],
    fun ⟨c1, c2, h, h1, h2⟩ hk => ⟨c1, c2, h, s.stay h1 hk, t.stay h2 hk⟩, fun ⟨c1, c2, h, h1, h2⟩ hk => ⟨c1, c2, h, s.mono h1 hk, t.mono h2 hk⟩⟩
/-- a slice of flat elements -/
theorem SlF.flat {f : α → List Value} {c : Nat} {hc : ∀ a, (f a).length = c} {p : α → Prop} (hc0 : 0 < c) (h : SlF (flatS f c hc p) F w v l) : Sl w v l.length (l.flatMap f) := by
  obtain ⟨base, cap, h1, h2, h3, h4⟩ := h
  have hx : SlX w (fun cs a => cs = f a) c v l := ⟨base, cap, h1, h2, h3, fun h0 => let ⟨b, off, h5, _, h7⟩ := h4 h0; ⟨b, off, h5, fun i hi => let ⟨cs, h8, h9⟩ := h7 i hi; ⟨cs, h8.1, h9⟩⟩⟩
  exact hx.flat hc hc0 fun cs a h => h
theorem SlF.okp {f : α → List Value} {c : Nat} {hc : ∀ a, (f a).length = c} {p : α → Prop} (h : SlF (flatS f c hc p) F w v l) : ∀ a ∈ l, p a := fun a ha => by
  obtain ⟨i, hi, rfl⟩ := List.mem_iff_getElem.1 ha
  obtain ⟨base, cap, h1, h2, h3, h4⟩ := h
  obtain ⟨b, off, _, _, h7⟩ := h4 (by omega)
  obtain ⟨cs, h8, _⟩ := h7 i hi
  exact h8.2
theorem SlF.of_flat {f : α → List Value} {c : Nat} {hc : ∀ a, (f a).length = c} {p : α → Prop} (h : Sl w v l.length (l.flatMap f)) (hp : ∀ a ∈ l, p a) (_ : ∀ b, v.ownBlock = some b → F b) (hF2 : ∀ a n cp, v = .slice (some a) n cp → F a.block) : SlF (flatS f c hc p) F w v l := by
  obtain ⟨base, cap, h1, h2, h3, h4⟩ := h
  refine ⟨base, cap, h1, h2, h3, fun h0 => ?_⟩
  obtain ⟨b, off, h5, h6⟩ := h4 h0
  refine ⟨b, off, h5, hF2 ⟨b, off, none⟩ l.length cap (by rw [h1, h5]), fun i hi => ⟨f l[i], ⟨rfl, hp _ (List.getElem_mem hi)⟩, fun j u hj => ?_⟩⟩
  have hjc : j < c := by rw [← hc l[i]]; exact (List.getElem?_eq_some_iff.1 hj).1
  have := h6 (i * c + j) u (by rw [get_el hc l i j hi hjc]; exact hj)
  rw [Nat.add_assoc]
  exact this
/-- owned whole -/
def shpO (s : Shp α) (F : Nat → Prop) (cs : List Value) (a : α) : Own :=
  ⟨none, F, fun w => s.is F w cs a ∧ ∀ k, F k → k < w.heap.size, fun w h k hk => h.2 k (hk.elim (fun h => by cases h) id), fun w w' h hs hb => ⟨s.stay h.1 fun k hk => hb k (.inr hk), fun k hk => Nat.lt_of_lt_of_le (h.2 k hk) hs⟩⟩
/-- elements, their cells lying elsewhere -/
def elsO (s : Shp α) (F : Nat → Prop) (css : List (List Value)) (l : List α) : Own :=
  ⟨none, F, fun w => (css.length = l.length ∧ ∀ i (h : i < l.length) (h' : i < css.length), s.is F w css[i] l[i]) ∧ ∀ k, F k → k < w.heap.size, fun w h k hk => h.2 k (hk.elim (fun h => by cases h) id),
    fun w w' h hs hb => ⟨⟨h.1.1, fun i hi hi' => s.stay (h.1.2 i hi hi') fun k hk => hb k (.inr hk)⟩, fun k hk => Nat.lt_of_lt_of_le (h.2 k hk) hs⟩⟩
end
def Or1 (F : Nat → Prop) (v : Value) : Nat → Prop := fun k => F k ∨ v.ownBlock = some k
theorem flatten_get {c : Nat} : ∀ (css : List (List Value)) (_ : ∀ x ∈ css, x.length = c) (i j : Nat) (h : i < css.length), j < c → css.flatten[i * c + j]? = css[i][j]?
  | x :: r, hc, 0, j, h, hj => by
    rw [List.flatten_cons, List.getElem?_append_left (by rw [hc x (by simp)]; omega)]; simp
  | x :: r, hc, i + 1, j, h, hj => by
    have hx := hc x (by simp)
    have ih := flatten_get r (fun y hy => hc y (by simp [hy])) i j (by simpa using h) hj
    rw [List.flatten_cons, List.getElem?_append_right (by rw [hx, Nat.succ_mul]; omega), hx]
    simp only [List.getElem_cons_succ]
    rw [← ih, Nat.succ_mul]
    congr 1; omega
section
variable {α : Type} {s : Shp α} {F : Nat → Prop} {w : World} {v : Value} {l : List α}
/-- a row and its elements' own memory make a slice -/
theorem slf_of {e : TypeId} {css : List (List Value)} (hr : (rowO e s.c v l.length css.flatten).holds w) (he : (elsO s F css l).holds w) (_ : 0 < s.c) : SlF s (Or1 F v) w v l := by
  have hr : w.ownsRow 0 e s.c v l.length css.flatten := hr
  obtain ⟨⟨h1, h2⟩, h3⟩ := he
  have hlen : ∀ x ∈ css, x.length = s.c := fun x hx => by
    obtain ⟨i, hi, rfl⟩ := List.mem_iff_getElem.1 hx
    exact s.len (h2 i (by omega) hi)
  obtain ⟨base, cap, h4, h5, h6, h7⟩ := Sl.of_own hr
  refine ⟨base, cap, h4, h5, h6, fun h0 => ?_⟩
  have hb : ∃ g, v = .slice (some ⟨g, 0, none⟩) l.length cap ∧ v.ownBlock = some g := by
    rcases hr.2 with ⟨hv, h0'⟩ | ⟨g, cap', cur, hv, _⟩
    · omega
    · rw [h4] at hv
      simp only [Value.slice.injEq, true_and] at hv
      obtain ⟨rfl, rfl⟩ := hv
      exact ⟨g, h4, by rw [h4]; rfl⟩
  obtain ⟨g, hv, hg⟩ := hb
  rw [h4] at hv
  simp only [Value.slice.injEq, and_true] at hv
  subst hv
  obtain ⟨b, off, h8, h9⟩ := h7 h0
  simp only [Option.some.injEq, Addr.mk.injEq, and_true] at h8
  obtain ⟨rfl, rfl⟩ := h8
  refine ⟨g, 0, rfl, .inr hg, fun i hi => ⟨css[i]'(by omega), s.mono (h2 i hi (by omega)) fun k hk => .inl hk, fun j u hj => ?_⟩⟩
  have hjc : j < s.c := by rw [← hlen (css[i]'(by omega)) (List.getElem_mem _)]; exact (List.getElem?_eq_some_iff.1 hj).1
  have := h9 (i * s.c + j) u (by rw [flatten_get css hlen i j (by omega) hjc]; exact hj)
  rw [Nat.add_assoc]
  exact this
theorem slO_lt {e : TypeId} {css : List (List Value)} {n c : Nat} (hr : (rowO e c v n css.flatten).holds w) (he : (elsO s F css l).holds w) : ∀ k, Or1 F v k → k < w.heap.size := fun k hk => hk.elim (he.2 k) fun h => ((rowO e c v n css.flatten).lt w hr k (.inl h))
/-- one element more -/
theorem els_snoc {F2 : Nat → Prop} {css : List (List Value)} {cs : List Value} {a : α} (he : (elsO s F css l).holds w) (hs : s.is F2 w cs a) (h2 : ∀ k, F2 k → k < w.heap.size) : (elsO s (fun k => F k ∨ F2 k) (css ++ [cs]) (l ++ [a])).holds w := by
  obtain ⟨⟨h1, h3⟩, h4⟩ := he
  refine ⟨⟨by simp [h1], fun i hi hi' => ?_⟩, fun k hk => hk.elim (h4 k) (h2 k)⟩
  by_cases c : i < l.length
  · rw [List.getElem_append_left (by omega), List.getElem_append_left c]
    exact s.mono (h3 i c (by omega)) fun k hk => .inl hk
  · have hi2 : i = l.length := by simp at hi; omega
    subst hi2
    rw [List.getElem_append_right (by omega), List.getElem_append_right (Nat.le_refl _)]
    simp only [h1, Nat.sub_self, List.getElem_cons_zero]
    exact s.mono hs fun k hk => .inr hk
theorem els_nil : (elsO s (fun _ => False) [] []).holds w := ⟨⟨rfl, fun i h => by simp at h⟩, fun k h => h.elim⟩
end
section
variable {P : Program} {n : Nat} {W : Base} {fr : Fr} {L : List Own} {Q : Exit → Act → World → Prop} {ops : Array Oper} {rest : List Oper} {d : Nat}
theorem Mem.merge2 {w : World} (o : Own) (i j : Nat) (js : List Nat) {o1 o2 : Own} {R : List Own} (h : Mem W L w) (hn : ([i, j] ++ js).Nodup) (h1 : L[i]? = some o1) (h2 : L[j]? = some o2) (hR : R = js.filterMap fun i => L[i]?) (hf : ∀ k, o.foot k → o1.foot k ∨ o2.foot k) (hh : ∀ w, o1.holds w → o2.holds w → o.holds w) : Mem W (R ++ [o]) w := by
  refine Mem.merge o (h.pick ([i, j] ++ js) hn ?_) hf (hh w)
  rw [List.filterMap_append, ← hR]
  congr 1
  rw [List.filterMap_cons_some (by exact h1), List.filterMap_cons_some (by exact h2)]; rfl
theorem TL_merge (o : Own) (i j : Nat) (js : List Nat) {o1 o2 : Own} {R : List Own} (hn : ([i, j] ++ js).Nodup) (h1 : L[i]? = some o1) (h2 : L[j]? = some o2) (hR : R = js.filterMap fun i => L[i]?) (hf : ∀ k, o.foot k → o1.foot k ∨ o2.foot k) (hh : ∀ w, o1.holds w → o2.holds w → o.holds w) (h : TL P n W ops Q rest fr (R ++ [o])) : TL P n W ops Q rest fr L := ⟨fun a w hr hm => h.go a w hr (hm.merge2 o i j js hn h1 h2 hR hf hh)⟩
theorem E_merge {e : Exit} (o : Own) (i j : Nat) (js : List Nat) {o1 o2 : Own} {R : List Own} (hn : ([i, j] ++ js).Nodup) (h1 : L[i]? = some o1) (h2 : L[j]? = some o2) (hR : R = js.filterMap fun i => L[i]?) (hf : ∀ k, o.foot k → o1.foot k ∨ o2.foot k) (hh : ∀ w, o1.holds w → o2.holds w → o.holds w) (h : E n W e Q fr (R ++ [o])) : E n W e Q fr L := ⟨fun a w hr hm => h.go a w hr (hm.merge2 o i j js hn h1 h2 hR hf hh)⟩
/-- what needs no memory -/
theorem Mem.extra {w : World} (o : Own) (h : Mem W L w) (hf : ∀ k, ¬ o.foot k) (hh : o.holds w) : Mem W (L ++ [o]) w :=
  h.append (Gr.refl w) (OwnsP.one hh fun k hk => absurd hk (hf k))
theorem T_extra {c : Code} (o : Own) (hf : ∀ k, ¬ o.foot k) (hh : ∀ w, o.holds w) (h : T P n W c Q fr (L ++ [o])) : T P n W c Q fr L := ⟨fun a w hr hm => h.go a w hr (hm.extra o hf (hh w))⟩
theorem TL_extra (o : Own) (hf : ∀ k, ¬ o.foot k) (hh : ∀ w, o.holds w) (h : TL P n W ops Q rest fr (L ++ [o])) : TL P n W ops Q rest fr L := ⟨fun a w hr hm => h.go a w hr (hm.extra o hf (hh w))⟩
theorem E_extra {e : Exit} (o : Own) (hf : ∀ k, ¬ o.foot k) (hh : ∀ w, o.holds w) (h : E n W e Q fr (L ++ [o])) : E n W e Q fr L := ⟨fun a w hr hm => h.go a w hr (hm.extra o hf (hh w))⟩
/-- a fact that what is owned tells -/
theorem TL_know {i : Nat} {o : Own} {φ : Prop} (hi : L[i]? = some o) (hφ : ∀ w, o.holds w → φ) (h : φ → TL P n W ops Q rest fr L) : TL P n W ops Q rest fr L := ⟨fun a w hr hm => (h (hφ w (hm.get hi))).go a w hr hm⟩
theorem T_know {c : Code} {i : Nat} {o : Own} {φ : Prop} (hi : L[i]? = some o) (hφ : ∀ w, o.holds w → φ) (h : φ → T P n W c Q fr L) : T P n W c Q fr L := ⟨fun a w hr hm => (h (hφ w (hm.get hi))).go a w hr hm⟩
end
end Go.Proofs.YtakiohldgcifeaaDoor.eng

/- Map -/
namespace Go.Proofs.YtakiohldgcifeaaDoor.eng
open Go.RowKit kit mix
open Go.WideMaps (KeyLaw)
def heldR (v : Value) : Option (DataW Value × List MemPlace) := some (.held v, [])
/-- keys of a map -/
structure KeyT (P : Program) (k : TypeId) (κ : Type) where
  kv : κ → Value
  ok : κ → Prop
  law : KeyLaw P k
  key : ∀ x, ok x → ∃ l, keyOf P k (kv x) = some l
  inj : ∀ x y, kv x = kv y → x = y
section
variable {P : Program} {k : TypeId} {κ : Type}
theorem KeyT.keyed (K : KeyT P k κ) : Maps.Keyed P k := Maps.Keyed.of_law K.law
variable (K : KeyT P k κ)
def MapIs (D : DataW Value) (m : κ → Option Value) (n : Nat) : Prop :=
  Maps.size D = n ∧ ∀ x l, K.ok x → keyOf P k (K.kv x) = some l → match m x with | some v => Maps.has D l = true ∧ (∀ z, D.atKey l z = .held v) | none => Maps.has D l = false
def mapO (g : Nat) (m : κ → Option Value) (n : Nat) : Own :=
  ⟨some g, fun _ => False, fun w => ∃ D, w.ownsMap P k heldR g n D ∧ MapIs K D m n, fun w ⟨D, h, _⟩ q hq => by simp only [Option.some.injEq, or_false] at hq; subst hq; exact h.lt,
    fun w w' ⟨D, ⟨es, clock, hb, h⟩, h2⟩ _ hk => ⟨D, ⟨es, clock, (hk g (.inl rfl)).trans hb, h⟩, h2⟩⟩
theorem map_tight {w : World} {R : Value → Option (DataW Value × List MemPlace)} {b n : Nat} {D : DataW Value} (h : w.ownsMap P k R b n D) : w.ownsMap P k R b (Maps.size D) D := by
  obtain ⟨es, clock, hb, F, hs, rfl⟩ := h
  exact ⟨es, clock, hb, F, by simp [Maps.size, length_sorted], rfl⟩
theorem mapIs_nil : MapIs K (.map []) (fun _ => none) 0 := ⟨rfl, fun _ _ _ _ => rfl⟩
theorem mapIs_put [DecidableEq κ] {w : World} {g n : Nat} {D : DataW Value} {m : κ → Option Value} (ho : w.ownsMap P k heldR g n D) (h : MapIs K D m n) {x : κ} {l : Lit} (hx : K.ok x) (hl : keyOf P k (K.kv x) = some l) (v : Value) :
    MapIs K (D.put l (.held v)) (fun y => if y = x then some v else m y) (if (m x).isSome then n else n + 1) := by
  have hk := K.keyed.key hl
  have ht := ho.tidy K.keyed
  refine ⟨?_, fun y l' hy hl' => ?_⟩
  · have h2 := h.2 x l hx hl
    rw [Maps.size_put ht]
    cases e : m x with
    | none => rw [e] at h2; rw [h2]; simp [h.1]
    | some u => rw [e] at h2; rw [h2.1]; simp [h.1]
  · by_cases e : y = x
    · subst e
      rw [hl] at hl'
      simp only [Option.some.injEq] at hl'; subst hl'
      simp only [if_true]
      exact ⟨Maps.has_put_same ht.isMap hk _, fun z => Maps.atKey_put_same ht.isMap hk _ _⟩
    · have hne : l' ≠ l := fun e' => e (K.inj _ _ (K.keyed.inj (by rw [← e']; exact hl') hl))
      simp only [if_neg e]
      have h2 := h.2 y l' hy hl'
      rw [Maps.has_put_other hne]
      cases e2 : m y with
      | none => rw [e2] at h2; exact h2
      | some u => rw [e2] at h2; exact ⟨h2.1, fun z => by rw [Maps.atKey_put_other hne]; exact h2.2 z⟩
theorem look_of {D : DataW Value} {m : κ → Option Value} {n : Nat} (h : MapIs K D m n) {x : κ} {l : Lit} (hx : K.ok x) (hl : keyOf P k (K.kv x) = some l) (z : Value) : D.atKey l (.held z) = .held ((m x).getD z) ∧ Maps.has D l = (m x).isSome := by
  have h2 := h.2 x l hx hl
  cases e : m x with
  | none => rw [e] at h2; exact ⟨Maps.atKey_of_not_has h2 _, h2⟩
  | some u => rw [e] at h2; exact ⟨h2.2 _, h2.1⟩
section
variable {W : Base} {fr : Fr} {L : List Own} {Q : Exit → Act → World → Prop} {ops : Array Oper} {rest : List Oper} {n d : Nat} {dst : Option Tmp} {ty : TypeId} {pos : String} {after : Array Edge} {guard : Option (Nat × Bool)} {i g c : Nat} {t e : TypeId} {m : κ → Option Value} {x : κ} {z : Value} {xm xk xv : Operand}
theorem rr_lookOk (ht : P.underlying t = some (.map k e)) (hz : ∀ w, (zeroValue e).run P w = .ok z w) (hi : L[i]? = some (mapO K g m c)) (hm : ev fr xm = some (.map (some g))) (hk : ev fr xk = some (K.kv x)) (hx : K.ok x) : RR P n W ⟨dst, .lookup t xm xk true, ty, pos, after, guard⟩ fr L (.tuple #[(m x).getD z, .bool (m x).isSome]) := .mk fun a w hr hw => by
  obtain ⟨D, ho, h⟩ := hw.get hi
  obtain ⟨l, hl⟩ := K.key x hx
  obtain ⟨v, ps, hrun, hv⟩ := ho.look_ok K.keyed ht (hz w) (zd := .held z) (zp := []) rfl hl
  have h2 := look_of K h hx hl z
  simp only [heldR, Option.some.injEq, Prod.mk.injEq] at hv
  rw [h2.1] at hv
  rw [h2.2] at hrun
  have hv1 : v = (m x).getD z := by simpa using hv.1
  subst hv1
  simp [execOp, hr.ev hm, hr.ev hk, hrun, Result.andThen]
theorem TL_map (hn : Nat.blt d n = true) (h : ∀ g, TL P n W ops Q rest ((d, .map (some g)) :: fr) (L ++ [mapO K g (fun _ => none) 0])) :
    TL P n W ops Q (⟨some d, .makeMap t none, ty, pos, after, none⟩ :: rest) fr L := TL_any rfl fun a w hr hm KK hK => by
  have e1 : (execOp a.eval ⟨some d, .makeMap t none, ty, pos, after, none⟩).run P w = .ok (.value (.map (some w.heap.size))) (w.alloc (.map #[] 0)) := by
    simp [execOp, run_makeMap, Result.andThen]
  unfold Oper.wp; rw [e1]
  exact hK _ _ ((h w.heap.size).go _ _ (hr.put hn _) (hm.append (gr_alloc w _) (Owns.one ⟨.map [], World.ownsMap_made w P k heldR, mapIs_nil K⟩ fun q hq => by simp only [mapO, Option.some.injEq] at hq; omega)))
theorem map_put [DecidableEq κ] {w : World} (ht : P.underlying t = some (.map k e)) (h : (mapO K g m c).holds w) (hx : K.ok x) (hc : c ≤ 1152921504606846976) (v : Value) :
    ∃ w', (Instr.mapUpdate t (.map (some g)) (K.kv x) v).run P w = .ok () w' ∧ (mapO K g (fun y => if y = x then some v else m y) (if (m x).isSome then c else c + 1)).holds w' ∧ w.grownBy w' (some g) := by
  obtain ⟨D, ho, h⟩ := h
  obtain ⟨l, hl⟩ := K.key x hx
  obtain ⟨w', hrun, ho', hg⟩ := ho.update K.keyed ht (by unfold maxLen; omega) (val := v) (d := .held v) (ps := []) hl rfl
  have hp := mapIs_put K ho h hx hl v
  exact ⟨w', hrun, ⟨_, by have := map_tight ho'; rwa [hp.1] at this, hp⟩, hg⟩
theorem TL_mapSet [DecidableEq κ] {v : Value} (ht : P.underlying t = some (.map k e)) (hi : L[i]? = some (mapO K g m c)) (hm : ev fr xm = some (.map (some g))) (hk : ev fr xk = some (K.kv x)) (hv : ev fr xv = some v) (hx : K.ok x) (hc : c ≤ 1152921504606846976)
    (h : TL P n W ops Q rest fr (L.set i (mapO K g (fun y => if y = x then some v else m y) (if (m x).isSome then c else c + 1)))) :
    TL P n W ops Q (⟨none, .mapUpdate t xm xk xv, ty, pos, after, none⟩ :: rest) fr L := TL_any rfl fun a w hr hw KK hK => by
  obtain ⟨w', hrun, ho', hg⟩ := map_put K ht (hw.get hi) hx hc v
  have e1 : (execOp a.eval ⟨none, .mapUpdate t xm xk xv, ty, pos, after, none⟩).run P w = .ok .skip w' := by
    simp [execOp, hr.ev hm, hr.ev hk, hr.ev hv, hrun, Result.andThen]
  unfold Oper.wp; rw [e1]
  exact hK _ _ (h.go _ _ (hr.put_none undef) (hw.turn hi hg ho' fun q hq => .inl hq))
end
section
end
end
end Go.Proofs.YtakiohldgcifeaaDoor.eng
namespace Go.Proofs.YtakiohldgcifeaaDoor.eng
open Go.RowKit kit mix
theorem rr_nilc {P : Program} {n : Nat} {W : Base} {fr : Fr} {L : List Own} {dst : Option Tmp} {ty : TypeId} {pos : String} {after : Array Edge} {guard : Option (Nat × Bool)} {x : Operand} {a : Addr} (hx : ev fr x = some (.pointer (some a))) : RR P n W ⟨dst, .nilCheck x, ty, pos, after, guard⟩ fr L (.pointer (some a)) := .mk fun act w hr _ => by
  simp [execOp, hr.ev hx]
end Go.Proofs.YtakiohldgcifeaaDoor.eng
namespace Go.Proofs.YtakiohldgcifeaaDoor.eng
open Go.RowKit kit mix
section
end
end Go.Proofs.YtakiohldgcifeaaDoor.eng
namespace Go.Proofs.YtakiohldgcifeaaDoor.eng
open Go.RowKit kit mix
section
end
end Go.Proofs.YtakiohldgcifeaaDoor.eng
namespace Go.Proofs.YtakiohldgcifeaaDoor.eng
open Go.RowKit kit mix
section
end
end Go.Proofs.YtakiohldgcifeaaDoor.eng

/- ClassB -/
namespace Go.Proofs.YtakiohldgcifeaaDoor
open Go.RowKit kit mix classL
attribute [local go_sem] and64 or64 xor64 not64
theorem cls_cells {w : World} {g : Nat} {x : C4} (h : Wr w g 0 (clsL x)) : w.cell? ⟨g, 0, none⟩ = some (v64 x.a) ∧ w.cell? ⟨g, 1, none⟩ = some (v64 x.b) ∧ w.cell? ⟨g, 2, none⟩ = some (v64 x.c) ∧ w.cell? ⟨g, 3, none⟩ = some (v64 x.d) :=
  ⟨(h 0 _ rfl).1, (h 1 _ rfl).1, (h 2 _ rfl).1, (h 3 _ rfl).1⟩
theorem cls_block {w : World} {g : Nat} {x : C4} {T : TypeId} (h : w.heap[g]? = some (.cells #[.int .u64 (n64 x.a), .int .u64 (n64 x.b), .int .u64 (n64 x.c), .int .u64 (n64 x.d)] T (0, 0))) : Wr w g 0 (clsL x) := fun j u hj => by
  rw [Nat.zero_add, cell_of_row w g j _ T (0, 0) h]
  exact ⟨by simpa [clsL] using hj, frozen_of_row w g j _ T h⟩
/-- three classes laid one behind the other -/
theorem box_cls {w : World} {B : Nat} (hB : w.heap.size = B) (x : C4) (T : TypeId) : Wr (w.alloc (.cells #[.int .u64 (n64 x.a), .int .u64 (n64 x.b), .int .u64 (n64 x.c), .int .u64 (n64 x.d)] T)) B 0 (clsL x) :=
  cls_block (blk_new w _ B hB)
theorem gr_alloc (w : World) (o : Obj) : Below w.heap.size w (w.alloc o) := (Below.refl _ _).alloc (Nat.le_refl _) _
theorem cls_at {w : World} {g : Nat} {x : C4} (h : Wr w g 0 (clsL x)) (i : Nat) (hi : i < 4) : w.cell? ⟨g, i, none⟩ = some (.int .u64 (n64 (x.get i))) ∧ w.frozen? ⟨g, i, none⟩ = false := by
  have := h i _ (clsL_get x i hi)
  rw [Nat.zero_add] at this
  exact this
theorem cls_store {w : World} {g : Nat} {x : C4} (h : Wr w g 0 (clsL x)) (i : Nat) (hi : i < 4) (v : BitVec 64) : Wr (w.setCell ⟨g, i, none⟩ (.int .u64 (n64 v))) g 0 (clsL (x.set i v)) := by
  have := h.set i (by simp [clsL]; omega) (v64 v)
  rw [Nat.zero_add, clsL_set x i hi v] at this
  exact this
set_option maxHeartbeats 2000000 in
theorem range_calls (lo hi : Int) (w : World) (h1 : okI64 lo) (h2 : okI64 hi) :
    Calls Tryd.prog 31 #[.int .i64 lo, .int .i64 hi] w fun e w' => e = .returned (clsV (rangeF lo hi)) ∧ Below w.heap.size w w' := by
  obtain ⟨l1, l2⟩ := h1
  obtain ⟨m1, m2⟩ := h2
  unfold clsV
  have hstart : Below w.heap.size w ((w.alloc (.cells #[.int .u64 0, .int .u64 0, .int .u64 0, .int .u64 0] 36)).alloc (.cells #[.int .u64 0, .int .u64 0, .int .u64 0, .int .u64 0] 36)) ∧ Wr ((w.alloc (.cells #[.int .u64 0, .int .u64 0, .int .u64 0, .int .u64 0] 36)).alloc (.cells #[.int .u64 0, .int .u64 0, .int .u64 0, .int .u64 0] 36)) w.heap.size 0 (clsL C4.zero) ∧ Wr ((w.alloc (.cells #[.int .u64 0, .int .u64 0, .int .u64 0, .int .u64 0] 36)).alloc (.cells #[.int .u64 0, .int .u64 0, .int .u64 0, .int .u64 0] 36)) (w.heap.size + 1) 0 (clsL C4.zero) :=
    ⟨(((Below.refl _ _).alloc (Nat.le_refl _) _).alloc (by simp) _), ((box_cls rfl C4.zero _).gr (gr_alloc _ _)), (box_cls (by simp) C4.zero _)⟩
  obtain ⟨B, hB⟩ : ∃ B, B = w.heap.size := ⟨_, rfl⟩
  rw [← hB] at hstart
  go_enter Tryd.func31, Tryd.ntmps31
  go_upto_region 2 with (fail)
  rw [← hB]
  have hBle : w.heap.size ≤ B := by omega
  have hBge : B ≤ w.heap.size := by omega
  clear hB
  go_cut [6] (fun s6 w' => w' = ((w.alloc (.cells #[.int .u64 0, .int .u64 0, .int .u64 0, .int .u64 0] 36)).alloc (.cells #[.int .u64 0, .int .u64 0, .int .u64 0, .int .u64 0] 36)) ∧ s6 = .int .i64 (max lo 0))
  case first =>
    go_wp2
    all_goals
      go_meet
      case rel => exact ⟨rfl, by congr 1 <;> omega⟩
  case rest =>
    obtain ⟨rfl, rfl⟩ := hcut
    obtain ⟨b0, hb0⟩ : ∃ b0 : Nat, (b0 : Int) = max lo 0 := ⟨(max lo 0).toNat, by omega⟩
    have hF : rangeF lo hi = C4.bitsFrom C4.zero b0 (min hi 255 + 1 - b0).toNat := by unfold rangeF; rw [← hb0]; rfl
    have HF := Lib.hid hF
    rw [← hb0]
    clear hF hb0
    obtain ⟨hs1, hs2, hs3⟩ := hstart
    obtain ⟨N, hN⟩ : ∃ N, N = (min hi 255 + 1 - b0).toNat := ⟨_, rfl⟩
    have HN := Lib.hid hN
    have hN1 : 0 < N → (b0 : Int) + N = min hi 255 + 1 := fun h => by omega
    have hN0 : N = 0 → min hi 255 < (b0 : Int) := fun h => by omega
    have hN2 : N = 0 ∨ b0 + N ≤ 256 := by omega
    clear hN
    rcases (show 255 < hi ∨ hi ≤ 255 by omega) with hh | hh
    all_goals
      go_wp2_with fail
      go_loopg [6] N (fun g c wr => ∃ i : Nat, i + g = N ∧ c = .int .i64 ((b0 + i : Nat) : Int) ∧ Below B w wr ∧ Wr wr B 0 (clsL C4.zero) ∧ Wr wr (B + 1) 0 (clsL (C4.bitsFrom C4.zero b0 i)))
      case atStart => exact ⟨0, by omega, rfl, hs1, hs2, hs3⟩
      case round =>
        obtain ⟨i, hi', rfl, hb, hr, hx⟩ := hrel
        clear hs1 hs2 hs3
        by_cases hlt : i < N
        · have hbb : ((b0 + i : Nat) : Int) ≤ hi := by have := hN1 (by omega); omega
          have hb255 : b0 + i ≤ 255 := by omega
          have hstep := bit_step C4.zero b0 i
          generalize hbn : b0 + i = b at hbb hb255 hstep ⊢
          have h4 : b / 64 < 4 := by omega
          have cx : ∀ w', Up wr.drew w' → w'.cell? ⟨B + 1, b / 64, none⟩ = some (.int .u64 (n64 ((C4.bitsFrom C4.zero b0 i).get (b / 64)))) := fun w' hw => (cls_at ((hx.gr (Gr.drew _)).gr hw) (b / 64) h4).1
          have hand := i64_and63 b (by omega)
          have hsh := one_shl (b % 64) (Nat.mod_lt _ (by decide))
          have HS0 := Lib.hid hstep
          have HI := Lib.hid hi'
          clear hN1 hN0 hN2 hstep hi'
          go_wp2_with fail
          refine mix 9 (List.replicate 9 true) rfl (by kernel_rfl) (by kernel_rfl) (by intro c a d v w h; cases d <;> exact h) (Up wr.drew) (closed_up _) (Gr.refl _) ?_
          simp only [List.take_succ_cons, List.take_zero, List.drop_succ_cons, List.drop_zero, List.replicate]
          repeat(first|(refine wpM_val (by rfl) (fun w hSw => by go_simp; (try (simp only [↓IntWalk.iteOmega]; try go_simp)); (try go_bits);first|done|with_reducible rfl) ?_; simp only [Act.put, List.setIfInBounds_toArray, List.set_cons_zero, List.set_cons_succ])|(refine wpM_skip (by rfl) ?_; simp only [Act.put, List.setIfInBounds_toArray, List.set_cons_zero, List.set_cons_succ]))
          refine wpM_end fun w5 hw5 => ?_
          have hx5 := (hx.gr (Gr.drew _)).gr hw5
          have hr5 := (hr.gr (Gr.drew _)).gr hw5
          have hb5 : Below B w w5 := below_gr hb.drew (by have := hb.size; simp; omega) hw5
          obtain ⟨c1, c2⟩ := cls_at hx5 (b / 64) h4
          have hs := cls_store hx5 (b / 64) h4 ((C4.bitsFrom C4.zero b0 i).get (b / 64) ||| BitVec.ofNat 64 (2 ^ (b % 64)))
          have hf1 := hr5.far (a := ⟨B + 1, b / 64, none⟩) (by simp) (.int .u64 (n64 ((C4.bitsFrom C4.zero b0 i).get (b / 64) ||| BitVec.ofNat 64 (2 ^ (b % 64)))))
          have hbs := hb5.setCell (p := ⟨B + 1, b / 64, none⟩) (by simp) (.int .u64 (n64 ((C4.bitsFrom C4.zero b0 i).get (b / 64) ||| BitVec.ofNat 64 (2 ^ (b % 64)))))
          rw [HS0.out] at hs
          have HS := Lib.hid (And.intro hs (And.intro hf1 hbs))
          clear hs hf1 hbs hx5 hr5 hb5 cx hx hr hb hw5 hand hsh
          go_wp2_with fail
          have hi' := HI.out
          go_roundg (gk - 1)
          case measure => omega
          case rel => exact ⟨i + 1, by omega, by go_num, HS.out.2.2, HS.out.2.1, HS.out.1⟩
        · obtain rfl : i = N := by omega
          have hbig : min hi 255 < ((b0 + i : Nat) : Int) := by
            by_cases h0 : i = 0
            · have := hN0 h0; omega
            · have := hN1 (by omega); omega
          have hE : C4.bitsFrom C4.zero b0 i = rangeF lo hi := by rw [HF.out, ← HN.out]
          rw [hE] at hx
          obtain ⟨c0, c1, c2, c3⟩ := cls_cells hx
          obtain ⟨⟨r0, f0⟩, ⟨r1, f1⟩, ⟨r2, f2⟩, ⟨r3, f3⟩⟩ : _ ∧ _ ∧ _ ∧ _ := ⟨cls_at hr 0 (by decide), cls_at hr 1 (by decide), cls_at hr 2 (by decide), cls_at hr 3 (by decide)⟩
          clear hN1 hN0 hN2 hE
          generalize b0 + i = b at *
          have hbig' : ¬ (b : Int) ≤ min hi 255 := by omega
          go_wp2_with fail
          refine bodyPost_ret (v := .agg #[.int .u64 (n64 (rangeF lo hi).a), .int .u64 (n64 (rangeF lo hi).b), .int .u64 (n64 (rangeF lo hi).c), .int .u64 (n64 (rangeF lo hi).d)]) (by simp [results, Tryd.results31, go_sem, r0, r1, r2, r3]) rfl ⟨rfl, ?_⟩
          exact ((((hb.setCell (by simp) _).setCell (by simp) _).setCell (by simp) _).setCell (by simp) _).mono hBle
end Go.Proofs.YtakiohldgcifeaaDoor

/- Class -/
namespace Go.Proofs.YtakiohldgcifeaaDoor
open Go.RowKit kit mix classL
attribute [local go_sem] and64 or64 xor64 not64
set_option maxHeartbeats 2000000 in
theorem join_calls (x y : C4) (w : World) :
    Calls Tryd.prog 80 #[clsV x, clsV y] w fun e w' => e = .returned (clsV (x.join y)) ∧ Below w.heap.size w w' := by
  unfold clsV
  go_enter Tryd.func80, Tryd.ntmps80
  go_wp2_with fail
  obtain ⟨B, hB⟩ : ∃ B, B = w.heap.size := ⟨_, rfl⟩
  have hstart : ∀ (C : C4), Below B w (((w.alloc (.cells #[.int .u64 (n64 x.a), .int .u64 (n64 x.b), .int .u64 (n64 x.c), .int .u64 (n64 x.d)] 36)).alloc (.cells #[.int .u64 (n64 y.a), .int .u64 (n64 y.b), .int .u64 (n64 y.c), .int .u64 (n64 y.d)] 36)).alloc (.cells #[.int .u64 (n64 C.a), .int .u64 (n64 C.b), .int .u64 (n64 C.c), .int .u64 (n64 C.d)] 36)) ∧
      Wr (((w.alloc (.cells #[.int .u64 (n64 x.a), .int .u64 (n64 x.b), .int .u64 (n64 x.c), .int .u64 (n64 x.d)] 36)).alloc (.cells #[.int .u64 (n64 y.a), .int .u64 (n64 y.b), .int .u64 (n64 y.c), .int .u64 (n64 y.d)] 36)).alloc (.cells #[.int .u64 (n64 C.a), .int .u64 (n64 C.b), .int .u64 (n64 C.c), .int .u64 (n64 C.d)] 36)) B 0 (clsL x) ∧
      Wr (((w.alloc (.cells #[.int .u64 (n64 x.a), .int .u64 (n64 x.b), .int .u64 (n64 x.c), .int .u64 (n64 x.d)] 36)).alloc (.cells #[.int .u64 (n64 y.a), .int .u64 (n64 y.b), .int .u64 (n64 y.c), .int .u64 (n64 y.d)] 36)).alloc (.cells #[.int .u64 (n64 C.a), .int .u64 (n64 C.b), .int .u64 (n64 C.c), .int .u64 (n64 C.d)] 36)) (B + 1) 0 (clsL y) ∧
      Wr (((w.alloc (.cells #[.int .u64 (n64 x.a), .int .u64 (n64 x.b), .int .u64 (n64 x.c), .int .u64 (n64 x.d)] 36)).alloc (.cells #[.int .u64 (n64 y.a), .int .u64 (n64 y.b), .int .u64 (n64 y.c), .int .u64 (n64 y.d)] 36)).alloc (.cells #[.int .u64 (n64 C.a), .int .u64 (n64 C.b), .int .u64 (n64 C.c), .int .u64 (n64 C.d)] 36)) (B + 1 + 1) 0 (clsL C) := fun C => by
    subst hB
    exact ⟨((((Below.refl _ _).alloc (Nat.le_refl _) _).alloc (by simp) _).alloc (by simp; omega) _), ((box_cls rfl x _).gr (gr_alloc _ _)).gr (gr_alloc _ _), (box_cls (by simp) y _).gr (gr_alloc _ _), box_cls (by simp) C _⟩
  rw [← hB]
  have hBle : w.heap.size ≤ B := by omega
  have hBge : B ≤ w.heap.size := by omega
  clear hB
  go_loopg [6] 4 (fun g c wr => ∃ i : Nat, i + g = 4 ∧ c = .int .i64 i ∧ Below B w wr ∧ Wr wr B 0 (clsL (x.upto (x.join y) i)) ∧ Wr wr (B + 1) 0 (clsL y) ∧ Wr wr (B + 1 + 1) 0 (clsL C4.zero))
  case atStart => exact ⟨0, by omega, rfl, hstart C4.zero⟩
  case round =>
    obtain ⟨i, hi, rfl, hb, hx, hy, hr⟩ := hrel
    clear hstart
    by_cases h4 : i < 4
    · have cx : ∀ w', Up wr.drew w' → w'.cell? ⟨B, i, none⟩ = some (.int .u64 (n64 (x.get i))) := fun w' hw => by
        have := (cls_at ((hx.gr (Gr.drew _)).gr hw) i h4).1; rwa [upto_get _ _ _ h4] at this
      have cy : ∀ w', Up wr.drew w' → w'.cell? ⟨B + 1, i, none⟩ = some (.int .u64 (n64 (y.get i))) := fun w' hw => (cls_at ((hy.gr (Gr.drew _)).gr hw) i h4).1
      go_wp2_with fail
      refine mix 8 (List.replicate 8 true) rfl (by kernel_rfl) (by kernel_rfl) (by intro c a d v w h; cases d <;> exact h) (Up wr.drew) (closed_up _) (Gr.refl _) ?_
      simp only [List.take_succ_cons, List.take_zero, List.drop_succ_cons, List.drop_zero, List.replicate]
      repeat(first|(refine wpM_val (by rfl) (fun w hSw => by go_simp; (try (simp only [↓IntWalk.iteOmega]; try go_simp)); (try go_bits);first|done|with_reducible rfl) ?_; simp only [Act.put, List.setIfInBounds_toArray, List.set_cons_zero, List.set_cons_succ])|(refine wpM_skip (by rfl) ?_; simp only [Act.put, List.setIfInBounds_toArray, List.set_cons_zero, List.set_cons_succ]))
      refine wpM_end fun w5 hw5 => ?_
      have hx5 := (hx.gr (Gr.drew _)).gr hw5
      have hy5 := (hy.gr (Gr.drew _)).gr hw5
      have hr5 := (hr.gr (Gr.drew _)).gr hw5
      have hb5 : Below B w w5 := below_gr hb.drew (by have := hb.size; simp; omega) hw5
      obtain ⟨c1, c2⟩ := cls_at hx5 i h4
      have hs := cls_store hx5 i h4 (x.get i ||| y.get i)
      have hf1 := hy5.far (a := ⟨B, i, none⟩) (by simp) (.int .u64 (n64 (x.get i ||| y.get i)))
      have hf2 := hr5.far (a := ⟨B, i, none⟩) (by simp; omega) (.int .u64 (n64 (x.get i ||| y.get i)))
      have hbs := hb5.setCell (p := ⟨B, i, none⟩) (by simp) (.int .u64 (n64 (x.get i ||| y.get i)))
      rw [← join_get, upto_set _ _ _ h4, join_get] at hs
      have HS := Lib.hid (And.intro hs (And.intro hf1 (And.intro hf2 hbs)))
      clear hs hf1 hf2 hbs hx5 hy5 hr5 hb5 cx cy hx hy hr hb hw5
      go_wp2_with fail
      go_roundg (gk - 1)
      case measure => omega
      case rel => exact ⟨i + 1, by omega, by go_num, HS.out.2.2.2, HS.out.1, HS.out.2.1, HS.out.2.2.1⟩
    · obtain rfl : i = 4 := by omega
      rw [upto_all] at hx
      obtain ⟨c0, c1, c2, c3⟩ := cls_cells hx
      obtain ⟨⟨r0, f0⟩, ⟨r1, f1⟩, ⟨r2, f2⟩, ⟨r3, f3⟩⟩ : _ ∧ _ ∧ _ ∧ _ := ⟨cls_at hr 0 (by decide), cls_at hr 1 (by decide), cls_at hr 2 (by decide), cls_at hr 3 (by decide)⟩
      go_wp2_with fail
      refine bodyPost_ret (v := .agg #[.int .u64 (n64 (x.join y).a), .int .u64 (n64 (x.join y).b), .int .u64 (n64 (x.join y).c), .int .u64 (n64 (x.join y).d)]) (by simp [results, Tryd.results80, go_sem, r0, r1, r2, r3]) rfl ⟨rfl, ?_⟩
      exact ((((hb.setCell (by simp; omega) _).setCell (by simp; omega) _).setCell (by simp; omega) _).setCell (by simp; omega) _).mono hBle
set_option maxHeartbeats 2000000 in
theorem not_calls (x : C4) (w : World) :
    Calls Tryd.prog 50 #[clsV x] w fun e w' => e = .returned (clsV x.not) ∧ Below w.heap.size w w' := by
  unfold clsV
  go_enter Tryd.func50, Tryd.ntmps50
  go_wp2_with fail
  obtain ⟨B, hB⟩ : ∃ B, B = w.heap.size := ⟨_, rfl⟩
  have hstart : ∀ (C : C4), Below B w ((w.alloc (.cells #[.int .u64 (n64 x.a), .int .u64 (n64 x.b), .int .u64 (n64 x.c), .int .u64 (n64 x.d)] 36)).alloc (.cells #[.int .u64 (n64 C.a), .int .u64 (n64 C.b), .int .u64 (n64 C.c), .int .u64 (n64 C.d)] 36)) ∧ Wr ((w.alloc (.cells #[.int .u64 (n64 x.a), .int .u64 (n64 x.b), .int .u64 (n64 x.c), .int .u64 (n64 x.d)] 36)).alloc (.cells #[.int .u64 (n64 C.a), .int .u64 (n64 C.b), .int .u64 (n64 C.c), .int .u64 (n64 C.d)] 36)) B 0 (clsL x) ∧ Wr ((w.alloc (.cells #[.int .u64 (n64 x.a), .int .u64 (n64 x.b), .int .u64 (n64 x.c), .int .u64 (n64 x.d)] 36)).alloc (.cells #[.int .u64 (n64 C.a), .int .u64 (n64 C.b), .int .u64 (n64 C.c), .int .u64 (n64 C.d)] 36)) (B + 1) 0 (clsL C) := fun C => by
    subst hB
    exact ⟨(((Below.refl _ _).alloc (Nat.le_refl _) _).alloc (by simp) _), ((box_cls rfl x _).gr (gr_alloc _ _)), (box_cls (by simp) C _)⟩
  rw [← hB]
  have hBle : w.heap.size ≤ B := by omega
  have hBge : B ≤ w.heap.size := by omega
  clear hB
  go_loopg [4] 4 (fun g c wr => ∃ i : Nat, i + g = 4 ∧ c = .int .i64 i ∧ Below B w wr ∧ Wr wr B 0 (clsL (x.upto x.not i)) ∧ Wr wr (B + 1) 0 (clsL C4.zero))
  case atStart => exact ⟨0, by omega, rfl, hstart C4.zero⟩
  case round =>
    obtain ⟨i, hi, rfl, hb, hx, hr⟩ := hrel
    clear hstart
    by_cases h4 : i < 4
    · obtain ⟨c1, c2⟩ := cls_at hx i h4
      rw [upto_get _ _ _ h4] at c1
      have hs := cls_store hx i h4 (~~~ x.get i)
      have hf2 := hr.far (a := ⟨B, i, none⟩) (by simp) (.int .u64 (n64 (~~~ x.get i)))
      have hbs := hb.setCell (p := ⟨B, i, none⟩) (by simp) (.int .u64 (n64 (~~~ x.get i)))
      rw [← not_get, upto_set _ _ _ h4, not_get] at hs
      have HS := Lib.hid (And.intro hs (And.intro hf2 hbs))
      clear hs hf2 hbs hx hr hb
      go_wp2_with fail
      go_roundg (gk - 1)
      case measure => omega
      case rel => exact ⟨i + 1, by omega, by go_num, HS.out.2.2, HS.out.1, HS.out.2.1⟩
    · obtain rfl : i = 4 := by omega
      rw [upto_all] at hx
      obtain ⟨c0, c1, c2, c3⟩ := cls_cells hx
      obtain ⟨⟨r0, f0⟩, ⟨r1, f1⟩, ⟨r2, f2⟩, ⟨r3, f3⟩⟩ : _ ∧ _ ∧ _ ∧ _ := ⟨cls_at hr 0 (by decide), cls_at hr 1 (by decide), cls_at hr 2 (by decide), cls_at hr 3 (by decide)⟩
      go_wp2_with fail
      refine bodyPost_ret (v := .agg #[.int .u64 (n64 x.not.a), .int .u64 (n64 x.not.b), .int .u64 (n64 x.not.c), .int .u64 (n64 x.not.d)]) (by simp [results, Tryd.results50, go_sem, r0, r1, r2, r3]) rfl ⟨rfl, ?_⟩
      exact ((((hb.setCell (by simp) _).setCell (by simp) _).setCell (by simp) _).setCell (by simp) _).mono hBle
end Go.Proofs.YtakiohldgcifeaaDoor


/- ClsRg -/
namespace Go.Proofs.YtakiohldgcifeaaDoor.classSets
open Go.RowKit kit mix classL eng
theorem rangeE (lo hi : Int) (h1 : okI64 lo) (h2 : okI64 hi) (w : World) : Calls Tryd.prog 31 #[.int .i64 lo, .int .i64 hi] w (Meets (ret (clsV (rangeF lo hi))) w) := (range_calls lo hi w h1 h2).mono fun e w' ⟨he, hb⟩ => meets_ret he hb
end Go.Proofs.YtakiohldgcifeaaDoor.classSets

/- ClassSetsE -/
namespace Go.Proofs.YtakiohldgcifeaaDoor.classSets
open Go.RowKit kit mix classL eng
theorem joinE (x y : C4) (w : World) : Calls Tryd.prog 80 #[clsV x, clsV y] w (Meets (ret (clsV (x.join y))) w) := (join_calls x y w).mono fun e w' ⟨he, hb⟩ => meets_ret he hb
theorem notE (x : C4) (w : World) : Calls Tryd.prog 50 #[clsV x] w (Meets (ret (clsV x.not)) w) := (not_calls x w).mono fun e w' ⟨he, hb⟩ => meets_ret he hb
end Go.Proofs.YtakiohldgcifeaaDoor.classSets


/- ClassN -/
namespace Go.Proofs.YtakiohldgcifeaaDoor.eng
open Go.RowKit kit mix classL
theorem sh1 {P : Program} (x : Nat) (w : World) : (Op.shift .shr .u64 (x : Int) .u64 1).run P w = .ok (.int .u64 ((x / 2 : Nat) : Int)) w := shrU x 1 64 .u64 .u64 rfl (by decide) w
theorem sh2 {P : Program} (x : Nat) (w : World) : (Op.shift .shr .u64 (x : Int) .u64 2).run P w = .ok (.int .u64 ((x / 4 : Nat) : Int)) w := shrU x 2 64 .u64 .u64 rfl (by decide) w
theorem sh4 {P : Program} (x : Nat) (w : World) : (Op.shift .shr .u64 (x : Int) .u64 4).run P w = .ok (.int .u64 ((x / 16 : Nat) : Int)) w := shrU x 4 64 .u64 .u64 rfl (by decide) w
theorem sh8' {P : Program} (x : Nat) (w : World) : (Op.shift .shr .u64 (x : Int) .u64 8).run P w = .ok (.int .u64 ((x / 256 : Nat) : Int)) w := shrU x 8 64 .u64 .u64 rfl (by decide) w
theorem sh16' {P : Program} (x : Nat) (w : World) : (Op.shift .shr .u64 (x : Int) .u64 16).run P w = .ok (.int .u64 ((x / 65536 : Nat) : Int)) w := shrU x 16 64 .u64 .u64 rfl (by decide) w
theorem sh32' {P : Program} (x : Nat) (w : World) : (Op.shift .shr .u64 (x : Int) .u64 32).run P w = .ok (.int .u64 ((x / 4294967296 : Nat) : Int)) w := shrU x 32 64 .u64 .u64 rfl (by decide) w
theorem wu64 {a b r : Nat} (h : a + b = r) (h2 : r < 18446744073709551616) : IntKind.u64.wrap ((a : Int) + (b : Int)) = (r : Int) := by rw [IntKind.wrap_u64]; omega
theorem and127 : ∀ x : Nat, x < 9223372036854775808 → bits .and .i64 (x : Int) 127 = ((x % 128 : Nat) : Int) := fun x h => by
  have e1 : BitVec.ofInt 64 (x : Int) = BitVec.ofNat 64 x := by simp
  have e2 : (BitVec.ofNat 64 x &&& 127#64).toNat = x % 128 := by
    rw [BitVec.toNat_and, BitVec.toNat_ofNat, Nat.mod_eq_of_lt (by omega : x < 2 ^ 64)]
    exact Nat.and_two_pow_sub_one_eq_mod x 7
  have e3 : bits .and .i64 (x : Int) 127 = IntKind.i64.wrap (((BitVec.ofNat 64 x &&& 127#64).toNat : Nat) : Int) := by
    unfold bits; simp only [IntKind.bits, e1]; rfl
  rw [e3, e2, IntKind.wrap_i64]
  omega
theorem ones_calls (x : Nat) (hx : x < 18446744073709551616) (w : World) : Calls Tryd.prog 62 #[.int .u64 (x : Int)] w (Meets (ret (.int .i64 (ones 64 x : Int))) w) := by
  refine enter (args := [.int .u64 (x : Int)]) (n := 35) Tryd.func62 rfl rfl rfl ?_
  obtain ⟨h1, h2, h2', h3, h4, h5, h6, h7⟩ := swar x hx
  have a1 := bits_and_u64_nat (x / 2) 6148914691236517205 (by omega) (by decide)
  have a1' := bits_and_u64_nat x 6148914691236517205 hx (by decide)
  have c1 := wu64 (a := x / 2 &&& 6148914691236517205) (b := x &&& 6148914691236517205) (r := s1 x) rfl h1
  repeat(first|refine QV QP ?_|refine QZ ?_|refine QV (rr_shr rfl rfl (sh1 x)) ?_|refine QV (rr_and rfl rfl a1) ?_|refine QV (rr_and rfl rfl a1') ?_|refine QV (rr_addw rfl rfl c1) ?_|refine QV (rr_shr rfl rfl (sh2 (s1 x))) ?_)
  clear a1 a1' c1
  generalize s1 x = x1 at *
  have a1 := bits_and_u64_nat (x1 / 4) 3689348814741910323 (by omega) (by decide)
  have a1' := bits_and_u64_nat x1 3689348814741910323 h1 (by decide)
  have c1 := wu64 (a := x1 / 4 &&& 3689348814741910323) (b := x1 &&& 3689348814741910323) (r := s2 x1) rfl (by omega)
  repeat(first|refine QV QP ?_|refine QZ ?_|refine QV (rr_and rfl rfl a1) ?_|refine QV (rr_and rfl rfl a1') ?_|refine QV (rr_addw rfl rfl c1) ?_|refine QV (rr_shr rfl rfl (sh4 (s2 x1))) ?_)
  clear a1 a1' c1
  generalize s2 x1 = x2 at *
  have c1 := wu64 (a := x2 / 16) (b := x2) rfl h2'
  have a1 : bits .and .u64 ((x2 / 16 + x2 : Nat) : Int) 1085102592571150095 = ((s3 x2 : Nat) : Int) := bits_and_u64_nat _ 1085102592571150095 h2' (by decide)
  repeat(first|refine QV QP ?_|refine QZ ?_|refine QV (rr_and rfl rfl a1) ?_|refine QV (rr_addw rfl rfl c1) ?_|refine QV (rr_shr rfl rfl (sh8' (s3 x2))) ?_)
  clear a1 c1
  generalize s3 x2 = x3 at *
  have c1 := wu64 (a := x3) (b := x3 / 256) (r := s4 x3) rfl (by omega)
  repeat(first|refine QV QP ?_|refine QZ ?_|refine QV (rr_addw rfl rfl c1) ?_|refine QV (rr_shr rfl rfl (sh16' (s4 x3))) ?_)
  clear c1
  generalize s4 x3 = x4 at *
  have c1 := wu64 (a := x4) (b := x4 / 65536) (r := s5 x4) rfl (by omega)
  repeat(first|refine QV QP ?_|refine QZ ?_|refine QV (rr_addw rfl rfl c1) ?_|refine QV (rr_shr rfl rfl (sh32' (s5 x4))) ?_)
  clear c1
  generalize s5 x4 = x5 at *
  have c1 := wu64 (a := x5) (b := x5 / 4294967296) (r := s6 x5) rfl (by omega)
  repeat(first|refine QV QP ?_|refine QZ ?_|refine QV (rr_addw rfl rfl c1) ?_|refine QV (rr_conv Und.eq Und.eq rfl (wrap_in (by omega) (by omega))) ?_|refine QV (rr_and rfl rfl (and127 _ h6)) ?_)
  rw [h7]
  exact E_ret1 rfl rfl fun w hm => hm.ret
/-- the table of the library -/
def tabC : List Value := Lib.deBruijn64tab.map fun (n : Nat) => .int .u8 (n : Int)
def TabW (w : World) : Prop := Rd w 1 0 tabC
theorem TabW.up {W w : World} {L : List Own} (h : TabW W) (hm : Mem W L w) : TabW w := fun j u hj => hm.cell (h j u hj)
theorem neg64 {x : Nat} (h0 : x ≠ 0) (hx : x < 18446744073709551616) : IntKind.u64.wrap (-(x : Int)) = ((18446744073709551616 - x : Nat) : Int) := by rw [IntKind.wrap_u64]; omega
theorem rr_neg {P : Program} {n : Nat} {W : Base} {fr : Fr} {L : List Own} {dst : Option Tmp} {t ty : TypeId} {pos : String} {after : Array Edge} {guard : Option (Nat × Bool)} {x : Operand} {k : IntKind} {m r : Int} (hx : ev fr x = some (.int k m)) (h : k.wrap (-m) = r) : RR P n W ⟨dst, .unOp .neg t x, ty, pos, after, guard⟩ fr L (.int k r) := .mk fun a w hr _ => by
  simp [execOp, hr.ev hx, Op.unary, Op.intArith, h]
theorem mulw {a b r : Nat} (h : a * b % 18446744073709551616 = r) : IntKind.u64.wrap ((a : Int) * (b : Int)) = (r : Int) := by
  rw [IntKind.wrap_u64, ← h, ← Int.natCast_mul]; omega
theorem rr_mulw {P : Program} {n : Nat} {W : Base} {fr : Fr} {L : List Own} {dst : Option Tmp} {t u ty : TypeId} {pos : String} {after : Array Edge} {guard : Option (Nat × Bool)} {x y : Operand} {k : IntKind} {m m' r : Int} (hx : ev fr x = some (.int k m)) (hy : ev fr y = some (.int k m')) (h : k.wrap (m * m') = r) : RR P n W ⟨dst, .binOp .mul t x y u, ty, pos, after, guard⟩ fr L (.int k r) := h ▸ rr_mul hx hy
theorem bytesTo_len (c : C4) : ∀ i, (bytesTo c i).length ≤ 64 * i
  | 0 => Nat.le_refl _
  | i + 1 => by
    have := bytesTo_len c i
    have h2 := ones_le 64 (c.get i).toNat
    simp only [bytesTo, List.length_append, List.length_map, bits_len]
    omega
theorem count_calls (c : C4) (w : World) : Calls Tryd.prog 45 #[clsV c] w (Meets (ret (.int .i64 (cnt c : Int))) w) := by
  refine enter (args := [.agg #[v64 c.a, v64 c.b, v64 c.c, v64 c.d]]) (n := 16) Tryd.func45 rfl rfl rfl ?_
  refine T_seq (T_region (TL_box rfl rfl rfl fun g => ?_))
  repeat(first|refine QV QP ?_|refine QZ ?_|refine qcT rfl ?_|refine qcF rfl ?_|refine E_blockX ?_|refine E_blockO rfl ?_|refine QV (rr_loadB (i := 0) TyC.ty rfl rfl rfl) ?_|refine QV QlT ?_|refine QV QlF ?_|refine QV QaA ?_)
  refine T_loop (ι := Nat) (fun i => i ≤ 4) (fun i => [(3, .int .i64 ((bytesTo c i).length : Int)), (6, .agg #[v64 c.a, v64 c.b, v64 c.c, v64 c.d]), (7, .int .i64 (i : Int))]) (fun _ => [blkO g (Value.agg #[v64 c.a, v64 c.b, v64 c.c, v64 c.d]).cells 36]) (fun i => 4 - i) 0 (by omega) (by repeat' (first | exact True.intro | refine And.intro rfl ?_)) rfl ?_
  intro i hi
  by_cases h4 : i < 4
  · have hc := cls_cell c i h4
    have hx := (c.get i).isLt
    have hones := ones_calls (c.get i).toNat hx
    have hl := bytesTo_len c i
    have hl2 := ones_le 64 (c.get i).toNat
    have he : (bytesTo c (i + 1)).length = (bytesTo c i).length + ones 64 (c.get i).toNat := by simp only [bytesTo, List.length_append, List.length_map, bits_len]
    repeat(first|refine QV QP ?_|refine QZ ?_|refine qcT rfl ?_|refine qcF rfl ?_|refine E_blockX ?_|refine E_blockO rfl ?_|refine QV (rr_arridx Und.eq TyC.ty rfl rfl h4 hc) ?_|refine QV QlT ?_|refine QV QlF ?_|refine QV QaA ?_)
    refine TL_call (he1 EntersC.en rfl rfl) (fun w hm => hones w) rfl rfl rfl ?_
    intro _ _
    repeat(first|refine QV QP ?_|refine QZ ?_|refine qcT rfl ?_|refine qcF rfl ?_|refine E_blockX ?_|refine E_blockO rfl ?_|refine QV QlT ?_|refine QV QlF ?_|refine QV QaA ?_)
    refine E_round (i + 1) (by omega) (by show 4 - (i + 1) < 4 - i; omega) ⟨?_, rfl, rfl, trivial⟩ rfl
    rw [he]; rfl
  · obtain rfl : i = 4 := by omega
    repeat(first|refine QV QP ?_|refine QZ ?_|refine qcT rfl ?_|refine qcF rfl ?_|refine E_blockX ?_|refine E_blockO rfl ?_|refine QV QlT ?_|refine QV QlF ?_|refine QV QaA ?_)
    exact E_ret1e rfl rfl (by rw [bytes_to]; rfl)
end Go.Proofs.YtakiohldgcifeaaDoor.eng


/- RexS -/
namespace Go.Proofs.YtakiohldgcifeaaDoor.eng
open Go.RowKit kit mix classL rexL
/-- an expression that can be read, its blocks being in F -/
inductive RexIs (F : Nat → Prop) (w : World) : List Value → Rx → Prop
  | mk {k : Int} {c : C4} {kids : List Rx} {base : Option Addr} {cap : Nat} (css : List (List Value)) : kit.okI64 k → kids.length ≤ cap → cap ≤ maxLen → css.length = kids.length →
    (∀ i (h : i < kids.length) (h' : i < css.length), RexIs F w css[i] kids[i]) → (0 < kids.length → ∃ b off, base = some ⟨b, off, none⟩ ∧ F b ∧ ∀ i (_ : i < kids.length) (h' : i < css.length), Rd w b (off + i * 6) css[i]) →
    RexIs F w (.int .i64 k :: (clsL c ++ [.slice base kids.length cap])) (.mk k c kids)
theorem RexIs.len6 {F : Nat → Prop} {w : World} {cs : List Value} {t : Rx} (h : RexIs F w cs t) : cs.length = 6 := by
  cases h; rfl
theorem RexIs.stayed {F : Nat → Prop} {w w' : World} {cs : List Value} {t : Rx} (h : RexIs F w cs t) (hk : ∀ k, F k → w'.heap[k]? = w.heap[k]?) : RexIs F w' cs t := by
  induction h with
  | mk css h2 h3 h4 h5 h6 h7 ih =>
    refine .mk css h2 h3 h4 h5 ih fun hl => ?_
    obtain ⟨b, off, e, hF, hr⟩ := h7 hl
    exact ⟨b, off, e, hF, fun i hi hi' => rd_stay (hr i hi hi') (hk b hF)⟩
theorem RexIs.mono {F F' : Nat → Prop} {w : World} {cs : List Value} {t : Rx} (h : RexIs F w cs t) (hk : ∀ k, F k → F' k) : RexIs F' w cs t := by
  induction h with
  | mk css h2 h3 h4 h5 h6 h7 ih =>
    refine .mk css h2 h3 h4 h5 ih fun hl => ?_
    obtain ⟨b, off, e, hF, hr⟩ := h7 hl
    exact ⟨b, off, e, hk b hF, hr⟩
def rexS : Shp Rx := ⟨6, RexIs, fun h => h.len6, fun h hk => h.stayed hk, fun h hk => h.mono hk⟩
def rexC (k : Int) (c : C4) (v : Value) : List Value := .int .i64 k :: (clsL c ++ [v])
def rexV (k : Int) (c : C4) (v : Value) : Value := .agg (rexC k c v).toArray
theorem rex_iff {F : Nat → Prop} {w : World} {cs : List Value} {k : Int} {c : C4} {kids : List Rx} : RexIs F w cs (.mk k c kids) ↔ ∃ v, cs = rexC k c v ∧ kit.okI64 k ∧ SlF rexS F w v kids := by
  constructor
  · intro h
    cases h with
    | mk css h2 h3 h4 h5 h6 h7 =>
      refine ⟨_, rfl, h2, _, _, rfl, h3, h4, fun hl => ?_⟩
      obtain ⟨b, off, e, hF, hr⟩ := h7 hl
      exact ⟨b, off, e, hF, fun i hi => ⟨css[i]'(by omega), h6 i hi (by omega), hr i hi (by omega)⟩⟩
  · rintro ⟨v, rfl, h2, base, cap, rfl, h3, h4, h5⟩
    by_cases hl : 0 < kids.length
    · obtain ⟨b, off, e, hF, hr⟩ := h5 hl
      have hlen : (List.ofFn fun i : Fin kids.length => Classical.choose (hr i i.2)).length = kids.length := by simp
      refine .mk (List.ofFn fun i : Fin kids.length => Classical.choose (hr i i.2)) h2 h3 h4 hlen (fun i hi hi' => ?_) fun _ => ⟨b, off, e, hF, fun i hi hi' => ?_⟩
      · rw [List.getElem_ofFn]; exact (Classical.choose_spec (hr i hi)).1
      · rw [List.getElem_ofFn]; exact (Classical.choose_spec (hr i hi)).2
    · have : kids = [] := List.eq_nil_of_length_eq_zero (by omega)
      subst this
      exact .mk [] h2 h3 h4 rfl (fun i hi => absurd hi (by simp)) fun h => absurd h (by simp)
/-- an expression that is a value -/
def RexR (F : Nat → Prop) (w : World) (v : Value) (r : Rx) : Prop := ∃ vk, v = rexV r.kind r.cls vk ∧ kit.okI64 r.kind ∧ SlF rexS F w vk r.kids
theorem RexR.stay {F : Nat → Prop} {w w' : World} {v : Value} {r : Rx} (h : RexR F w v r) (hk : ∀ k, F k → w'.heap[k]? = w.heap[k]?) : RexR F w' v r :=
  let ⟨vk, h1, h2, h3⟩ := h; ⟨vk, h1, h2, h3.stay hk⟩
theorem RexR.mono {F F' : Nat → Prop} {w : World} {v : Value} {r : Rx} (h : RexR F w v r) (hk : ∀ k, F k → F' k) : RexR F' w v r :=
  let ⟨vk, h1, h2, h3⟩ := h; ⟨vk, h1, h2, h3.mono hk⟩
/-- what is there at all -/
def Low (w : World) : Nat → Prop := fun k => k < w.heap.size
theorem RexR.gr {w w' : World} {v : Value} {r : Rx} (h : RexR (Low w) w v r) (hg : Gr w w') : RexR (Low w') w' v r :=
  (h.stay fun k hk => hg.block k hk).mono fun _ hk => Nat.lt_of_lt_of_le hk hg.size
theorem RexR.is {F : Nat → Prop} {w : World} {v : Value} {r : Rx} (h : RexR F w v r) : ∃ cs, v = .agg cs.toArray ∧ RexIs F w cs r := by
  obtain ⟨k, c, kids⟩ := r
  obtain ⟨vk, rfl, h1, h2⟩ := h
  exact ⟨_, rfl, rex_iff.2 ⟨vk, rfl, h1, h2⟩⟩
theorem RexIs.r {F : Nat → Prop} {w : World} {cs : List Value} {r : Rx} (h : RexIs F w cs r) : RexR F w (.agg cs.toArray) r := by
  obtain ⟨k, c, kids⟩ := r
  obtain ⟨vk, rfl, h1, h2⟩ := rex_iff.1 h
  exact ⟨vk, rfl, h1, h2⟩
/-- a kid -/
theorem rkid_at {F : Nat → Prop} {w : World} {b off : Nat} {l : List Rx} (h : ∀ i (h : i < l.length), ∃ cs, rexS.is F w cs l[i] ∧ Rd w b (off + i * rexS.c) cs) {k : Nat} (hk : k < l.length) :
    ∃ base cap, Rd w b (off + k * 6) (rexC l[k].kind l[k].cls (.slice base l[k].kids.length cap)) ∧ RexR F w (rexV l[k].kind l[k].cls (.slice base l[k].kids.length cap)) l[k] := by
  obtain ⟨cs, h1, hr⟩ := h k hk
  have h1 : RexIs F w cs l[k] := h1
  generalize l[k] = r at *
  obtain ⟨kd, c, kids⟩ := r
  obtain ⟨vk, rfl, a1, a2⟩ := rex_iff.1 h1
  have a2' := a2
  obtain ⟨base, cap, rfl, _⟩ := a2'
  exact ⟨base, cap, hr, _, rfl, a1, a2⟩
/-! ### numbered -/
/-- a node's kids and their numbers -/
def kidsK (r : Re) (k : Nat) : List (Re × Nat) := match r with
  | .cat a b => [(a, k + 1), (b, k + 1 + a.size)]
  | .alt a b => [(a, k + 1), (b, k + 1 + a.size)]
  | .star a => [(a, k + 1)]
  | _ => []
/-- a numbered node that can be read, its kids' blocks being in F -/
inductive NumIs (F : Nat → Prop) (w : World) : List Value → Re × Nat → Prop
  | mk {r : Re} {k : Nat} {vk : Value} {base : Option Addr} {cap : Nat} (css : List (List Value)) : vk.oneCell' = true → (kidsK r k).length ≤ cap → cap ≤ maxLen → css.length = (kidsK r k).length →
    (∀ i (h : i < (kidsK r k).length) (h' : i < css.length), NumIs F w css[i] (kidsK r k)[i]) → (0 < (kidsK r k).length → ∃ b off, base = some ⟨b, off, none⟩ ∧ F b ∧ ∀ i (_ : i < (kidsK r k).length) (h' : i < css.length), Rd w b (off + i * 8) css[i]) →
    NumIs F w (.int .i64 r.kind :: (clsL r.cls ++ [vk, .int .i64 (k : Int), .slice base (kidsK r k).length cap])) (r, k)
theorem NumIs.stayed {F : Nat → Prop} {w w' : World} {cs : List Value} {t : Re × Nat} (h : NumIs F w cs t) (hk : ∀ k, F k → w'.heap[k]? = w.heap[k]?) : NumIs F w' cs t := by
  induction h with
  | mk css h2 h3 h4 h5 h6 h7 ih =>
    refine .mk css h2 h3 h4 h5 ih fun hl => ?_
    obtain ⟨b, off, e, hF, hr⟩ := h7 hl
    exact ⟨b, off, e, hF, fun i hi hi' => rd_stay (hr i hi hi') (hk b hF)⟩
theorem NumIs.mono {F F' : Nat → Prop} {w : World} {cs : List Value} {t : Re × Nat} (h : NumIs F w cs t) (hk : ∀ k, F k → F' k) : NumIs F' w cs t := by
  induction h with
  | mk css h2 h3 h4 h5 h6 h7 ih =>
    refine .mk css h2 h3 h4 h5 ih fun hl => ?_
    obtain ⟨b, off, e, hF, hr⟩ := h7 hl
    exact ⟨b, off, e, hk b hF, hr⟩
section
end
end Go.Proofs.YtakiohldgcifeaaDoor.eng

/- App -/
namespace Go.Proofs.YtakiohldgcifeaaDoor.eng
open Go.RowKit kit mix
section
variable {P : Program} {n : Nat} {W : Base} {fr : Fr} {L : List Own} {Q : Exit → Act → World → Prop} {ops : Array Oper} {rest : List Oper} {d : Nat} {dst : Option Tmp} {ty : TypeId} {pos : String} {after : Array Edge} {guard : Option (Nat × Bool)}
/-! ### a slice that may be nil -/
def gA (G : Option Nat) : Option Addr := G.map fun g => ⟨g, 0, none⟩
end
end Go.Proofs.YtakiohldgcifeaaDoor.eng

/- RexC -/
namespace Go.Proofs.YtakiohldgcifeaaDoor.eng
open Go.RowKit kit mix classL rexL
theorem rkids_calls (k : Int) (w : World) : Calls Tryd.prog 44 #[.int .i64 k] w (Meets (ret (.int .i64 (kidsN k))) w) := by
  unfold kidsN
  refine enter (args := [.int .i64 k]) (n := 13) Tryd.func44 rfl rfl rfl ?_
  by_cases k1 : k = 1
  · rw [if_pos k1]
    repeat(first|refine QV QP ?_|refine QZ ?_|refine qcT rfl ?_|refine qcF rfl ?_|refine QV QeT ?_|refine QV QeF ?_)
    exact E_ret1 rfl rfl fun w hm => hm.ret
  rw [if_neg k1]
  by_cases k2 : k = 2
  · rw [if_pos k2]
    repeat(first|refine QV QP ?_|refine QZ ?_|refine qcT rfl ?_|refine qcF rfl ?_|refine QV QeT ?_|refine QV QeF ?_)
    exact E_ret1 rfl rfl fun w hm => hm.ret
  rw [if_neg k2]
  by_cases k3 : k = 3
  · rw [if_pos k3]
    repeat(first|refine QV QP ?_|refine QZ ?_|refine qcT rfl ?_|refine qcF rfl ?_|refine QV QeT ?_|refine QV QeF ?_)
    exact E_ret1 rfl rfl fun w hm => hm.ret
  rw [if_neg k3]
  by_cases k6 : k = 6
  · rw [if_pos k6]
    repeat(first|refine QV QP ?_|refine QZ ?_|refine qcT rfl ?_|refine qcF rfl ?_|refine QV QeT ?_|refine QV QeF ?_)
    exact E_ret1 rfl rfl fun w hm => hm.ret
  rw [if_neg k6]
  by_cases k4 : k = 4
  · rw [if_pos k4]
    repeat(first|refine QV QP ?_|refine QZ ?_|refine qcT rfl ?_|refine qcF rfl ?_|refine QV QeT ?_|refine QV QeF ?_)
    exact E_ret1 rfl rfl fun w hm => hm.ret
  rw [if_neg k4]
  by_cases k5 : k = 5
  · rw [if_pos k5]
    repeat(first|refine QV QP ?_|refine QZ ?_|refine qcT rfl ?_|refine qcF rfl ?_|refine QV QeT ?_|refine QV QeF ?_)
    exact E_ret1 rfl rfl fun w hm => hm.ret
  rw [if_neg k5]
  repeat(first|refine QV QP ?_|refine QZ ?_|refine qcT rfl ?_|refine qcF rfl ?_|refine QV QeT ?_|refine QV QeF ?_)
  exact E_ret1 rfl rfl fun w hm => hm.ret
theorem chk_le {r : Rx} {deep n : Nat} (h : (chk r deep n).1 = 0) : (chk r deep n).2 ≤ 100 := by
  obtain ⟨e, _, h1, h2⟩ := chk_fit _ r deep n (chk r deep n).2 (Nat.le_refl _) (Prod.ext h rfl)
  have := h1.sz
  omega
theorem build_cz (w : World) : (Instr.build 36 (#[] : Array (Nat × Value))).run Tryd.prog w = .ok (clsV C4.zero) w := by kernel_rfl
theorem eqCls (x y : C4) (w : World) : (Op.equalIn 10000 36 (clsV x) (clsV y)).run Tryd.prog w = .ok (decide (x = y)) w := classSets.eq_cls x y w
theorem at_oldR {W0 : World} {W : Base} {L : List Own} {b off : Nat} {cs : List Value} (ho : Old W0 W) (h : Rd W0 b off cs) (j : Nat) (v : Value) (hj : cs[j]? = some v) : At W L ⟨b, off + j, none⟩ v := at_old0 ho (h j v hj)
theorem rex_cls {k : Int} {c : C4} {vk : Value} {j : Nat} {v : Value} (h : (clsL c)[j]? = some v) : (rexC k c vk).toArray[0 + 1 + j]? = some v := by
  have hj : j < (clsL c).length := (List.getElem?_eq_some_iff.1 h).1
  rw [List.getElem?_toArray, show 0 + 1 + j = j + 1 by omega]
  show (clsL c ++ [vk])[j]? = _
  rw [List.getElem?_append_left hj]; exact h
set_option maxRecDepth 100000 in
set_option maxHeartbeats 16000000 in
theorem check_calls (w0 : World) (gn : Nat) : ∀ (N : Nat) (r : Rx), sizeX r ≤ N → ∀ (v : Value) (deep n : Nat) (w : World) (B : Base), RexR (Low w0) w0 v r → n ≤ 100 → deep ≤ 31 → Old w0 B → Mem B [blkO gn #[.int .i64 (n : Int)] 3] w →
    Calls Tryd.prog 36 #[v, .int .i64 (deep : Int), .pointer (some ⟨gn, 0, none⟩)] w (MeetsB ⟨fun (_ : Unit) => True, fun _ => .int .i64 (chk r deep n).1, fun _ => [blkO gn #[.int .i64 ((chk r deep n).2 : Int)] 3]⟩ B)
  | 0, r, h, _, _, _, _, _, _, _, _, _, _ => by have := sizeX_pos r; omega
  | N + 1, .mk k c kids, hN, v, deep, n, w, B, hv, hn, hd, ho, hm => by
    have IH := check_calls w0 gn N
    obtain ⟨vk, rfl, hk64, hks⟩ := hv
    dsimp only [Rx.kind, Rx.cls, Rx.kids] at hk64 hks ⊢
    obtain ⟨bk, ck, rfl, hck, hmk, hrk⟩ := hks
    unfold maxLen at hmk
    rw [chk]
    rw [sizeX] at hN
    have hkc := fun w => rkids_calls k w
    have heq := eqCls c C4.zero
    have hcz := build_cz
    refine enterB hm (args := [rexV k c (.slice bk kids.length ck), .int .i64 (deep : Int), .pointer (some ⟨gn, 0, none⟩)]) (n := 55) Tryd.func36 rfl rfl rfl ?_
    clear hm
    refine T_seq (T_region (TL_box rfl rfl rfl fun g3 => ?_))
    conv=>arg 8;simp only[zA,zB,zC,zD,zE,zF,zG,zH,zI,rowS,ret,id_eq]
    repeat(first|refine QV QP ?_|refine QZ ?_|refine qcT rfl ?_|refine qcF rfl ?_|refine E_blockX ?_|refine E_blockO rfl ?_|refine QV (rr_nilc rfl) ?_|refine QV (rr_load1 TyC.ty rfl (at_blk (i := 0) rfl rfl)) ?_|refine QV (rr_add64 (r := ((n + 1 : Nat) : Int)) rfl rfl (by omega) (by omega) (by omega)) ?_|refine QV QL ?_|refine QV QA ?_|refine QV (rr_nilc rfl) ?_|refine QV QlT ?_|refine QV QlF ?_|refine QV QgT ?_|refine QV QgF ?_|refine QV QeT ?_|refine QV QeF ?_|refine QV QnT ?_|refine QV QnF ?_|refine QV QaA ?_)
    refine TL_store1 (i := 0) rfl rfl rfl rfl rfl rfl ?_
    rw [show (#[.int .i64 (n : Int)] : Array Value).setIfInBounds 0 (.int .i64 ((n + 1 : Nat) : Int)) = #[.int .i64 ((n + 1 : Nat) : Int)] from rfl]
    conv=>arg 8;simp only[zA,zB,zC,zD,zE,zF,zG,zH,zI,rowS,ret,id_eq]
    by_cases c1 : 100 < n + 1
    · rw [if_pos c1]
      repeat(first|refine QV QP ?_|refine QZ ?_|refine qcT rfl ?_|refine qcF rfl ?_|refine E_blockX ?_|refine E_blockO rfl ?_|refine QV (rr_nilc rfl) ?_|refine QV (rr_load1 TyC.ty rfl (at_blk (i := 0) rfl rfl)) ?_|refine QV QL ?_|refine QV QA ?_|refine QV (rr_nilc rfl) ?_|refine QV QlT ?_|refine QV QlF ?_|refine QV QgT ?_|refine QV QgF ?_|refine QV QeT ?_|refine QV QeF ?_|refine QV QnT ?_|refine QV QnF ?_|refine QV QaA ?_)
      exact E_ret1 rfl rfl fun w hm => hm.meetsB (S := ⟨fun (_ : Unit) => True, fun _ => .int .i64 2, fun _ => [blkO gn #[.int .i64 ((n + 1 : Nat) : Int)] 3]⟩) () trivial [0] (by decide) rfl
    rw [if_neg c1]
    by_cases c2 : 30 < deep
    · rw [if_pos c2]
      repeat(first|refine QV QP ?_|refine QZ ?_|refine qcT rfl ?_|refine qcF rfl ?_|refine E_blockX ?_|refine E_blockO rfl ?_|refine QV (rr_nilc rfl) ?_|refine QV (rr_load1 TyC.ty rfl (at_blk (i := 0) rfl rfl)) ?_|refine QV QL ?_|refine QV QA ?_|refine QV (rr_nilc rfl) ?_|refine QV QlT ?_|refine QV QlF ?_|refine QV QgT ?_|refine QV QgF ?_|refine QV QeT ?_|refine QV QeF ?_|refine QV QnT ?_|refine QV QnF ?_|refine QV QaA ?_)
      exact E_ret1 rfl rfl fun w hm => hm.meetsB (S := ⟨fun (_ : Unit) => True, fun _ => .int .i64 7, fun _ => [blkO gn #[.int .i64 ((n + 1 : Nat) : Int)] 3]⟩) () trivial [0] (by decide) rfl
    rw [if_neg c2]
    repeat(first|refine QV QP ?_|refine QZ ?_|refine qcT rfl ?_|refine qcF rfl ?_|refine E_blockX ?_|refine E_blockO rfl ?_|refine QV (rr_nilc rfl) ?_|refine QV (rr_load1 TyC.ty rfl (at_blk (i := 0) rfl rfl)) ?_|refine QV QL ?_|refine QV QA ?_|refine QV (rr_nilc rfl) ?_|refine QV QlT ?_|refine QV QlF ?_|refine QV QgT ?_|refine QV QgF ?_|refine QV QeT ?_|refine QV QeF ?_|refine QV QnT ?_|refine QV QnF ?_|refine QV QaA ?_)
    by_cases c3 : kidsN k ≠ (kids.length : Int)
    · rw [if_pos c3]
      (repeat refine T_seq ?_)
      refine T_ord ([blkO g3 (rexC k c (.slice bk kids.length ck)).toArray 39]) (.calm 0 (.calm 1 (.calm 2 (.calm 3 (.calm 4 (.calm 5 (.calm 6 (.calm 7 (.done))))))))) (sub_pick [1] (by decide) rfl) (by kernel_rfl) (by kernel_rfl) (by intro c a d v w h; cases d <;> exact h) ?_
      repeat(first|((first|refine TW_plain rfl rfl ?_|refine TW_gmet rfl rfl rfl rfl ?_);first|refine QW QP ?_|refine QW (rr_load1 TyC.ty rfl (at_blk (i := 0) rfl rfl)) ?_|refine QW QL ?_|refine QW QA ?_|refine QW (rr_nilc rfl) ?_|refine QW QlT ?_|refine QW QlF ?_|refine QW QgT ?_|refine QW QgF ?_|refine QW QeT ?_|refine QW QeF ?_|refine QW QnT ?_|refine QW QnF ?_|refine QW QaA ?_)|refine TW_done ?_)
      refine TW_call rfl (he1 EntersC.en rfl rfl) (fun w hm => hkc _) rfl rfl rfl ?_
      repeat(first|((first|refine TW_plain rfl rfl ?_|refine TW_gmet rfl rfl rfl rfl ?_);first|refine QW QP ?_|refine QW (rr_load1 TyC.ty rfl (at_blk (i := 0) rfl rfl)) ?_|refine QW (rr_neq (b := true) rfl rfl (decide_eq_true c3)) ?_|refine QW QL ?_|refine QW QA ?_|refine QW (rr_nilc rfl) ?_|refine QW QlT ?_|refine QW QlF ?_|refine QW QgT ?_|refine QW QgF ?_|refine QW QeT ?_|refine QW QeF ?_|refine QW QnT ?_|refine QW QnF ?_|refine QW QaA ?_)|refine TW_done ?_)
      repeat(first|refine QV QP ?_|refine QZ ?_|refine qcT rfl ?_|refine qcF rfl ?_|refine E_blockX ?_|refine E_blockO rfl ?_|refine QV QL ?_|refine QV QA ?_|refine QV (rr_nilc rfl) ?_|refine QV QlT ?_|refine QV QlF ?_|refine QV QgT ?_|refine QV QgF ?_|refine QV QeT ?_|refine QV QeF ?_|refine QV QnT ?_|refine QV QnF ?_|refine QV QaA ?_)
      exact E_ret1 rfl rfl fun w hm => hm.meetsB (S := ⟨fun (_ : Unit) => True, fun _ => .int .i64 1, fun _ => [blkO gn #[.int .i64 ((n + 1 : Nat) : Int)] 3]⟩) () trivial [0] (by decide) rfl
    rw [if_neg c3]
    have c3' : kidsN k = (kids.length : Int) := by simpa using c3
    rw [c3'] at hkc
    (repeat refine T_seq ?_)
    refine T_ord ([blkO g3 (rexC k c (.slice bk kids.length ck)).toArray 39]) (.calm 0 (.calm 1 (.calm 2 (.calm 3 (.calm 4 (.calm 5 (.calm 6 (.calm 7 (.done))))))))) (sub_pick [1] (by decide) rfl) (by kernel_rfl) (by kernel_rfl) (by intro c a d v w h; cases d <;> exact h) ?_
    repeat(first|((first|refine TW_plain rfl rfl ?_|refine TW_gmet rfl rfl rfl rfl ?_);first|refine QW QP ?_|refine QW (rr_load1 TyC.ty rfl (at_blk (i := 0) rfl rfl)) ?_|refine QW QL ?_|refine QW QA ?_|refine QW (rr_nilc rfl) ?_|refine QW QlT ?_|refine QW QlF ?_|refine QW QgT ?_|refine QW QgF ?_|refine QW QeT ?_|refine QW QeF ?_|refine QW QnT ?_|refine QW QnF ?_|refine QW QaA ?_)|refine TW_done ?_)
    refine TW_call rfl (he1 EntersC.en rfl rfl) (fun w hm => hkc _) rfl rfl rfl ?_
    repeat(first|((first|refine TW_plain rfl rfl ?_|refine TW_gmet rfl rfl rfl rfl ?_);first|refine QW QP ?_|refine QW (rr_load1 TyC.ty rfl (at_blk (i := 0) rfl rfl)) ?_|refine QW (rr_neq (b := false) rfl rfl (decide_eq_false (fun h => h rfl))) ?_|refine QW QL ?_|refine QW QA ?_|refine QW (rr_nilc rfl) ?_|refine QW QlT ?_|refine QW QlF ?_|refine QW QgT ?_|refine QW QgF ?_|refine QW QeT ?_|refine QW QeF ?_|refine QW QnT ?_|refine QW QnF ?_|refine QW QaA ?_)|refine TW_done ?_)
    repeat(first|refine QV QP ?_|refine QZ ?_|refine qcT rfl ?_|refine qcF rfl ?_|refine E_blockX ?_|refine E_blockO rfl ?_|refine QV QL ?_|refine QV QA ?_|refine QV (rr_nilc rfl) ?_|refine QV QlT ?_|refine QV QlF ?_|refine QV QgT ?_|refine QV QgF ?_|refine QV QeT ?_|refine QV QeF ?_|refine QV QnT ?_|refine QV QnF ?_|refine QV QaA ?_)
    generalize hD : (decide (k = 3) != decide (c ≠ C4.zero)) = D
    have hD' : (!(decide (k = 3) == !decide (c = C4.zero))) = D := by
      rw [← hD, decide_not]
      cases decide (k = 3) <;> cases decide (c = C4.zero) <;> rfl
    (repeat refine T_seq ?_)
    refine T_ord ([blkO g3 (rexC k c (.slice bk kids.length ck)).toArray 39]) (.calm 0 (.calm 1 (.calm 2 (.calm 3 (.calm 4 (.calm 5 (.calm 6 (.calm 7 (.calm 8 (.done)))))))))) (sub_pick [1] (by decide) rfl) (by kernel_rfl) (by kernel_rfl) (by intro c a d v w h; cases d <;> exact h) ?_
    repeat(first|((first|refine TW_plain rfl rfl ?_|refine TW_gmet rfl rfl rfl rfl ?_);first|refine QW QP ?_|refine QW (rr_load1 TyC.ty rfl (at_blk (i := 0) rfl rfl)) ?_|refine QW (rr_eql (b := decide (k = 3)) rfl rfl rfl) ?_|refine QW (rr_loadN (cs := clsL c) TyC.ty rfl rfl (fun j v hj => at_blk (i := 0) rfl (rex_cls hj))) ?_|refine QW (rr_build rfl hcz) ?_|refine QW (rr_aggne rfl rfl (by kernel_rfl) heq rfl) ?_|refine QW (rr_boolne (c := D) Und.eq rfl rfl hD') ?_|refine QW QL ?_|refine QW QA ?_|refine QW (rr_nilc rfl) ?_|refine QW QlT ?_|refine QW QlF ?_|refine QW QgT ?_|refine QW QgF ?_|refine QW QeT ?_|refine QW QeF ?_|refine QW QnT ?_|refine QW QnF ?_|refine QW QaA ?_)|refine TW_done ?_)
    clear hD hD' heq hcz hkc
    cases D with
    | true =>
      rw [if_pos rfl]
      repeat(first|refine QV QP ?_|refine QZ ?_|refine qcT rfl ?_|refine qcF rfl ?_|refine E_blockX ?_|refine E_blockO rfl ?_|refine QV QL ?_|refine QV QA ?_|refine QV (rr_nilc rfl) ?_|refine QV QlT ?_|refine QV QlF ?_|refine QV QgT ?_|refine QV QgF ?_|refine QV QeT ?_|refine QV QeF ?_|refine QV QnT ?_|refine QV QnF ?_|refine QV QaA ?_)
      exact E_ret1 rfl rfl fun w hm => hm.meetsB (S := ⟨fun (_ : Unit) => True, fun _ => .int .i64 1, fun _ => [blkO gn #[.int .i64 ((n + 1 : Nat) : Int)] 3]⟩) () trivial [0] (by decide) rfl
    | false =>
      rw [if_neg (by decide)]
      repeat(first|refine QV QP ?_|refine QZ ?_|refine qcT rfl ?_|refine qcF rfl ?_|refine E_blockX ?_|refine E_blockO rfl ?_|refine QV (rr_load1 TyC.ty rfl (at_blk (i := 1) rfl rfl)) ?_|refine QV QL ?_|refine QV QA ?_|refine QV (rr_nilc rfl) ?_|refine QV QlT ?_|refine QV QlF ?_|refine QV QgT ?_|refine QV QgF ?_|refine QV QeT ?_|refine QV QeF ?_|refine QV QnT ?_|refine QV QnF ?_|refine QV QaA ?_)
      refine T_pick [0] (by decide) rfl ?_
      refine T_loop (ι := Nat × Nat) (fun (j, q) => j ≤ kids.length ∧ q ≤ 100 ∧ chks kids (deep + 1) (n + 1) = chks (kids.drop j) (deep + 1) q) (fun (j, _) => [(1, .int .i64 (deep : Int)), (2, .pointer (some ⟨gn, 0, none⟩)), (40, .slice bk kids.length ck), (41, .int .i64 (kids.length : Int)), (42, .int .i64 (j : Int))])
        (fun (_, q) => [blkO gn #[.int .i64 (q : Int)] 3]) (fun (j, _) => kids.length - j) (0, n + 1) ⟨Nat.zero_le _, by omega, rfl⟩ (by repeat' (first | exact True.intro | refine And.intro rfl ?_)) rfl ?_
      rintro ⟨j, q⟩ ⟨hj, hq, hk⟩
      dsimp only at hj hq hk ⊢
      rw [hk]
      by_cases c4 : j < kids.length
      · obtain ⟨b, off, rfl, _, hr⟩ := hrk (by omega)
        obtain ⟨bj, cj, hrd, hkr⟩ := rkid_at hr c4
        have hd' : kids.drop j = kids[j] :: kids.drop (j + 1) := List.drop_eq_getElem_cons c4
        rw [hd', chks] at hk ⊢
        have hsz := sizesX_mem (List.getElem_mem c4)
        have hle := fun h => chk_le (r := kids[j]'c4) (deep := deep + 1) (n := q) h
        have hat := fun (L : List Own) j v hj => at_oldR (L := L) ho hrd j v hj
        generalize kids[j] = r at *
        generalize r.kids.length = m at *
        repeat(first|refine QV QP ?_|refine QZ ?_|refine qcT rfl ?_|refine qcF rfl ?_|refine E_blockX ?_|refine E_blockO rfl ?_|refine QV (rr_idxc (j := j) Und.eq TyC.ty rfl rfl c4) ?_|refine QV (rr_loadN TyC.ty rfl rfl (hat _)) ?_|refine QV QL ?_|refine QV QA ?_|refine QV (rr_nilc rfl) ?_|refine QV QlT ?_|refine QV QlF ?_|refine QV QgT ?_|refine QV QgF ?_|refine QV QeT ?_|refine QV QeF ?_|refine QV QnT ?_|refine QV QnF ?_|refine QV QaA ?_)
        refine TL_new rfl fun g8 => ?_
        conv=>arg 8;simp only[zA,zB,zC,zD,zE,zF,zG,zH,zI,rowS,ret,id_eq]
        refine TL_storeB (i := 1) (cs' := (rexC r.kind r.cls (.slice bj m cj)).toArray) rfl rfl rfl rfl rfl rfl ?_
        conv=>arg 8;simp only[zA,zB,zC,zD,zE,zF,zG,zH,zI,rowS,ret,id_eq]
        repeat(first|refine QV QP ?_|refine QZ ?_|refine qcT rfl ?_|refine qcF rfl ?_|refine E_blockX ?_|refine E_blockO rfl ?_|refine QV (rr_loadB (i := 1) TyC.ty rfl rfl rfl) ?_|refine QV (rr_add64 (r := ((deep + 1 : Nat) : Int)) rfl rfl (by omega) (by omega) (by omega)) ?_|refine QV QL ?_|refine QV QA ?_|refine QV (rr_nilc rfl) ?_|refine QV QlT ?_|refine QV QlF ?_|refine QV QgT ?_|refine QV QgF ?_|refine QV QeT ?_|refine QV QeF ?_|refine QV QnT ?_|refine QV QnF ?_|refine QV QaA ?_)
        refine TL_callB [0] [1] (by decide) rfl rfl (he3 EntersC.en rfl rfl rfl rfl) (fun w hm hb => IH r (by omega) _ (deep + 1) q w _ hkr hq (by omega) (ho.on hm (by intro o ho; simp at ho ⊢; simp [ho])) hb) rfl rfl rfl ?_
        intro _ _
        dsimp only
        conv=>arg 8;simp only[zA,zB,zC,zD,zE,zF,zG,zH,zI,rowS,ret,id_eq]
        by_cases e1 : (chk r (deep + 1) q).1 = 0
        · rw [if_neg (by simpa using e1)]
          rw [if_neg (by simpa using e1)] at hk
          have hq' := hle e1
          rw [e1]
          generalize (chk r (deep + 1) q).2 = q' at *
          repeat(first|refine QV QP ?_|refine QZ ?_|refine qcT rfl ?_|refine qcF rfl ?_|refine E_blockX ?_|refine E_blockO rfl ?_|refine QV QL ?_|refine QV QA ?_|refine QV (rr_nilc rfl) ?_|refine QV QlT ?_|refine QV QlF ?_|refine QV QgT ?_|refine QV QgF ?_|refine QV QeT ?_|refine QV QeF ?_|refine QV QnT ?_|refine QV QnF ?_|refine QV QaA ?_)
          refine E_pick [1] (by decide) rfl ?_
          exact E_round (j + 1, q') ⟨by show j + 1 ≤ kids.length; omega, hq', rfl⟩ (by show kids.length - (j + 1) < kids.length - j; omega) (by repeat' (first | exact True.intro | refine And.intro rfl ?_)) rfl
        · rw [if_pos e1]
          generalize chk r (deep + 1) q = z at *
          repeat(first|refine QV QP ?_|refine QZ ?_|refine qcT rfl ?_|refine qcF rfl ?_|refine E_blockX ?_|refine E_blockO rfl ?_|refine QV (rr_neq (b := true) rfl rfl (decide_eq_true e1)) ?_|refine QV QL ?_|refine QV QA ?_|refine QV (rr_nilc rfl) ?_|refine QV QlT ?_|refine QV QlF ?_|refine QV QgT ?_|refine QV QgF ?_|refine QV QeT ?_|refine QV QeF ?_|refine QV QnT ?_|refine QV QnF ?_|refine QV QaA ?_)
          exact E_ret1 rfl rfl fun w hm => hm.meetsB (S := ⟨fun (_ : Unit) => True, fun _ => .int .i64 z.1, fun _ => [blkO gn #[.int .i64 (z.2 : Int)] 3]⟩) () trivial [1] (by decide) rfl
      · obtain rfl : j = kids.length := by omega
        rw [List.drop_length, chks] at hk ⊢
        repeat(first|refine QV QP ?_|refine QZ ?_|refine qcT rfl ?_|refine qcF rfl ?_|refine E_blockX ?_|refine E_blockO rfl ?_|refine QV QL ?_|refine QV QA ?_|refine QV (rr_nilc rfl) ?_|refine QV QlT ?_|refine QV QlF ?_|refine QV QgT ?_|refine QV QgF ?_|refine QV QeT ?_|refine QV QeF ?_|refine QV QnT ?_|refine QV QnF ?_|refine QV QaA ?_)
        exact E_ret1 rfl rfl fun w hm => hm.meetsB (S := ⟨fun (_ : Unit) => True, fun _ => .int .i64 0, fun _ => [blkO gn #[.int .i64 (q : Int)] 3]⟩) () trivial [0] (by decide) rfl
/-- what Check says -/
def chkX (r : Rx) : Int := (chk r 1 0).1
set_option maxHeartbeats 4000000 in
theorem rexCheck_calls (v : Value) (r : Rx) (w : World) (hv : RexR (Low w) w v r) : Calls Tryd.prog 22 #[v] w (Meets (ret (.int .i64 (chkX r))) w) := by
  have hc := fun gn w' B ho hm => check_calls w gn _ r (Nat.le_refl _) v 1 0 w' B hv (by omega) (by omega) ho hm
  obtain ⟨vk, rfl, _, hs⟩ := hv
  obtain ⟨bk, ck, rfl, -⟩ := hs
  generalize r.kids.length = m at *
  refine enter (args := [rexV r.kind r.cls (.slice bk m ck)]) (n := 6) Tryd.func22 rfl rfl rfl ?_
  refine T_seq (T_region (TL_box rfl rfl rfl fun g1 => ?_))
  repeat(first|refine QV QP ?_|refine QZ ?_)
  refine TL_new rfl fun g3 => ?_
  conv=>arg 8;simp only[zA,zB,zC,zD,zE,zF,zG,zH,zI,rowS,ret,id_eq]
  refine TL_store1 (i := 1) rfl rfl rfl rfl rfl rfl ?_
  conv=>arg 8;simp only[zA,zB,zC,zD,zE,zF,zG,zH,zI,rowS,ret,id_eq]
  repeat(first|refine QV QP ?_|refine QZ ?_|refine QV (rr_loadB (i := 0) TyC.ty rfl rfl rfl) ?_)
  refine TL_callB [1] [0] (by decide) rfl rfl (he3 EntersC.en rfl rfl rfl rfl) (fun w hm hb => hc g3 w _ ((Old.self _).on hm (by intro o ho; simp at ho ⊢; simp [ho])) hb) rfl rfl rfl ?_
  intro _ _
  dsimp only
  unfold chkX
  repeat(first|refine QV QP ?_|refine QZ ?_)
  exact E_ret1 rfl rfl fun w hm => hm.ret
end Go.Proofs.YtakiohldgcifeaaDoor.eng

/- RexN -/
namespace Go.Proofs.YtakiohldgcifeaaDoor.eng
open Go.RowKit kit mix classL rexL
theorem rkid_emb {F : Nat → Prop} {w : World} {b off : Nat} {l : List Re} (h : ∀ i (h : i < (l.map emb).length), ∃ cs, rexS.is F w cs (l.map emb)[i] ∧ Rd w b (off + i * rexS.c) cs) {j : Nat} (hj : j < l.length) :
    ∃ base cap, Rd w b (off + j * 6) (rexC l[j].kind l[j].cls (.slice base l[j].kids.length cap)) ∧ kit.okI64 l[j].kind ∧ SlF rexS F w (.slice base l[j].kids.length cap) (l[j].kids.map emb) := by
  obtain ⟨cs, h1, hr⟩ := h j (by rw [List.length_map]; exact hj)
  rw [List.getElem_map, emb_eq] at h1
  obtain ⟨vk, rfl, a1, a2⟩ := rex_iff.1 (show RexIs F w cs _ from h1)
  have a2' := a2
  obtain ⟨base, cap, rfl, _⟩ := a2'
  have el : (l[j].kids.map emb).length = l[j].kids.length := List.length_map ..
  refine ⟨base, cap, ?_, a1, ?_⟩
  · rw [← el]; exact hr
  · rw [← el]; exact a2
end Go.Proofs.YtakiohldgcifeaaDoor.eng


/- SmL -/
namespace Go.Proofs.YtakiohldgcifeaaDoor.smallL
/-! ### the first ones -/
section
end
theorem nodup_bound {l : List Nat} {m : Nat} (h : l.Nodup) (hb : ∀ x ∈ l, x < m) : l.length ≤ m := by
  have hs : ∀ (l l' : List Nat), l.Nodup → (∀ x ∈ l, x ∈ l') → l.length ≤ l'.length := by
    intro l
    induction l with
    | nil => intro l' _ _; simp
    | cons x l ih =>
      intro l' hn hs
      rw [List.nodup_cons] at hn
      have hx : x ∈ l' := hs x (by simp)
      have := ih (l'.erase x) hn.2 (fun y hy => (List.mem_erase_of_ne (by rintro rfl; exact hn.1 hy)).2 (hs y (by simp [hy])))
      rw [List.length_erase_of_mem hx] at this
      have : 0 < l'.length := List.length_pos_of_mem hx
      simp; omega
  have := hs l (List.range m) h fun x hx => List.mem_range.2 (hb x hx)
  simpa using this
end Go.Proofs.YtakiohldgcifeaaDoor.smallL

/- ClassT -/
namespace Go.Proofs.YtakiohldgcifeaaDoor.eng
open Go.RowKit kit mix classL
theorem map_getD {β : Type} (f : Nat → β) (l : List Nat) (j : Nat) (h : j < l.length) : (l.map f)[j]? = some (f (l.getD j 0)) := by
  rw [List.getElem?_map, List.getD_eq_getElem?_getD, List.getElem?_eq_getElem h]; rfl
theorem tab_len : Lib.deBruijn64tab.length = 64 := by decide
theorem tab_at (j : Nat) (h : j < 64) : tabC[j]? = some (.int .u8 ((Lib.deBruijn64tab.getD j 0 : Nat) : Int)) := map_getD (fun (n : Nat) => Value.int .u8 (n : Int)) Lib.deBruijn64tab j (by rw [tab_len]; exact h)
theorem tab_key (c : Nat) (hk : c < 64) : 2 ^ c * 285870213051353865 % 18446744073709551616 / 288230376151711744 < 64 ∧ tabC[2 ^ c * 285870213051353865 % 18446744073709551616 / 288230376151711744]? = some (.int .u8 (c : Int)) := by
  obtain ⟨hi, htab⟩ := Lib.deBruijn64_at _ hk
  have h := tab_at _ hi
  rw [htab] at h
  exact ⟨hi, h⟩
theorem tz_calls (x : Nat) (hx : x < 18446744073709551616) (h0 : x ≠ 0) (w : World) (hT : TabW w) : Calls Tryd.prog 64 #[.int .u64 (x : Int)] w (Meets (ret (.int .i64 (Lib.ctz 64 x : Int))) w) := by
  refine enter (args := [.int .u64 (x : Int)]) (n := 14) Tryd.func64 rfl rfl rfl ?_
  obtain ⟨hlow, hk⟩ := Lib.lowest_bit 64 x h0 (by simpa using hx)
  obtain ⟨hi, hcell⟩ := tab_key _ hk
  have a1 := bits_and_u64_nat x (18446744073709551616 - x) hx (by omega)
  simp only [Nat.reducePow] at hlow
  rw [hlow] at a1
  clear hlow
  generalize Lib.ctz 64 x = c at *
  have h4 : 0 < 2 ^ c := Nat.two_pow_pos c
  have hc := mulw (a := 2 ^ c) (b := 285870213051353865) rfl
  generalize 2 ^ c * 285870213051353865 % 18446744073709551616 = m at *
  have hsh : ∀ w, (Op.shift .shr .u64 (m : Int) .u64 58).run Tryd.prog w = .ok (.int .u64 ((m / 288230376151711744 : Nat) : Int)) w := fun w => shrU m 58 64 .u64 .u64 rfl (by decide) w
  generalize m / 288230376151711744 = j at *
  repeat(first|refine QV QP ?_|refine QZ ?_|refine qcT rfl ?_|refine qcF rfl ?_|refine QV (rr_eql rfl rfl (decide_eq_false (by omega))) ?_|refine QV (rr_neg rfl (neg64 h0 hx)) ?_|refine QV (rr_and rfl rfl a1) ?_|refine QV (rr_mulw rfl rfl hc) ?_|refine QV (rr_shr rfl rfl hsh) ?_|refine QV (rr_aidx1 Und.eq TyC.ty rfl rfl hi) ?_|refine QV (rr_load1 TyC.ty rfl (at_rd hT hcell)) ?_|refine QV (rr_conv Und.eq Und.eq rfl (wrap_in (by omega) (by omega))) ?_|refine QV QeT ?_|refine QV QeF ?_)
  exact E_ret1 rfl rfl fun w hm => hm.ret
theorem rr_subw {P : Program} {n : Nat} {W : Base} {fr : Fr} {L : List Own} {dst : Option Tmp} {t u ty : TypeId} {pos : String} {after : Array Edge} {guard : Option (Nat × Bool)} {x y : Operand} {k : IntKind} {m m' r : Int} (hx : ev fr x = some (.int k m)) (hy : ev fr y = some (.int k m')) (h : k.wrap (m - m') = r) : RR P n W ⟨dst, .binOp .sub t x y u, ty, pos, after, guard⟩ fr L (.int k r) := h ▸ rr_sub hx hy
theorem shl6 : ∀ i : Nat, i < 4 → ∀ w, (Op.shift .shl .i64 (i : Int) .u64 6).run Tryd.prog w = .ok (.int .i64 ((64 * i : Nat) : Int)) w := fun i h w => by
  match i, h with
  | 0, _ => rfl
  | 1, _ => rfl
  | 2, _ => rfl
  | 3, _ => rfl
theorem or64i : ∀ i : Nat, i < 4 → ∀ t : Nat, t < 64 → bits .or .i64 ((64 * i : Nat) : Int) (t : Int) = ((64 * i + t : Nat) : Int) := by decide +kernel
/-- the bytes of a class, as a string -/
def strL (c : C4) : List UInt8 := (bytesL c).map UInt8.ofNat
def toL (c : C4) (i : Nat) : List UInt8 := (bytesTo c i).map UInt8.ofNat
def upL (i x : Nat) : List UInt8 := (bitsOf x).map fun j => UInt8.ofNat (64 * i + j)
theorem toL_next (c : C4) (i : Nat) : toL c (i + 1) = toL c i ++ upL i (c.get i).toNat := by
  simp only [toL, upL, bytesTo, List.map_append, List.map_map]; rfl
theorem u8of {m : Nat} (h : m < 256) : IntKind.u8.wrap (m : Int) = ((UInt8.ofNat m).toNat : Int) := by
  rw [IntKind.wrap_u8]; simp
set_option maxHeartbeats 1000000 in
theorem bytes_calls (c : C4) (w : World) (hT : TabW w) : Calls Tryd.prog 47 #[clsV c] w (Meets (ret (str (strL c))) w) := by
  refine enter (args := [.agg #[v64 c.a, v64 c.b, v64 c.c, v64 c.d]]) (n := 29) Tryd.func47 rfl rfl rfl ?_
  refine T_seq (T_region (TL_box rfl rfl rfl fun g => ?_))
  repeat(first|refine QV QP ?_|refine QZ ?_|refine qcT rfl ?_|refine qcF rfl ?_|refine E_blockX ?_|refine E_blockO rfl ?_|refine QV (rr_loadB (i := 0) TyC.ty rfl rfl rfl) ?_|refine QV QlT ?_|refine QV QlF ?_|refine QV QnT ?_|refine QV QnF ?_|refine QV QaA ?_)
  refine T_nil 5 1 ?_
  refine T_loop (ι := Nat × Value) (fun (i, _) => i ≤ 4) (fun (i, v) => [(3, v), (6, .agg #[v64 c.a, v64 c.b, v64 c.c, v64 c.d]), (7, .int .i64 (i : Int))]) (fun (i, v) => [blkO g (Value.agg #[v64 c.a, v64 c.b, v64 c.c, v64 c.d]).cells 36, rowO 5 1 v (toL c i).length ((toL c i).map u8v)]) (fun (i, _) => 4 - i) (0, .slice none 0 0) (by show 0 ≤ 4; omega) (by repeat' (first | exact True.intro | refine And.intro rfl ?_)) rfl ?_
  rintro ⟨i, v⟩ hi
  dsimp only at hi ⊢
  by_cases h4 : i < 4
  · have hc := cls_cell c i h4
    have hx := (c.get i).isLt
    have hnx := toL_next c i
    have hl : (toL c i).length ≤ 64 * i := by have := bytesTo_len c i; simpa [toL] using this
    have hsh := shl6 i h4
    have hor := or64i i h4
    repeat(first|refine QV QP ?_|refine QZ ?_|refine qcT rfl ?_|refine qcF rfl ?_|refine E_blockX ?_|refine E_blockO rfl ?_|refine QV (rr_arridx Und.eq TyC.ty rfl rfl h4 hc) ?_|refine QV QlT ?_|refine QV QlF ?_|refine QV QnT ?_|refine QV QnF ?_|refine QV QaA ?_)
    refine T_loop (ι := List UInt8 × Nat × Value) (fun (o, x, _) => o ++ upL i x = toL c (i + 1) ∧ x < 18446744073709551616 ∧ o.length + (bitsOf x).length ≤ 256) (fun (o, x, v) => [(3, v), (4, .int .i64 (i : Int)), (5, .int .u64 (x : Int)), (6, .agg #[v64 c.a, v64 c.b, v64 c.c, v64 c.d]), (7, .int .i64 (i : Int))]) (fun (o, _, v) => [blkO g (Value.agg #[v64 c.a, v64 c.b, v64 c.c, v64 c.d]).cells 36, rowO 5 1 v o.length (o.map u8v)]) (fun (_, x, _) => x) (toL c i, (c.get i).toNat, v) ⟨hnx.symm, hx, ?_⟩ (by repeat' (first | exact True.intro | refine And.intro rfl ?_)) rfl ?_
    · have := ones_le 64 (c.get i).toNat
      rw [bits_len]; omega
    clear hnx hl hx hc
    rintro ⟨o, x, v2⟩ ⟨k1, k2, k3⟩
    dsimp only at k1 k2 k3 ⊢
    by_cases h0 : x = 0
    · subst h0
      have e : o = toL c (i + 1) := by rw [← k1]; simp [upL, bits_zero]
      subst e
      repeat(first|refine QV QP ?_|refine QZ ?_|refine qcT rfl ?_|refine qcF rfl ?_|refine E_blockX ?_|refine E_blockO rfl ?_|refine QV QlT ?_|refine QV QlF ?_|refine QV QnT ?_|refine QV QnF ?_|refine QV QaA ?_)
      exact E_round (i + 1, v2) (by show i + 1 ≤ 4; omega) (by show 4 - (i + 1) < 4 - i; omega) (by repeat' (first | exact True.intro | refine And.intro rfl ?_)) rfl
    · obtain ⟨q1, q2, q3⟩ := bits_step x h0 k2
      have htz := tz_calls x k2 h0
      have hb : o.length + 1 ≤ 256 := by rw [q2] at k3; simp at k3; omega
      have hor2 := hor _ q1
      have ha := bits_and_u64_nat x (x - 1) k2 (by omega)
      have hsub : IntKind.u64.wrap ((x : Int) - 1) = ((x - 1 : Nat) : Int) := by rw [IntKind.wrap_u64]; omega
      have hu8 : IntKind.u8.wrap ((64 * i + Lib.ctz 64 x : Nat) : Int) = ((UInt8.ofNat (64 * i + Lib.ctz 64 x)).toNat : Int) := u8of (by omega)
      have hup : upL i x = UInt8.ofNat (64 * i + Lib.ctz 64 x) :: upL i (x &&& (x - 1)) := by simp [upL, q2]
      have hlen : (bitsOf x).length = (bitsOf (x &&& (x - 1))).length + 1 := by rw [q2]; rfl
      clear q2
      generalize Lib.ctz 64 x = z at *
      generalize x &&& (x - 1) = y at *
      repeat(first|refine QV QP ?_|refine QZ ?_|refine qcT rfl ?_|refine qcF rfl ?_|refine E_blockX ?_|refine E_blockO rfl ?_|refine QV (rr_shl rfl rfl hsh) ?_|refine QV QlT ?_|refine QV QlF ?_|refine QV QnT ?_|refine QV QnF ?_|refine QV QaA ?_)
      refine TL_call (he1 EntersC.en rfl rfl) (fun w hm => htz _ (hT.up hm)) rfl rfl rfl ?_
      intro _ _
      repeat(first|refine QV QP ?_|refine QZ ?_|refine qcT rfl ?_|refine qcF rfl ?_|refine E_blockX ?_|refine E_blockO rfl ?_|refine QV (rr_or rfl rfl hor2) ?_|refine QV (rr_conv Und.eq Und.eq rfl hu8) ?_|refine QV QlT ?_|refine QV QlF ?_|refine QV QnT ?_|refine QV QnF ?_|refine QV QaA ?_)
      refine TL_push1 (i := 1) rfl rfl rfl rfl rfl rfl (fun z h => by cases h; rfl) (by omega) (by omega) rfl fun z' v' => ?_
      repeat(first|refine QV QP ?_|refine QZ ?_|refine qcT rfl ?_|refine qcF rfl ?_|refine E_blockX ?_|refine E_blockO rfl ?_|refine QV (rr_subw rfl rfl hsub) ?_|refine QV (rr_and rfl rfl ha) ?_|refine QV QlT ?_|refine QV QlF ?_|refine QV QnT ?_|refine QV QnF ?_|refine QV QaA ?_)
      refine E_pick [0, 1] (by decide) rfl ?_
      exact E_round (o ++ [UInt8.ofNat (64 * i + z)], y, v') ⟨by rw [List.append_assoc, ← k1, hup]; rfl, by show y < _; omega, by show (o ++ [_]).length + (bitsOf y).length ≤ _; simp; omega⟩ q3 (by repeat' (first | exact True.intro | refine And.intro rfl ?_)) (by simp only [List.map_append, List.length_append, List.map_cons, List.map_nil, List.length_cons, List.length_nil]; rfl)
  · obtain rfl : i = 4 := by omega
    have hs : toL c 4 = strL c := by unfold toL strL; rw [bytes_to]
    rw [hs]
    repeat(first|refine QV QP ?_|refine QZ ?_|refine qcT rfl ?_|refine qcF rfl ?_|refine E_blockX ?_|refine E_blockO rfl ?_|refine QV (rr_string Und.eq Und.eq Und.eq rfl rfl (sl_row (i := 1) rfl)) ?_|refine QV QlT ?_|refine QV QlF ?_|refine QV QnT ?_|refine QV QnF ?_|refine QV QaA ?_)
    exact E_ret1 rfl rfl fun w hm => hm.ret
end Go.Proofs.YtakiohldgcifeaaDoor.eng


/- RexM -/
namespace Go.Proofs.YtakiohldgcifeaaDoor.eng
open Go.RowKit kit mix classL rexL classSets
/-! ### keys: a node and a place -/
abbrev At2 := Int × Int
/-! ### what the map holds -/
structure MOk (s : List UInt8) (N : Nat → Re) (m : At2 → Option Value) (n : Nat) : Prop where
  val : ∀ (k f : Nat) v, k < 100 → f ≤ s.length → m ((k : Int), (f : Int)) = some v → ∃ c, v = clsV c ∧ EndC s (N k) f c
  cnt : ∃ D : List Nat, D.Nodup ∧ D.length = n ∧ (∀ x ∈ D, x < 25600) ∧ ∀ (k f : Nat), k < 100 → f < 256 → ((m ((k : Int), (f : Int))).isSome = true ↔ k * 256 + f ∈ D)
theorem MOk.le {s : List UInt8} {N : Nat → Re} {m : At2 → Option Value} {n : Nat} (h : MOk s N m n) : n ≤ 25600 := by
  obtain ⟨D, h1, h2, h3, _⟩ := h.cnt
  rw [← h2]
  exact smallL.nodup_bound h1 h3
theorem MOk.set {s : List UInt8} {N : Nat → Re} {m : At2 → Option Value} {n : Nat} (h : MOk s N m n) (hs : s.length ≤ 200) {k f : Nat} (hk : k < 100) (hf : f ≤ s.length) {c : C4} (hc : EndC s (N k) f c) :
    MOk s N (fun y => if y = ((k : Int), (f : Int)) then some (clsV c) else m y) (if (m ((k : Int), (f : Int))).isSome then n else n + 1) := by
  refine ⟨fun k' f' v hk' hf' hv => ?_, ?_⟩
  · by_cases e : ((k' : Int), (f' : Int)) = ((k : Int), (f : Int))
    · rw [if_pos e] at hv
      simp only [Prod.mk.injEq] at e
      obtain rfl : k' = k := by omega
      obtain rfl : f' = f := by omega
      simp only [Option.some.injEq] at hv
      exact ⟨c, hv.symm, hc⟩
    · rw [if_neg e] at hv
      exact h.val k' f' v hk' hf' hv
  · obtain ⟨D, h1, h2, h3, h4⟩ := h.cnt
    by_cases e : (m ((k : Int), (f : Int))).isSome = true
    · rw [if_pos e]
      refine ⟨D, h1, h2, h3, fun k' f' hk' hf' => ?_⟩
      by_cases e2 : ((k' : Int), (f' : Int)) = ((k : Int), (f : Int))
      · rw [if_pos e2]
        simp only [Prod.mk.injEq] at e2
        obtain rfl : k' = k := by omega
        obtain rfl : f' = f := by omega
        simpa using (h4 k' f' hk' hf').1 e
      · rw [if_neg e2]
        exact h4 k' f' hk' hf'
    · rw [if_neg e]
      have hn : k * 256 + f ∉ D := fun hd => e ((h4 k f hk (by omega)).2 hd)
      refine ⟨(k * 256 + f) :: D, List.nodup_cons.2 ⟨hn, h1⟩, by rw [List.length_cons, h2], fun x hx => ?_, fun k' f' hk' hf' => ?_⟩
      · rcases List.mem_cons.1 hx with rfl | hx
        · omega
        · exact h3 x hx
      · by_cases e2 : ((k' : Int), (f' : Int)) = ((k : Int), (f : Int))
        · rw [if_pos e2]
          simp only [Prod.mk.injEq] at e2
          obtain rfl : k' = k := by omega
          obtain rfl : f' = f := by omega
          simp
        · rw [if_neg e2, h4 k' f' hk' hf', List.mem_cons]
          have : ¬ k' * 256 + f' = k * 256 + f := fun h => e2 (by
            have a : k' = k := by omega
            have b : f' = f := by omega
            rw [a, b])
          simp [this]
end Go.Proofs.YtakiohldgcifeaaDoor.eng


/- LookOk -/
namespace Go.Proofs.YtakiohldgcifeaaDoor.eng
open Go.RowKit kit mix
section
variable {P : Program} {k : TypeId} {κ : Type} (K : KeyT P k κ)
variable {n : Nat} {W : Base} {fr : Fr} {L : List Own} {dst : Option Tmp} {ty : TypeId} {pos : String} {after : Array Edge} {guard : Option (Nat × Bool)} {i g c : Nat} {t e : TypeId} {m : κ → Option Value} {x : κ} {z v : Value} {xm xk : Operand}
theorem rr_lookOkS (ht : P.underlying t = some (.map k e)) (hz : ∀ w, (zeroValue e).run P w = .ok z w) (hi : L[i]? = some (mapO K g m c)) (hm : ev fr xm = some (.map (some g))) (hk : ev fr xk = some (K.kv x)) (hx : K.ok x) (hv : m x = some v) : RR P n W ⟨dst, .lookup t xm xk true, ty, pos, after, guard⟩ fr L (.tuple #[v, .bool true]) := by
  have := rr_lookOk K (n := n) (W := W) (dst := dst) (ty := ty) (pos := pos) (after := after) (guard := guard) ht hz hi hm hk hx
  rw [hv] at this; exact this
theorem rr_lookOkN (ht : P.underlying t = some (.map k e)) (hz : ∀ w, (zeroValue e).run P w = .ok z w) (hi : L[i]? = some (mapO K g m c)) (hm : ev fr xm = some (.map (some g))) (hk : ev fr xk = some (K.kv x)) (hx : K.ok x) (hv : m x = none) : RR P n W ⟨dst, .lookup t xm xk true, ty, pos, after, guard⟩ fr L (.tuple #[z, .bool false]) := by
  have := rr_lookOk K (n := n) (W := W) (dst := dst) (ty := ty) (pos := pos) (after := after) (guard := guard) ht hz hi hm hk hx
  rw [hv] at this; exact this
end
end Go.Proofs.YtakiohldgcifeaaDoor.eng

/- RexE -/
namespace Go.Proofs.YtakiohldgcifeaaDoor.eng
open Go.RowKit kit mix classL rexL classSets
/-- on a star's way -/
structure StI (s : List UInt8) (a : Re) (f : Nat) (out now : C4) : Prop where
  sound : ∀ j, j < 256 → out.mem j = true → Rch (EndP a s) f j
  sub : ∀ j, j < 256 → now.mem j = true → out.mem j = true
  cl : ∀ i, i < 256 → out.mem i = true → now.mem i = false → ∀ j, EndP a s i j → out.mem j = true
  st : out.mem f = true
theorem StI.le {s : List UInt8} {a : Re} {f : Nat} {out now : C4} (h : StI s a f out now) (hf : f ≤ s.length) (j : Nat) (hj : j < 256) (hn : now.mem j = true) : j ≤ s.length :=
  ((end_star hf).2 (h.sound j hj (h.sub j hj hn))).2.1
end Go.Proofs.YtakiohldgcifeaaDoor.eng


/- RexPl -/
namespace Go.Proofs.YtakiohldgcifeaaDoor.eng
open Go.RowKit kit mix classL rexL classSets
theorem build_rexL (c : C4) (w : World) : (Instr.build 39 #[(0, .int .i64 3), (1, clsV c)]).run Tryd.prog w = .ok (rexV 3 c (.slice none 0 0)) w := by kernel_rfl
theorem build_rexK (k : Int) (w : World) : (Instr.build 39 #[(0, .int .i64 k)]).run Tryd.prog w = .ok (rexV k C4.zero (.slice none 0 0)) w := by kernel_rfl
theorem build_rexN (k : Int) (g n : Nat) (w : World) : (Instr.build 39 #[(0, .int .i64 k), (2, .slice (some ⟨g, 0, none⟩) n n)]).run Tryd.prog w = .ok (rexV k C4.zero (.slice (some ⟨g, 0, none⟩) n n)) w := by kernel_rfl
theorem letter_calls (b : Int) (w : World) (hb : kit.okI64 b) : Calls Tryd.prog 15 #[.int .i64 b] w (Meets (ret (rexV 3 (rangeF b b) (.slice none 0 0))) w) := by
  have hr := fun w => rangeE b b hb hb w
  have hbl := build_rexL (rangeF b b)
  generalize rangeF b b = c at *
  refine enter (args := [.int .i64 b]) (n := 7) Tryd.func15 rfl rfl rfl ?_
  refine T_seq (T_region (TL_new rfl fun g2 => ?_))
  conv=>arg 8;simp only[zA,zB,zC,zD,zE,zF,zG,zH,zI,rowS,ret,id_eq]
  repeat(first|refine QV QP ?_|refine QZ ?_)
  refine TL_call (he2 EntersC.en rfl rfl rfl) (fun w hm => hr _) rfl rfl rfl ?_
  intro _ _
  conv=>arg 8;simp only[zA,zB,zC,zD,zE,zF,zG,zH,zI,rowS,ret,id_eq]
  repeat(first|refine QV QP ?_|refine QZ ?_|refine QV (rr_build rfl hbl) ?_)
  refine TL_storeB (i := 0) (cs' := (rexC 3 c (.slice none 0 0)).toArray) rfl rfl rfl rfl rfl rfl ?_
  conv=>arg 8;simp only[zA,zB,zC,zD,zE,zF,zG,zH,zI,rowS,ret,id_eq]
  repeat(first|refine QV QP ?_|refine QZ ?_)
  exact E_retc1 (i := 0) rfl rfl rfl rfl fun w hm => hm.ret
/-- kids that were put into a list -/
def kidO (g : Nat) (l : List (List Value)) : Own := blkO g l.flatten.toArray 39
def twoS (k : Int) (cs cs' : List Value) : Spec Nat := ⟨fun _ => True, fun g => rexV k C4.zero (.slice (some ⟨g, 0, none⟩) 2 2), fun g => [kidO g [cs, cs']]⟩
end Go.Proofs.YtakiohldgcifeaaDoor.eng


/- RexP -/
namespace Go.Proofs.YtakiohldgcifeaaDoor.eng
open Go.RowKit kit mix classL rexL classSets
theorem emb_inj : ∀ {a b : Re}, emb a = emb b → a = b := by
  intro a
  induction a with
  | none => intro b h; cases b <;> simp [emb] at h ⊢
  | empty => intro b h; cases b <;> simp [emb] at h ⊢
  | byte c => intro b h; cases b <;> simp [emb] at h ⊢; exact h
  | cat x y ihx ihy =>
    intro b h
    cases b <;> simp [emb] at h ⊢
    exact ⟨ihx h.1, ihy h.2⟩
  | alt x y ihx ihy =>
    intro b h
    cases b <;> simp [emb] at h ⊢
    exact ⟨ihx h.1, ihy h.2⟩
  | star x ih =>
    intro b h
    cases b <;> simp [emb] at h ⊢
    exact ih h
end Go.Proofs.YtakiohldgcifeaaDoor.eng


/- RexJ -/
namespace Go.Proofs.YtakiohldgcifeaaDoor.eng
open Go.RowKit kit mix classL rexL classSets
def rdC (s : Txt) (st : RS) : Array Value := #[str s, .int .i64 (st.p : Int), .int .i64 (st.o : Int), .int .i64 st.e]
abbrev rdO (g : Nat) (s : Txt) (st : RS) : Own := blkO g (rdC s st) 95
theorem rd_cell {g : Nat} {s : Txt} {st : RS} {w : World} (hg : w.heap[g]? = some (.cells (rdC s st) 95 (0, 0))) (L : List Own) (j : Nat) (v : Value) (hj : (rdC s st)[j]? = some v) : At w L ⟨g, j, none⟩ v := at_old (by
  rw [cell_of_row w g j _ _ _ hg]; exact hj)
theorem u8eq {a b : UInt8} {c : Bool} (h : decide (a = b) = c) : decide ((a.toNat : Int) = (b.toNat : Int)) = c := by
  rw [← h]
  apply decide_eq_decide.2
  rw [← UInt8.toNat_inj]
  omega
set_option maxHeartbeats 2000000 in
theorem rdIs_calls (g : Nat) (s : Txt) (st : RS) (b : UInt8) (w : World) (hg : w.heap[g]? = some (.cells (rdC s st) 95 (0, 0))) :
    Calls Tryd.prog 69 #[.pointer (some ⟨g, 0, none⟩), .int .u8 (b.toNat : Int)] w (Meets (ret (.bool (isB s st b))) w) := by
  have hc := fun L j v => rd_cell (L := L) hg j v
  obtain ⟨p, o, e⟩ := st
  unfold isB
  dsimp only
  refine enter (args := [.pointer (some ⟨g, 0, none⟩), .int .u8 (b.toNat : Int)]) (n := 35) Tryd.func69 rfl rfl rfl ?_
  repeat(first|refine QV QP ?_|refine QZ ?_|refine qs rfl rfl rfl rfl rfl rfl ?_|((try refine qg rfl rfl rfl ?_);first|refine QV QP ?_|refine QV QA ?_|refine QV (rr_nilc rfl) ?_|refine QV QeT ?_|refine QV QeF ?_|refine QV QS ?_|refine QV QlT ?_|refine QV QlF ?_))
  by_cases c0 : e = 0
  · subst c0
    by_cases c1 : p < s.length
    · rw [List.getElem?_eq_getElem c1]
      have hx : s[p]? = some s[p] := List.getElem?_eq_getElem c1
      generalize s[p] = x at *
      cases hb : decide (x = b) with
      | true =>
        refine T_ord ([]) (.calm 0 (.calm 1 (.calm 2 (.calm 3 (.calm 4 (.calm 5 (.calm 6 (.calm 7 (.calm 8 (.calm 9 (.calm 10 (.calm 11 (.calm 12 (.calm 13 (.calm 14 (.calm 15 (.calm 16 (.calm 17 (.calm 18 (.calm 19 (.calm 20 (.calm 21 (.calm 22 (.calm 23 (.calm 24 (.calm 25 (.calm 26 (.calm 27 (.calm 28 (.calm 29 (.calm 30 (.done)))))))))))))))))))))))))))))))) (fun _ h => h) (by kernel_rfl) (by kernel_rfl) (by intro c a d v w h; cases d <;> exact h) ?_
        repeat(first|((first|refine TW_plain rfl rfl ?_|refine TW_gmet rfl rfl rfl rfl ?_);first|refine QW QP ?_|refine QW (rr_nilc rfl) ?_|refine QW (rr_load1 (v := .int .i64 0) TyC.ty rfl (hc _ 3 _ rfl)) ?_|refine QW (rr_load1 (v := .int .i64 (p : Int)) TyC.ty rfl (hc _ 1 _ rfl)) ?_|refine QW (rr_load1 (v := str s) TyC.ty rfl (hc _ 0 _ rfl)) ?_|refine QW (rr_eql (b := true) rfl rfl rfl) ?_|refine QW (rr_eql (b := true) rfl rfl (u8eq hb)) ?_|refine QW QA ?_|refine QW (rr_nilc rfl) ?_|refine QW QeT ?_|refine QW QeF ?_|refine QW (rr_stridx Und.eq rfl rfl (by omega) (by rw [Int.toNat_natCast]; exact hx)) ?_|refine QW QS ?_|refine QW QlT ?_|refine QW QlF ?_)|refine TW_skip rfl rfl rfl rfl rfl rfl rfl ?_|refine TW_done ?_)
        repeat(first|refine QV QP ?_|refine QZ ?_|refine qs rfl rfl rfl rfl rfl rfl ?_|((try refine qg rfl rfl rfl ?_);first|refine QV QP ?_|refine QV QA ?_|refine QV (rr_nilc rfl) ?_|refine QV QeT ?_|refine QV QeF ?_|refine QV QS ?_|refine QV QlT ?_|refine QV QlF ?_))
        exact E_ret1e rfl rfl (by simpa using hb)
      | false =>
        refine T_ord ([]) (.calm 0 (.calm 1 (.calm 2 (.calm 3 (.calm 4 (.calm 5 (.calm 6 (.calm 7 (.calm 8 (.calm 9 (.calm 10 (.calm 11 (.calm 12 (.calm 13 (.calm 14 (.calm 15 (.calm 16 (.calm 17 (.calm 18 (.calm 19 (.calm 20 (.calm 21 (.calm 22 (.calm 23 (.calm 24 (.calm 25 (.calm 26 (.calm 27 (.calm 28 (.calm 29 (.calm 30 (.done)))))))))))))))))))))))))))))))) (fun _ h => h) (by kernel_rfl) (by kernel_rfl) (by intro c a d v w h; cases d <;> exact h) ?_
        repeat(first|((first|refine TW_plain rfl rfl ?_|refine TW_gmet rfl rfl rfl rfl ?_);first|refine QW QP ?_|refine QW (rr_nilc rfl) ?_|refine QW (rr_load1 (v := .int .i64 0) TyC.ty rfl (hc _ 3 _ rfl)) ?_|refine QW (rr_load1 (v := .int .i64 (p : Int)) TyC.ty rfl (hc _ 1 _ rfl)) ?_|refine QW (rr_load1 (v := str s) TyC.ty rfl (hc _ 0 _ rfl)) ?_|refine QW (rr_eql (b := true) rfl rfl rfl) ?_|refine QW (rr_eql (b := false) rfl rfl (u8eq hb)) ?_|refine QW QA ?_|refine QW (rr_nilc rfl) ?_|refine QW QeT ?_|refine QW QeF ?_|refine QW (rr_stridx Und.eq rfl rfl (by omega) (by rw [Int.toNat_natCast]; exact hx)) ?_|refine QW QS ?_|refine QW QlT ?_|refine QW QlF ?_)|refine TW_skip rfl rfl rfl rfl rfl rfl rfl ?_|refine TW_done ?_)
        repeat(first|refine QV QP ?_|refine QZ ?_|refine qs rfl rfl rfl rfl rfl rfl ?_|((try refine qg rfl rfl rfl ?_);first|refine QV QP ?_|refine QV QA ?_|refine QV (rr_nilc rfl) ?_|refine QV QeT ?_|refine QV QeF ?_|refine QV QS ?_|refine QV QlT ?_|refine QV QlF ?_))
        exact E_ret1e rfl rfl (by simpa using hb)
    · rw [List.getElem?_eq_none (by omega)]
      refine T_ord ([]) (.calm 0 (.calm 1 (.calm 2 (.calm 3 (.calm 4 (.calm 5 (.calm 6 (.calm 7 (.calm 8 (.calm 9 (.calm 10 (.calm 11 (.calm 12 (.calm 13 (.calm 14 (.calm 15 (.calm 16 (.calm 17 (.calm 18 (.calm 19 (.calm 20 (.calm 21 (.calm 22 (.calm 23 (.calm 24 (.calm 25 (.calm 26 (.calm 27 (.calm 28 (.calm 29 (.calm 30 (.done)))))))))))))))))))))))))))))))) (fun _ h => h) (by kernel_rfl) (by kernel_rfl) (by intro c a d v w h; cases d <;> exact h) ?_
      repeat(first|((first|refine TW_plain rfl rfl ?_|refine TW_gmet rfl rfl rfl rfl ?_);first|refine QW QP ?_|refine QW (rr_nilc rfl) ?_|refine QW (rr_load1 (v := .int .i64 0) TyC.ty rfl (hc _ 3 _ rfl)) ?_|refine QW (rr_load1 (v := .int .i64 (p : Int)) TyC.ty rfl (hc _ 1 _ rfl)) ?_|refine QW (rr_load1 (v := str s) TyC.ty rfl (hc _ 0 _ rfl)) ?_|refine QW (rr_eql (b := true) rfl rfl rfl) ?_|refine QW QA ?_|refine QW (rr_nilc rfl) ?_|refine QW QeT ?_|refine QW QeF ?_|refine QW QS ?_|refine QW QlT ?_|refine QW QlF ?_)|refine TW_skip rfl rfl rfl rfl rfl rfl rfl ?_|refine TW_done ?_)
      repeat(first|refine QV QP ?_|refine QZ ?_|refine qs rfl rfl rfl rfl rfl rfl ?_|((try refine qg rfl rfl rfl ?_);first|refine QV QP ?_|refine QV QA ?_|refine QV (rr_nilc rfl) ?_|refine QV QeT ?_|refine QV QeF ?_|refine QV QS ?_|refine QV QlT ?_|refine QV QlF ?_))
      exact E_ret1e rfl rfl (by simp)
  · refine T_ord ([]) (.calm 0 (.calm 1 (.calm 2 (.calm 3 (.calm 4 (.calm 5 (.calm 6 (.calm 7 (.calm 8 (.calm 9 (.calm 10 (.calm 11 (.calm 12 (.calm 13 (.calm 14 (.calm 15 (.calm 16 (.calm 17 (.calm 18 (.calm 19 (.calm 20 (.calm 21 (.calm 22 (.calm 23 (.calm 24 (.calm 25 (.calm 26 (.calm 27 (.calm 28 (.calm 29 (.calm 30 (.done)))))))))))))))))))))))))))))))) (fun _ h => h) (by kernel_rfl) (by kernel_rfl) (by intro c a d v w h; cases d <;> exact h) ?_
    repeat(first|((first|refine TW_plain rfl rfl ?_|refine TW_gmet rfl rfl rfl rfl ?_);first|refine QW QP ?_|refine QW (rr_nilc rfl) ?_|refine QW (rr_load1 (v := .int .i64 e) TyC.ty rfl (hc _ 3 _ rfl)) ?_|refine QW (rr_eql (b := false) rfl rfl (decide_eq_false c0)) ?_|refine QW QA ?_|refine QW (rr_nilc rfl) ?_|refine QW QeT ?_|refine QW QeF ?_|refine QW QS ?_|refine QW QlT ?_|refine QW QlF ?_)|refine TW_skip rfl rfl rfl rfl rfl rfl rfl ?_|refine TW_done ?_)
    repeat(first|refine QV QP ?_|refine QZ ?_|refine qs rfl rfl rfl rfl rfl rfl ?_|((try refine qg rfl rfl rfl ?_);first|refine QV QP ?_|refine QV QA ?_|refine QV (rr_nilc rfl) ?_|refine QV QeT ?_|refine QV QeF ?_|refine QV QS ?_|refine QV QlT ?_|refine QV QlF ?_))
    exact E_ret1e rfl rfl (by simp [c0])
theorem idx_mem (l : Txt) (x : UInt8) : decide (0 ≤ Lib.indexByte l x) = decide (x ∈ l) := by
  cases h : l.idxOf? x with
  | none =>
    rw [idxB_none h]
    rw [List.idxOf?_eq_none_iff] at h
    simp [h]
  | some i =>
    rw [idxB_some h]
    have : x ∈ l := by
      rcases Classical.em (x ∈ l) with hm | hm
      · exact hm
      · rw [List.idxOf?_eq_none_iff.2 hm] at h; cases h
    simp [this]
theorem idx_ends (x : UInt8) : (decide (0 ≤ Lib.indexByte [124, 41] x)) = (decide (x = 124) || decide (x = 41)) := by
  rw [idx_mem, ← Bool.decide_or]
  apply decide_eq_decide.2
  simp
set_option maxHeartbeats 2000000 in
theorem rdEnds_calls (g : Nat) (s : Txt) (st : RS) (w : World) (hp : st.p ≤ s.length) (hg : w.heap[g]? = some (.cells (rdC s st) 95 (0, 0))) :
    Calls Tryd.prog 68 #[.pointer (some ⟨g, 0, none⟩)] w (Meets (ret (.bool (endsB s st))) w) := by
  have hc := fun L j v => rd_cell (L := L) hg j v
  obtain ⟨p, o, e⟩ := st
  unfold endsB isB
  dsimp only at hp ⊢
  refine enter (args := [.pointer (some ⟨g, 0, none⟩)]) (n := 33) Tryd.func68 rfl rfl rfl ?_
  repeat(first|refine QV QP ?_|refine QZ ?_|refine qs rfl rfl rfl rfl rfl rfl ?_|((try refine qg rfl rfl rfl ?_);first|refine QV QP ?_|refine QV QA ?_|refine QV (rr_nilc rfl) ?_|refine QV QnT ?_|refine QV QnF ?_|refine QV QS ?_|refine QV QhT ?_|refine QV QhF ?_|refine QV QeT ?_|refine QV QeF ?_))
  by_cases c0 : e = 0
  · subst c0
    by_cases c1 : p < s.length
    · rw [List.getElem?_eq_getElem c1]
      have hx : s[p]? = some s[p] := List.getElem?_eq_getElem c1
      generalize s[p] = x at *
      have hi := idx_ends x
      have hcl := fun w => idxB_calls [124, 41] x w
      generalize Lib.indexByte [124, 41] x = r at *
      refine T_ord ([]) (.calm 0 (.calm 1 (.calm 2 (.calm 3 (.calm 4 (.calm 5 (.calm 6 (.calm 7 (.calm 8 (.calm 9 (.calm 10 (.calm 11 (.calm 12 (.calm 13 (.calm 14 (.calm 15 (.calm 16 (.calm 17 (.calm 18 (.calm 19 (.calm 20 (.calm 21 (.calm 22 (.calm 23 (.calm 24 (.calm 25 (.calm 26 (.calm 27 (.calm 28 (.calm 29 (.calm 30 (.done)))))))))))))))))))))))))))))))) (fun _ h => h) (by kernel_rfl) (by kernel_rfl) (by intro c a d v w h; cases d <;> exact h) ?_
      repeat(first|((first|refine TW_plain rfl rfl ?_|refine TW_gmet rfl rfl rfl rfl ?_);first|refine QW QP ?_|refine QW (rr_nilc rfl) ?_|refine QW (rr_load1 (v := .int .i64 0) TyC.ty rfl (hc _ 3 _ rfl)) ?_|refine QW (rr_load1 (v := .int .i64 (p : Int)) TyC.ty rfl (hc _ 1 _ rfl)) ?_|refine QW (rr_load1 (v := str s) TyC.ty rfl (hc _ 0 _ rfl)) ?_|refine QW (rr_neq (b := false) rfl rfl rfl) ?_|refine QW QA ?_|refine QW (rr_nilc rfl) ?_|refine QW QnT ?_|refine QW QnF ?_|refine QW (rr_stridx Und.eq rfl rfl (by omega) (by rw [Int.toNat_natCast]; exact hx)) ?_|refine QW QS ?_|refine QW QhT ?_|refine QW QhF ?_|refine QW QeT ?_|refine QW QeF ?_)|refine TW_skip rfl rfl rfl rfl rfl rfl rfl ?_|refine TW_done ?_)
      refine TW_gcall rfl (he2 EntersC.en rfl rfl rfl) (fun w hm => hcl _) rfl rfl rfl rfl rfl ?_
      repeat(first|((first|refine TW_plain rfl rfl ?_|refine TW_gmet rfl rfl rfl rfl ?_);first|refine QW QP ?_|refine QW QA ?_|refine QW (rr_nilc rfl) ?_|refine QW QnT ?_|refine QW QnF ?_|refine QW (rr_geq rfl rfl hi) ?_|refine QW QS ?_|refine QW QhT ?_|refine QW QhF ?_|refine QW QeT ?_|refine QW QeF ?_)|refine TW_skip rfl rfl rfl rfl rfl rfl rfl ?_|refine TW_done ?_)
      repeat(first|refine QV QP ?_|refine QZ ?_|refine qs rfl rfl rfl rfl rfl rfl ?_|((try refine qg rfl rfl rfl ?_);first|refine QV QP ?_|refine QV QA ?_|refine QV (rr_nilc rfl) ?_|refine QV QnT ?_|refine QV QnF ?_|refine QV QS ?_|refine QV QhT ?_|refine QV QhF ?_|refine QV QeT ?_|refine QV QeF ?_))
      exact E_ret1e rfl rfl (by rw [decide_eq_false (show ¬ p = s.length by omega)]; simp)
    · obtain rfl : p = s.length := by omega
      refine T_ord ([]) (.calm 0 (.calm 1 (.calm 2 (.calm 3 (.calm 4 (.calm 5 (.calm 6 (.calm 7 (.calm 8 (.calm 9 (.calm 10 (.calm 11 (.calm 12 (.calm 13 (.calm 14 (.calm 15 (.calm 16 (.calm 17 (.calm 18 (.calm 19 (.calm 20 (.calm 21 (.calm 22 (.calm 23 (.calm 24 (.calm 25 (.calm 26 (.calm 27 (.calm 28 (.calm 29 (.calm 30 (.done)))))))))))))))))))))))))))))))) (fun _ h => h) (by kernel_rfl) (by kernel_rfl) (by intro c a d v w h; cases d <;> exact h) ?_
      repeat(first|((first|refine TW_plain rfl rfl ?_|refine TW_gmet rfl rfl rfl rfl ?_);first|refine QW QP ?_|refine QW (rr_nilc rfl) ?_|refine QW (rr_load1 (v := .int .i64 0) TyC.ty rfl (hc _ 3 _ rfl)) ?_|refine QW (rr_load1 (v := .int .i64 (s.length : Int)) TyC.ty rfl (hc _ 1 _ rfl)) ?_|refine QW (rr_load1 (v := str s) TyC.ty rfl (hc _ 0 _ rfl)) ?_|refine QW (rr_neq (b := false) rfl rfl rfl) ?_|refine QW QA ?_|refine QW (rr_nilc rfl) ?_|refine QW QnT ?_|refine QW QnF ?_|refine QW QS ?_|refine QW QhT ?_|refine QW QhF ?_|refine QW QeT ?_|refine QW QeF ?_)|refine TW_skip rfl rfl rfl rfl rfl rfl rfl ?_|refine TW_done ?_)
      repeat(first|refine QV QP ?_|refine QZ ?_|refine qs rfl rfl rfl rfl rfl rfl ?_|((try refine qg rfl rfl rfl ?_);first|refine QV QP ?_|refine QV QA ?_|refine QV (rr_nilc rfl) ?_|refine QV QnT ?_|refine QV QnF ?_|refine QV QS ?_|refine QV QhT ?_|refine QV QhF ?_|refine QV QeT ?_|refine QV QeF ?_))
      exact E_ret1e rfl rfl (by simp)
  · refine T_ord ([]) (.calm 0 (.calm 1 (.calm 2 (.calm 3 (.calm 4 (.calm 5 (.calm 6 (.calm 7 (.calm 8 (.calm 9 (.calm 10 (.calm 11 (.calm 12 (.calm 13 (.calm 14 (.calm 15 (.calm 16 (.calm 17 (.calm 18 (.calm 19 (.calm 20 (.calm 21 (.calm 22 (.calm 23 (.calm 24 (.calm 25 (.calm 26 (.calm 27 (.calm 28 (.calm 29 (.calm 30 (.done)))))))))))))))))))))))))))))))) (fun _ h => h) (by kernel_rfl) (by kernel_rfl) (by intro c a d v w h; cases d <;> exact h) ?_
    repeat(first|((first|refine TW_plain rfl rfl ?_|refine TW_gmet rfl rfl rfl rfl ?_);first|refine QW QP ?_|refine QW (rr_nilc rfl) ?_|refine QW (rr_load1 (v := .int .i64 e) TyC.ty rfl (hc _ 3 _ rfl)) ?_|refine QW (rr_neq (b := true) rfl rfl (decide_eq_true c0)) ?_|refine QW QA ?_|refine QW (rr_nilc rfl) ?_|refine QW QnT ?_|refine QW QnF ?_|refine QW QS ?_|refine QW QhT ?_|refine QW QhF ?_|refine QW QeT ?_|refine QW QeF ?_)|refine TW_skip rfl rfl rfl rfl rfl rfl rfl ?_|refine TW_done ?_)
    repeat(first|refine QV QP ?_|refine QZ ?_|refine qs rfl rfl rfl rfl rfl rfl ?_|((try refine qg rfl rfl rfl ?_);first|refine QV QP ?_|refine QV QA ?_|refine QV (rr_nilc rfl) ?_|refine QV QnT ?_|refine QV QnF ?_|refine QV QS ?_|refine QV QhT ?_|refine QV QhF ?_|refine QV QeT ?_|refine QV QeF ?_))
    exact E_ret1e rfl rfl (by simp [c0])
theorem rdFail_calls (g : Nat) (s : Txt) (st : RS) (e : Int) (w : World) (B : Base) (hm : Mem B [rdO g s st] w) :
    Calls Tryd.prog 42 #[.pointer (some ⟨g, 0, none⟩), .int .i64 e] w (MeetsB ⟨fun (_ : Unit) => True, fun _ => .tuple #[], fun _ => [rdO g s (failS st e)]⟩ B) := by
  obtain ⟨p, o, e0⟩ := st
  unfold failS
  dsimp only
  refine enterB hm (args := [.pointer (some ⟨g, 0, none⟩), .int .i64 e]) (n := 13) Tryd.func42 rfl rfl rfl ?_
  clear hm
  by_cases c0 : e0 = 0
  · subst c0
    rw [if_pos rfl]
    repeat(first|refine QV QP ?_|refine QZ ?_|refine qcT rfl ?_|refine qcF rfl ?_|refine QV (rr_nilc rfl) ?_|refine QV (rr_load1 (v := .int .i64 0) TyC.ty rfl (at_blk (i := 0) rfl rfl)) ?_|refine QV (rr_eql (b := true) rfl rfl rfl) ?_|refine QV QA ?_|refine QV (rr_nilc rfl) ?_|refine QV QeT ?_|refine QV QeF ?_)
    refine TL_store1 (i := 0) rfl rfl rfl rfl rfl rfl ?_
    rw [show (rdC s ⟨p, o, 0⟩).setIfInBounds (0 + 3) (.int .i64 e) = rdC s ⟨p, o, e⟩ from rfl]
    conv=>arg 8;simp only[zA,zB,zC,zD,zE,zF,zG,zH,zI,rowS,ret,id_eq]
    repeat(first|refine QV QP ?_|refine QZ ?_|refine qcT rfl ?_|refine qcF rfl ?_|refine QV QA ?_|refine QV (rr_nilc rfl) ?_|refine QV QeT ?_|refine QV QeF ?_)
    exact E_end0 rfl fun w hm => hm.meetsB (S := ⟨fun (_ : Unit) => True, fun _ => .tuple #[], fun _ => [rdO g s ⟨p, o, e⟩]⟩) () trivial [0] (by decide) rfl
  · rw [if_neg c0]
    repeat(first|refine QV QP ?_|refine QZ ?_|refine qcT rfl ?_|refine qcF rfl ?_|refine QV (rr_nilc rfl) ?_|refine QV (rr_load1 (v := .int .i64 e0) TyC.ty rfl (at_blk (i := 0) rfl rfl)) ?_|refine QV (rr_eql (b := false) rfl rfl (decide_eq_false c0)) ?_|refine QV QA ?_|refine QV (rr_nilc rfl) ?_|refine QV QeT ?_|refine QV QeF ?_)
    exact E_end0 rfl fun w hm => hm.meetsB (S := ⟨fun (_ : Unit) => True, fun _ => .tuple #[], fun _ => [rdO g s ⟨p, o, e0⟩]⟩) () trivial [0] (by decide) rfl
theorem rd_up (s : Txt) (p o : Nat) (e : Int) : (rdC s ⟨p, o, e⟩).setIfInBounds (0 + 1) (.int .i64 ((p + 1 : Nat) : Int)) = rdC s ⟨p + 1, o, e⟩ := rfl
theorem rdTake_calls (g : Nat) (s : Txt) (st : RS) (b : UInt8) (w : World) (B : Base) (hs : s.length ≤ 1000000) (hm : Mem B [rdO g s st] w) :
    Calls Tryd.prog 57 #[.pointer (some ⟨g, 0, none⟩), .int .u8 (b.toNat : Int)] w (MeetsB ⟨fun (_ : Unit) => True, fun _ => .bool (isB s st b), fun _ => [rdO g s (takeS s st b)]⟩ B) := by
  obtain ⟨p, o, e0⟩ := st
  have hlt := fun h => isB_lt (s := s) (st := ⟨p, o, e0⟩) (b := b) h
  have hcl := fun w h => rdIs_calls g s ⟨p, o, e0⟩ b w h
  unfold takeS
  refine enterB hm (args := [.pointer (some ⟨g, 0, none⟩), .int .u8 (b.toNat : Int)]) (n := 15) Tryd.func57 rfl rfl rfl ?_
  clear hm
  repeat(first|refine QV QP ?_|refine QZ ?_|refine qcT rfl ?_|refine qcF rfl ?_|refine QV QA ?_|refine QV (rr_nilc rfl) ?_|refine QV QaA ?_)
  refine TL_call (he2 EntersC.en rfl rfl rfl) (fun w hm => hcl w (hm.get (i := 0) rfl)) rfl rfl rfl ?_
  intro _ _
  conv=>arg 8;simp only[zA,zB,zC,zD,zE,zF,zG,zH,zI,rowS,ret,id_eq]
  cases hb : isB s ⟨p, o, e0⟩ b with
  | true =>
    have := (hlt hb).2.1
    dsimp only at this
    repeat(first|refine QV QP ?_|refine QZ ?_|refine qcT rfl ?_|refine qcF rfl ?_|refine QV (rr_nilc rfl) ?_|refine QV (rr_load1 (v := .int .i64 (p : Int)) TyC.ty rfl (at_blk (i := 0) rfl rfl)) ?_|refine QV (rr_add64 (r := ((p + 1 : Nat) : Int)) rfl rfl (by omega) (by omega) (by omega)) ?_|refine QV QA ?_|refine QV (rr_nilc rfl) ?_|refine QV QaA ?_)
    refine TL_store1 (i := 0) rfl rfl rfl rfl rfl rfl ?_
    rw [rd_up]
    conv=>arg 8;simp only[zA,zB,zC,zD,zE,zF,zG,zH,zI,rowS,ret,id_eq]
    repeat(first|refine QV QP ?_|refine QZ ?_|refine qcT rfl ?_|refine qcF rfl ?_|refine QV QA ?_|refine QV (rr_nilc rfl) ?_|refine QV QaA ?_)
    exact E_ret1 rfl rfl fun w hm => hm.meetsB (S := ⟨fun (_ : Unit) => True, fun _ => .bool true, fun _ => [rdO g s ⟨p + 1, o, e0⟩]⟩) () trivial [0] (by decide) rfl
  | false =>
    repeat(first|refine QV QP ?_|refine QZ ?_|refine qcT rfl ?_|refine qcF rfl ?_|refine QV QA ?_|refine QV (rr_nilc rfl) ?_|refine QV QaA ?_)
    exact E_ret1 rfl rfl fun w hm => hm.meetsB (S := ⟨fun (_ : Unit) => True, fun _ => .bool false, fun _ => [rdO g s ⟨p, o, e0⟩]⟩) () trivial [0] (by decide) rfl
end Go.Proofs.YtakiohldgcifeaaDoor.eng


/- RexK -/
namespace Go.Proofs.YtakiohldgcifeaaDoor.eng
open Go.RowKit kit mix classL rexL classSets
theorem failS_0 (p o : Nat) (e : Int) : failS ⟨p, o, 0⟩ e = ⟨p, o, e⟩ := rfl
theorem failS_ne {p o : Nat} {e0 : Int} (h : e0 ≠ 0) (e : Int) : failS ⟨p, o, e0⟩ e = ⟨p, o, e0⟩ := by unfold failS; rw [if_neg h]
def byteSp (g : Nat) (s : Txt) (R : UInt8 × RS) : Spec Unit := ⟨fun _ => True, fun _ => .int .u8 (R.1.toNat : Int), fun _ => [rdO g s R.2]⟩
theorem hexL_lt {b : UInt8} {n : Nat} (h : hexL.idxOf? b = some n) : n < 16 := by
  have : n < hexL.length := by
    rw [List.idxOf?, List.findIdx?_eq_some_iff_getElem] at h
    exact h.1
  exact this
theorem u8conv {n : Nat} (h : n < 256) : IntKind.u8.wrap (n : Int) = ((UInt8.ofNat n).toNat : Int) := u8of h
set_option maxHeartbeats 4000000 in
theorem rdDigit_calls (g : Nat) (s : Txt) (st : RS) (w : World) (B : Base) (hs : s.length ≤ 1000000) (hp : st.p ≤ s.length) (hm : Mem B [rdO g s st] w) :
    Calls Tryd.prog 82 #[.pointer (some ⟨g, 0, none⟩)] w (MeetsB (byteSp g s (digitS s st)) B) := by
  obtain ⟨p, o, e⟩ := st
  dsimp only at hp
  unfold digitS
  dsimp only
  have hf := fun w B hm => rdFail_calls g s ⟨p, o, e⟩ 6 w B hm
  refine enterB hm (args := [.pointer (some ⟨g, 0, none⟩)]) (n := 44) Tryd.func82 rfl rfl rfl ?_
  clear hm
  repeat(first|refine qv rfl (qp rfl) rfl rfl ?_|refine TL_nil ?_|refine T_seq ?_|refine T_region ?_|refine qcT rfl ?_|refine qcF rfl ?_|refine T_skip ?_|refine T_ret ?_|refine E_then ?_|refine E_thenR ?_|refine qs rfl rfl rfl rfl rfl rfl ?_|((try refine qg rfl rfl rfl ?_);first|refine qv rfl (qp rfl) rfl rfl ?_|refine qv rfl (qfld FldC.fld rfl rfl) rfl rfl ?_|refine qv rfl (rr_nilc rfl) rfl rfl ?_|refine qv rfl (rr_geq rfl rfl (qT (by omega))) rfl rfl ?_|refine qv rfl (rr_geq rfl rfl (qF (by omega))) rfl rfl ?_|refine qv rfl (rr_eql rfl rfl (qT (by omega))) rfl rfl ?_|refine qv rfl (rr_eql rfl rfl (qF (by omega))) rfl rfl ?_|refine qv rfl (rr_add64 rfl rfl (by omega) (by omega) rfl) rfl rfl ?_|refine qv rfl (rr_strlen Und.eq rfl) rfl rfl ?_|refine qv rfl (rr_lss rfl rfl (qT (by omega))) rfl rfl ?_|refine qv rfl (rr_lss rfl rfl (qF (by omega))) rfl rfl ?_))
  by_cases c0 : e = 0
  · subst c0
    rw [if_pos rfl]
    by_cases c1 : p < s.length
    · have hx : s[p]? = some s[p] := List.getElem?_eq_getElem c1
      rw [List.getElem?_eq_getElem c1]
      generalize s[p] = x at *
      dsimp only
      have hcl := fun w => idxB_calls hexL x w
      refine T_ord ([rdO g s ⟨p, o, 0⟩]) (.calm 0 (.calm 1 (.calm 2 (.calm 3 (.calm 4 (.calm 5 (.calm 6 (.calm 7 (.calm 8 (.calm 9 (.calm 10 (.calm 11 (.calm 12 (.calm 13 (.calm 14 (.calm 15 (.calm 16 (.done)))))))))))))))))) (fun _ h => h) (by kernel_rfl) (by kernel_rfl) (by intro c a d v w h; cases d <;> exact h) ?_
      repeat(first|((first|refine TW_plain rfl rfl ?_|refine TW_gmet rfl rfl rfl rfl ?_);first|refine TN_val (qp rfl) rfl rfl ?_|refine TN_val (rr_nilc rfl) rfl rfl ?_|refine TN_val (rr_load1 (v := .int .i64 0) TyC.ty rfl (at_blk (i := 0) rfl rfl)) rfl rfl ?_|refine TN_val (rr_load1 (v := .int .i64 (p : Int)) TyC.ty rfl (at_blk (i := 0) rfl rfl)) rfl rfl ?_|refine TN_val (rr_load1 (v := str s) TyC.ty rfl (at_blk (i := 0) rfl rfl)) rfl rfl ?_|refine TN_val (rr_eql (b := true) rfl rfl rfl) rfl rfl ?_|refine TN_val (qfld FldC.fld rfl rfl) rfl rfl ?_|refine TN_val (rr_nilc rfl) rfl rfl ?_|refine TN_val (rr_geq rfl rfl (qT (by omega))) rfl rfl ?_|refine TN_val (rr_geq rfl rfl (qF (by omega))) rfl rfl ?_|refine TN_val (rr_eql rfl rfl (qT (by omega))) rfl rfl ?_|refine TN_val (rr_eql rfl rfl (qF (by omega))) rfl rfl ?_|refine TN_val (rr_add64 rfl rfl (by omega) (by omega) rfl) rfl rfl ?_|refine TN_val (rr_strlen Und.eq rfl) rfl rfl ?_|refine TN_val (rr_lss rfl rfl (qT (by omega))) rfl rfl ?_|refine TN_val (rr_lss rfl rfl (qF (by omega))) rfl rfl ?_)|refine TW_skip rfl rfl rfl rfl rfl rfl rfl ?_|refine TW_done ?_)
      repeat(first|refine qv rfl (qp rfl) rfl rfl ?_|refine TL_nil ?_|refine T_seq ?_|refine T_region ?_|refine qcT rfl ?_|refine qcF rfl ?_|refine T_skip ?_|refine T_ret ?_|refine E_then ?_|refine E_thenR ?_|refine qs rfl rfl rfl rfl rfl rfl ?_|((try refine qg rfl rfl rfl ?_);first|refine qv rfl (qp rfl) rfl rfl ?_|refine qv rfl (qfld FldC.fld rfl rfl) rfl rfl ?_|refine qv rfl (rr_nilc rfl) rfl rfl ?_|refine qv rfl (rr_geq rfl rfl (qT (by omega))) rfl rfl ?_|refine qv rfl (rr_geq rfl rfl (qF (by omega))) rfl rfl ?_|refine qv rfl (rr_eql rfl rfl (qT (by omega))) rfl rfl ?_|refine qv rfl (rr_eql rfl rfl (qF (by omega))) rfl rfl ?_|refine qv rfl (rr_add64 rfl rfl (by omega) (by omega) rfl) rfl rfl ?_|refine qv rfl (rr_strlen Und.eq rfl) rfl rfl ?_|refine qv rfl (rr_lss rfl rfl (qT (by omega))) rfl rfl ?_|refine qv rfl (rr_lss rfl rfl (qF (by omega))) rfl rfl ?_))
      cases hi : hexL.idxOf? x with
      | some n =>
        have hn := hexL_lt hi
        rw [idxB_some hi] at hcl
        dsimp only
        refine T_ord ([rdO g s ⟨p, o, 0⟩]) (.calm 0 (.calm 1 (.calm 2 (.calm 3 (.calm 4 (.calm 5 (.calm 6 (.calm 7 (.calm 8 (.calm 9 (.calm 10 (.done)))))))))))) (fun _ h => h) (by kernel_rfl) (by kernel_rfl) (by intro c a d v w h; cases d <;> exact h) ?_
        repeat(first|((first|refine TW_plain rfl rfl ?_|refine TW_gmet rfl rfl rfl rfl ?_);first|refine TN_val (qp rfl) rfl rfl ?_|refine TN_val (rr_nilc rfl) rfl rfl ?_|refine TN_val (rr_load1 (v := .int .i64 (p : Int)) TyC.ty rfl (at_blk (i := 0) rfl rfl)) rfl rfl ?_|refine TN_val (rr_load1 (v := str s) TyC.ty rfl (at_blk (i := 0) rfl rfl)) rfl rfl ?_|refine TN_val (rr_stridx Und.eq rfl rfl (by omega) (by rw [Int.toNat_natCast]; exact hx)) rfl rfl ?_|refine TN_val (qfld FldC.fld rfl rfl) rfl rfl ?_|refine TN_val (rr_nilc rfl) rfl rfl ?_|refine TN_val (rr_geq rfl rfl (qT (by omega))) rfl rfl ?_|refine TN_val (rr_geq rfl rfl (qF (by omega))) rfl rfl ?_|refine TN_val (rr_eql rfl rfl (qT (by omega))) rfl rfl ?_|refine TN_val (rr_eql rfl rfl (qF (by omega))) rfl rfl ?_|refine TN_val (rr_add64 rfl rfl (by omega) (by omega) rfl) rfl rfl ?_|refine TN_val (rr_strlen Und.eq rfl) rfl rfl ?_|refine TN_val (rr_lss rfl rfl (qT (by omega))) rfl rfl ?_|refine TN_val (rr_lss rfl rfl (qF (by omega))) rfl rfl ?_)|refine TW_skip rfl rfl rfl rfl rfl rfl rfl ?_|refine TW_done ?_)
        refine TW_call rfl (he2 EntersC.en rfl rfl rfl) (fun w hm => hcl _) rfl rfl rfl ?_
        repeat(first|((first|refine TW_plain rfl rfl ?_|refine TW_gmet rfl rfl rfl rfl ?_);first|refine TN_val (qp rfl) rfl rfl ?_|refine TN_val (qfld FldC.fld rfl rfl) rfl rfl ?_|refine TN_val (rr_nilc rfl) rfl rfl ?_|refine TN_val (rr_geq rfl rfl (qT (by omega))) rfl rfl ?_|refine TN_val (rr_geq rfl rfl (qF (by omega))) rfl rfl ?_|refine TN_val (rr_eql rfl rfl (qT (by omega))) rfl rfl ?_|refine TN_val (rr_eql rfl rfl (qF (by omega))) rfl rfl ?_|refine TN_val (rr_add64 rfl rfl (by omega) (by omega) rfl) rfl rfl ?_|refine TN_val (rr_strlen Und.eq rfl) rfl rfl ?_|refine TN_val (rr_lss rfl rfl (qT (by omega))) rfl rfl ?_|refine TN_val (rr_lss rfl rfl (qF (by omega))) rfl rfl ?_)|refine TW_skip rfl rfl rfl rfl rfl rfl rfl ?_|refine TW_done ?_)
        repeat(first|refine qv rfl (qp rfl) rfl rfl ?_|refine TL_nil ?_|refine T_seq ?_|refine T_region ?_|refine qcT rfl ?_|refine qcF rfl ?_|refine T_skip ?_|refine T_ret ?_|refine E_then ?_|refine E_thenR ?_|refine qs rfl rfl rfl rfl rfl rfl ?_|((try refine qg rfl rfl rfl ?_);first|refine qv rfl (qp rfl) rfl rfl ?_|refine qv rfl (rr_nilc rfl) rfl rfl ?_|refine qv rfl (rr_load1 (v := .int .i64 (p : Int)) TyC.ty rfl (at_blk (i := 0) rfl rfl)) rfl rfl ?_|refine qv rfl (rr_add64 (r := ((p + 1 : Nat) : Int)) rfl rfl (by omega) (by omega) (by omega)) rfl rfl ?_|refine qv rfl (qfld FldC.fld rfl rfl) rfl rfl ?_|refine qv rfl (rr_nilc rfl) rfl rfl ?_|refine qv rfl (rr_geq rfl rfl (qT (by omega))) rfl rfl ?_|refine qv rfl (rr_geq rfl rfl (qF (by omega))) rfl rfl ?_|refine qv rfl (rr_eql rfl rfl (qT (by omega))) rfl rfl ?_|refine qv rfl (rr_eql rfl rfl (qF (by omega))) rfl rfl ?_|refine qv rfl (rr_add64 rfl rfl (by omega) (by omega) rfl) rfl rfl ?_|refine qv rfl (rr_strlen Und.eq rfl) rfl rfl ?_|refine qv rfl (rr_lss rfl rfl (qT (by omega))) rfl rfl ?_|refine qv rfl (rr_lss rfl rfl (qF (by omega))) rfl rfl ?_))
        refine TL_store1 (i := 0) rfl rfl rfl rfl rfl rfl ?_
        rw [rd_up]
        conv=>arg 8;simp only[zA,zB,zC,zD,zE,zF,zG,zH,zI,rowS,ret,id_eq]
        repeat(first|refine qv rfl (qp rfl) rfl rfl ?_|refine TL_nil ?_|refine T_seq ?_|refine T_region ?_|refine qcT rfl ?_|refine qcF rfl ?_|refine T_skip ?_|refine T_ret ?_|refine E_then ?_|refine E_thenR ?_|refine qs rfl rfl rfl rfl rfl rfl ?_|((try refine qg rfl rfl rfl ?_);first|refine qv rfl (qp rfl) rfl rfl ?_|refine qv rfl (rr_conv Und.eq Und.eq rfl (u8conv (by omega))) rfl rfl ?_|refine qv rfl (qfld FldC.fld rfl rfl) rfl rfl ?_|refine qv rfl (rr_nilc rfl) rfl rfl ?_|refine qv rfl (rr_geq rfl rfl (qT (by omega))) rfl rfl ?_|refine qv rfl (rr_geq rfl rfl (qF (by omega))) rfl rfl ?_|refine qv rfl (rr_eql rfl rfl (qT (by omega))) rfl rfl ?_|refine qv rfl (rr_eql rfl rfl (qF (by omega))) rfl rfl ?_|refine qv rfl (rr_add64 rfl rfl (by omega) (by omega) rfl) rfl rfl ?_|refine qv rfl (rr_strlen Und.eq rfl) rfl rfl ?_|refine qv rfl (rr_lss rfl rfl (qT (by omega))) rfl rfl ?_|refine qv rfl (rr_lss rfl rfl (qF (by omega))) rfl rfl ?_))
        exact E_ret1 rfl rfl fun w hm => hm.meetsB (S := byteSp g s (UInt8.ofNat n, ⟨p + 1, o, 0⟩)) () trivial [0] (by decide) rfl
      | none =>
        rw [idxB_none hi] at hcl
        dsimp only
        refine T_ord ([rdO g s ⟨p, o, 0⟩]) (.calm 0 (.calm 1 (.calm 2 (.calm 3 (.calm 4 (.calm 5 (.calm 6 (.calm 7 (.calm 8 (.calm 9 (.calm 10 (.done)))))))))))) (fun _ h => h) (by kernel_rfl) (by kernel_rfl) (by intro c a d v w h; cases d <;> exact h) ?_
        repeat(first|((first|refine TW_plain rfl rfl ?_|refine TW_gmet rfl rfl rfl rfl ?_);first|refine TN_val (qp rfl) rfl rfl ?_|refine TN_val (rr_nilc rfl) rfl rfl ?_|refine TN_val (rr_load1 (v := .int .i64 (p : Int)) TyC.ty rfl (at_blk (i := 0) rfl rfl)) rfl rfl ?_|refine TN_val (rr_load1 (v := str s) TyC.ty rfl (at_blk (i := 0) rfl rfl)) rfl rfl ?_|refine TN_val (rr_stridx Und.eq rfl rfl (by omega) (by rw [Int.toNat_natCast]; exact hx)) rfl rfl ?_|refine TN_val (qfld FldC.fld rfl rfl) rfl rfl ?_|refine TN_val (rr_nilc rfl) rfl rfl ?_|refine TN_val (rr_geq rfl rfl (qT (by omega))) rfl rfl ?_|refine TN_val (rr_geq rfl rfl (qF (by omega))) rfl rfl ?_|refine TN_val (rr_eql rfl rfl (qT (by omega))) rfl rfl ?_|refine TN_val (rr_eql rfl rfl (qF (by omega))) rfl rfl ?_|refine TN_val (rr_add64 rfl rfl (by omega) (by omega) rfl) rfl rfl ?_|refine TN_val (rr_strlen Und.eq rfl) rfl rfl ?_|refine TN_val (rr_lss rfl rfl (qT (by omega))) rfl rfl ?_|refine TN_val (rr_lss rfl rfl (qF (by omega))) rfl rfl ?_)|refine TW_skip rfl rfl rfl rfl rfl rfl rfl ?_|refine TW_done ?_)
        refine TW_call rfl (he2 EntersC.en rfl rfl rfl) (fun w hm => hcl _) rfl rfl rfl ?_
        repeat(first|((first|refine TW_plain rfl rfl ?_|refine TW_gmet rfl rfl rfl rfl ?_);first|refine TN_val (qp rfl) rfl rfl ?_|refine TN_val (qfld FldC.fld rfl rfl) rfl rfl ?_|refine TN_val (rr_nilc rfl) rfl rfl ?_|refine TN_val (rr_geq rfl rfl (qT (by omega))) rfl rfl ?_|refine TN_val (rr_geq rfl rfl (qF (by omega))) rfl rfl ?_|refine TN_val (rr_eql rfl rfl (qT (by omega))) rfl rfl ?_|refine TN_val (rr_eql rfl rfl (qF (by omega))) rfl rfl ?_|refine TN_val (rr_add64 rfl rfl (by omega) (by omega) rfl) rfl rfl ?_|refine TN_val (rr_strlen Und.eq rfl) rfl rfl ?_|refine TN_val (rr_lss rfl rfl (qT (by omega))) rfl rfl ?_|refine TN_val (rr_lss rfl rfl (qF (by omega))) rfl rfl ?_)|refine TW_skip rfl rfl rfl rfl rfl rfl rfl ?_|refine TW_done ?_)
        repeat(first|refine qv rfl (qp rfl) rfl rfl ?_|refine TL_nil ?_|refine T_seq ?_|refine T_region ?_|refine qcT rfl ?_|refine qcF rfl ?_|refine T_skip ?_|refine T_ret ?_|refine E_then ?_|refine E_thenR ?_|refine qs rfl rfl rfl rfl rfl rfl ?_|((try refine qg rfl rfl rfl ?_);first|refine qv rfl (qp rfl) rfl rfl ?_|refine qv rfl (qfld FldC.fld rfl rfl) rfl rfl ?_|refine qv rfl (rr_nilc rfl) rfl rfl ?_|refine qv rfl (rr_geq rfl rfl (qT (by omega))) rfl rfl ?_|refine qv rfl (rr_geq rfl rfl (qF (by omega))) rfl rfl ?_|refine qv rfl (rr_eql rfl rfl (qT (by omega))) rfl rfl ?_|refine qv rfl (rr_eql rfl rfl (qF (by omega))) rfl rfl ?_|refine qv rfl (rr_add64 rfl rfl (by omega) (by omega) rfl) rfl rfl ?_|refine qv rfl (rr_strlen Und.eq rfl) rfl rfl ?_|refine qv rfl (rr_lss rfl rfl (qT (by omega))) rfl rfl ?_|refine qv rfl (rr_lss rfl rfl (qF (by omega))) rfl rfl ?_))
        refine TL_callB [0] [] (by decide) rfl rfl (he2 EntersC.en rfl rfl rfl) (fun w hm hb => hf w _ hb) rfl rfl rfl ?_
        intro _ _
        conv=>arg 8;simp only[zA,zB,zC,zD,zE,zF,zG,zH,zI,rowS,ret,id_eq, List.nil_append]
        repeat(first|refine qv rfl (qp rfl) rfl rfl ?_|refine TL_nil ?_|refine T_seq ?_|refine T_region ?_|refine qcT rfl ?_|refine qcF rfl ?_|refine T_skip ?_|refine T_ret ?_|refine E_then ?_|refine E_thenR ?_|refine qs rfl rfl rfl rfl rfl rfl ?_|((try refine qg rfl rfl rfl ?_);first|refine qv rfl (qp rfl) rfl rfl ?_|refine qv rfl (qfld FldC.fld rfl rfl) rfl rfl ?_|refine qv rfl (rr_nilc rfl) rfl rfl ?_|refine qv rfl (rr_geq rfl rfl (qT (by omega))) rfl rfl ?_|refine qv rfl (rr_geq rfl rfl (qF (by omega))) rfl rfl ?_|refine qv rfl (rr_eql rfl rfl (qT (by omega))) rfl rfl ?_|refine qv rfl (rr_eql rfl rfl (qF (by omega))) rfl rfl ?_|refine qv rfl (rr_add64 rfl rfl (by omega) (by omega) rfl) rfl rfl ?_|refine qv rfl (rr_strlen Und.eq rfl) rfl rfl ?_|refine qv rfl (rr_lss rfl rfl (qT (by omega))) rfl rfl ?_|refine qv rfl (rr_lss rfl rfl (qF (by omega))) rfl rfl ?_))
        exact E_ret1 rfl rfl fun w hm => hm.meetsB (S := byteSp g s (0, ⟨p, o, 6⟩)) () trivial [0] (by decide) rfl
    · rw [List.getElem?_eq_none (by omega)]
      dsimp only
      refine T_ord ([rdO g s ⟨p, o, 0⟩]) (.calm 0 (.calm 1 (.calm 2 (.calm 3 (.calm 4 (.calm 5 (.calm 6 (.calm 7 (.calm 8 (.calm 9 (.calm 10 (.calm 11 (.calm 12 (.calm 13 (.calm 14 (.calm 15 (.calm 16 (.done)))))))))))))))))) (fun _ h => h) (by kernel_rfl) (by kernel_rfl) (by intro c a d v w h; cases d <;> exact h) ?_
      repeat(first|((first|refine TW_plain rfl rfl ?_|refine TW_gmet rfl rfl rfl rfl ?_);first|refine TN_val (qp rfl) rfl rfl ?_|refine TN_val (rr_nilc rfl) rfl rfl ?_|refine TN_val (rr_load1 (v := .int .i64 0) TyC.ty rfl (at_blk (i := 0) rfl rfl)) rfl rfl ?_|refine TN_val (rr_load1 (v := .int .i64 (p : Int)) TyC.ty rfl (at_blk (i := 0) rfl rfl)) rfl rfl ?_|refine TN_val (rr_load1 (v := str s) TyC.ty rfl (at_blk (i := 0) rfl rfl)) rfl rfl ?_|refine TN_val (rr_eql (b := true) rfl rfl rfl) rfl rfl ?_|refine TN_val (qfld FldC.fld rfl rfl) rfl rfl ?_|refine TN_val (rr_nilc rfl) rfl rfl ?_|refine TN_val (rr_geq rfl rfl (qT (by omega))) rfl rfl ?_|refine TN_val (rr_geq rfl rfl (qF (by omega))) rfl rfl ?_|refine TN_val (rr_eql rfl rfl (qT (by omega))) rfl rfl ?_|refine TN_val (rr_eql rfl rfl (qF (by omega))) rfl rfl ?_|refine TN_val (rr_add64 rfl rfl (by omega) (by omega) rfl) rfl rfl ?_|refine TN_val (rr_strlen Und.eq rfl) rfl rfl ?_|refine TN_val (rr_lss rfl rfl (qT (by omega))) rfl rfl ?_|refine TN_val (rr_lss rfl rfl (qF (by omega))) rfl rfl ?_)|refine TW_skip rfl rfl rfl rfl rfl rfl rfl ?_|refine TW_done ?_)
      repeat(first|refine qv rfl (qp rfl) rfl rfl ?_|refine TL_nil ?_|refine T_seq ?_|refine T_region ?_|refine qcT rfl ?_|refine qcF rfl ?_|refine T_skip ?_|refine T_ret ?_|refine E_then ?_|refine E_thenR ?_|refine qs rfl rfl rfl rfl rfl rfl ?_|((try refine qg rfl rfl rfl ?_);first|refine qv rfl (qp rfl) rfl rfl ?_|refine qv rfl (qfld FldC.fld rfl rfl) rfl rfl ?_|refine qv rfl (rr_nilc rfl) rfl rfl ?_|refine qv rfl (rr_geq rfl rfl (qT (by omega))) rfl rfl ?_|refine qv rfl (rr_geq rfl rfl (qF (by omega))) rfl rfl ?_|refine qv rfl (rr_eql rfl rfl (qT (by omega))) rfl rfl ?_|refine qv rfl (rr_eql rfl rfl (qF (by omega))) rfl rfl ?_|refine qv rfl (rr_add64 rfl rfl (by omega) (by omega) rfl) rfl rfl ?_|refine qv rfl (rr_strlen Und.eq rfl) rfl rfl ?_|refine qv rfl (rr_lss rfl rfl (qT (by omega))) rfl rfl ?_|refine qv rfl (rr_lss rfl rfl (qF (by omega))) rfl rfl ?_))
      refine TL_callB [0] [] (by decide) rfl rfl (he2 EntersC.en rfl rfl rfl) (fun w hm hb => hf w _ hb) rfl rfl rfl ?_
      intro _ _
      conv=>arg 8;simp only[zA,zB,zC,zD,zE,zF,zG,zH,zI,rowS,ret,id_eq, List.nil_append]
      repeat(first|refine qv rfl (qp rfl) rfl rfl ?_|refine TL_nil ?_|refine T_seq ?_|refine T_region ?_|refine qcT rfl ?_|refine qcF rfl ?_|refine T_skip ?_|refine T_ret ?_|refine E_then ?_|refine E_thenR ?_|refine qs rfl rfl rfl rfl rfl rfl ?_|((try refine qg rfl rfl rfl ?_);first|refine qv rfl (qp rfl) rfl rfl ?_|refine qv rfl (qfld FldC.fld rfl rfl) rfl rfl ?_|refine qv rfl (rr_nilc rfl) rfl rfl ?_|refine qv rfl (rr_geq rfl rfl (qT (by omega))) rfl rfl ?_|refine qv rfl (rr_geq rfl rfl (qF (by omega))) rfl rfl ?_|refine qv rfl (rr_eql rfl rfl (qT (by omega))) rfl rfl ?_|refine qv rfl (rr_eql rfl rfl (qF (by omega))) rfl rfl ?_|refine qv rfl (rr_add64 rfl rfl (by omega) (by omega) rfl) rfl rfl ?_|refine qv rfl (rr_strlen Und.eq rfl) rfl rfl ?_|refine qv rfl (rr_lss rfl rfl (qT (by omega))) rfl rfl ?_|refine qv rfl (rr_lss rfl rfl (qF (by omega))) rfl rfl ?_))
      exact E_ret1 rfl rfl fun w hm => hm.meetsB (S := byteSp g s (0, ⟨p, o, 6⟩)) () trivial [0] (by decide) rfl
  · rw [if_neg c0]
    rw [failS_ne c0] at hf
    refine T_ord ([rdO g s ⟨p, o, e⟩]) (.calm 0 (.calm 1 (.calm 2 (.calm 3 (.calm 4 (.calm 5 (.calm 6 (.calm 7 (.calm 8 (.calm 9 (.calm 10 (.calm 11 (.calm 12 (.calm 13 (.calm 14 (.calm 15 (.calm 16 (.done)))))))))))))))))) (fun _ h => h) (by kernel_rfl) (by kernel_rfl) (by intro c a d v w h; cases d <;> exact h) ?_
    repeat(first|((first|refine TW_plain rfl rfl ?_|refine TW_gmet rfl rfl rfl rfl ?_);first|refine TN_val (qp rfl) rfl rfl ?_|refine TN_val (rr_nilc rfl) rfl rfl ?_|refine TN_val (rr_load1 (v := .int .i64 e) TyC.ty rfl (at_blk (i := 0) rfl rfl)) rfl rfl ?_|refine TN_val (rr_eql (b := false) rfl rfl (decide_eq_false c0)) rfl rfl ?_|refine TN_val (qfld FldC.fld rfl rfl) rfl rfl ?_|refine TN_val (rr_nilc rfl) rfl rfl ?_|refine TN_val (rr_geq rfl rfl (qT (by omega))) rfl rfl ?_|refine TN_val (rr_geq rfl rfl (qF (by omega))) rfl rfl ?_|refine TN_val (rr_eql rfl rfl (qT (by omega))) rfl rfl ?_|refine TN_val (rr_eql rfl rfl (qF (by omega))) rfl rfl ?_|refine TN_val (rr_add64 rfl rfl (by omega) (by omega) rfl) rfl rfl ?_|refine TN_val (rr_strlen Und.eq rfl) rfl rfl ?_|refine TN_val (rr_lss rfl rfl (qT (by omega))) rfl rfl ?_|refine TN_val (rr_lss rfl rfl (qF (by omega))) rfl rfl ?_)|refine TW_skip rfl rfl rfl rfl rfl rfl rfl ?_|refine TW_done ?_)
    repeat(first|refine qv rfl (qp rfl) rfl rfl ?_|refine TL_nil ?_|refine T_seq ?_|refine T_region ?_|refine qcT rfl ?_|refine qcF rfl ?_|refine T_skip ?_|refine T_ret ?_|refine E_then ?_|refine E_thenR ?_|refine qs rfl rfl rfl rfl rfl rfl ?_|((try refine qg rfl rfl rfl ?_);first|refine qv rfl (qp rfl) rfl rfl ?_|refine qv rfl (qfld FldC.fld rfl rfl) rfl rfl ?_|refine qv rfl (rr_nilc rfl) rfl rfl ?_|refine qv rfl (rr_geq rfl rfl (qT (by omega))) rfl rfl ?_|refine qv rfl (rr_geq rfl rfl (qF (by omega))) rfl rfl ?_|refine qv rfl (rr_eql rfl rfl (qT (by omega))) rfl rfl ?_|refine qv rfl (rr_eql rfl rfl (qF (by omega))) rfl rfl ?_|refine qv rfl (rr_add64 rfl rfl (by omega) (by omega) rfl) rfl rfl ?_|refine qv rfl (rr_strlen Und.eq rfl) rfl rfl ?_|refine qv rfl (rr_lss rfl rfl (qT (by omega))) rfl rfl ?_|refine qv rfl (rr_lss rfl rfl (qF (by omega))) rfl rfl ?_))
    refine TL_callB [0] [] (by decide) rfl rfl (he2 EntersC.en rfl rfl rfl) (fun w hm hb => hf w _ hb) rfl rfl rfl ?_
    intro _ _
    conv=>arg 8;simp only[zA,zB,zC,zD,zE,zF,zG,zH,zI,rowS,ret,id_eq, List.nil_append]
    repeat(first|refine qv rfl (qp rfl) rfl rfl ?_|refine TL_nil ?_|refine T_seq ?_|refine T_region ?_|refine qcT rfl ?_|refine qcF rfl ?_|refine T_skip ?_|refine T_ret ?_|refine E_then ?_|refine E_thenR ?_|refine qs rfl rfl rfl rfl rfl rfl ?_|((try refine qg rfl rfl rfl ?_);first|refine qv rfl (qp rfl) rfl rfl ?_|refine qv rfl (qfld FldC.fld rfl rfl) rfl rfl ?_|refine qv rfl (rr_nilc rfl) rfl rfl ?_|refine qv rfl (rr_geq rfl rfl (qT (by omega))) rfl rfl ?_|refine qv rfl (rr_geq rfl rfl (qF (by omega))) rfl rfl ?_|refine qv rfl (rr_eql rfl rfl (qT (by omega))) rfl rfl ?_|refine qv rfl (rr_eql rfl rfl (qF (by omega))) rfl rfl ?_|refine qv rfl (rr_add64 rfl rfl (by omega) (by omega) rfl) rfl rfl ?_|refine qv rfl (rr_strlen Und.eq rfl) rfl rfl ?_|refine qv rfl (rr_lss rfl rfl (qT (by omega))) rfl rfl ?_|refine qv rfl (rr_lss rfl rfl (qF (by omega))) rfl rfl ?_))
    exact E_ret1 rfl rfl fun w hm => hm.meetsB (S := byteSp g s (0, ⟨p, o, e⟩)) () trivial [0] (by decide) rfl
theorem nts_lt {b : UInt8} {n : Nat} (h : ntsL.idxOf? b = some n) : n < 3 := by
  have : n < ntsL.length := by
    rw [List.idxOf?, List.findIdx?_eq_some_iff_getElem] at h
    exact h.1
  exact this
theorem ctl_at {n : Nat} (h : n < 3) : ctlL[((n : Int)).toNat]? = some (ctlL.getD n 0) := by
  rw [Int.toNat_natCast]
  match n, h with
  | 0, _ => rfl
  | 1, _ => rfl
  | 2, _ => rfl
/-- a digit is less than sixteen -/
theorem digit_lt (s : Txt) (st : RS) : (digitS s st).1.toNat < 16 := by
  unfold digitS
  split
  · split
    · split
      · rename_i n h
        have := hexL_lt h
        show (UInt8.ofNat n).toNat < 16
        rw [UInt8.toNat_ofNat', Nat.mod_eq_of_lt (by omega)]; exact this
      · show (0 : UInt8).toNat < 16; decide
    · show (0 : UInt8).toNat < 16; decide
  · show (0 : UInt8).toNat < 16; decide
theorem shl_u8 : ∀ h : Nat, h < 16 → ∀ w, (Op.shift .shl .u8 (h : Int) .u64 4).run Tryd.prog w = .ok (.int .u8 ((h * 16 : Nat) : Int)) w := by
  intro h hh w
  rcases h with _ | _ | _ | _ | _ | _ | _ | _ | _ | _ | _ | _ | _ | _ | _ | _ | h <;> first | rfl | omega
theorem or_u8 : ∀ h : Nat, h < 16 → ∀ l : Nat, l < 16 → bits .or .u8 ((h * 16 : Nat) : Int) (l : Int) = ((h * 16 + l : Nat) : Int) := by decide
set_option maxHeartbeats 4000000 in
theorem rdTurned_calls (g : Nat) (s : Txt) (st : RS) (w : World) (B : Base) (hs : s.length ≤ 1000000) (hp : st.p ≤ s.length) (hm : Mem B [rdO g s st] w) :
    Calls Tryd.prog 81 #[.pointer (some ⟨g, 0, none⟩)] w (MeetsB (byteSp g s (turnedS s st)) B) := by
  obtain ⟨p, o, e⟩ := st
  dsimp only at hp
  unfold turnedS
  dsimp only
  have hf := fun w B hm => rdFail_calls g s ⟨p, o, e⟩ 6 w B hm
  refine enterB hm (args := [.pointer (some ⟨g, 0, none⟩)]) (n := 69) Tryd.func81 rfl rfl rfl ?_
  clear hm
  repeat(first|refine qv rfl (qp rfl) rfl rfl ?_|refine TL_nil ?_|refine T_seq ?_|refine T_region ?_|refine qcT rfl ?_|refine qcF rfl ?_|refine T_skip ?_|refine T_ret ?_|refine E_then ?_|refine E_thenR ?_|refine qv rfl (rr_strlen Und.eq rfl) rfl rfl ?_|refine qv rfl (qfld FldC.fld rfl rfl) rfl rfl ?_|refine qv rfl (rr_nilc rfl) rfl rfl ?_|refine qv rfl (rr_lss rfl rfl (qT (by omega))) rfl rfl ?_|refine qv rfl (rr_lss rfl rfl (qF (by omega))) rfl rfl ?_|refine qv rfl (rr_geq rfl rfl (qT (by omega))) rfl rfl ?_|refine qv rfl (rr_geq rfl rfl (qF (by omega))) rfl rfl ?_|refine qv rfl (rr_eql rfl rfl (qT (by omega))) rfl rfl ?_|refine qv rfl (rr_eql rfl rfl (qF (by omega))) rfl rfl ?_|refine qv rfl (rr_add64 rfl rfl (by omega) (by omega) rfl) rfl rfl ?_)
  by_cases c1 : p < s.length
  · have hx : s[p]? = some s[p] := List.getElem?_eq_getElem c1
    rw [List.getElem?_eq_getElem c1]
    generalize s[p] = x at *
    dsimp only
    refine T_ord ([rdO g s ⟨p, o, e⟩]) (.calm 0 (.calm 1 (.calm 2 (.calm 3 (.calm 4 (.calm 5 (.calm 6 (.calm 7 (.calm 8 (.calm 9 (.done))))))))))) (fun _ h => h) (by kernel_rfl) (by kernel_rfl) (by intro c a d v w h; cases d <;> exact h) ?_
    repeat(first|((first|refine TW_plain rfl rfl ?_|refine TW_gmet rfl rfl rfl rfl ?_);first|refine TN_val (qp rfl) rfl rfl ?_|refine TN_val (rr_nilc rfl) rfl rfl ?_|refine TN_val (rr_load1 (v := .int .i64 (p : Int)) TyC.ty rfl (at_blk (i := 0) rfl rfl)) rfl rfl ?_|refine TN_val (rr_load1 (v := str s) TyC.ty rfl (at_blk (i := 0) rfl rfl)) rfl rfl ?_|refine TN_val (rr_eql (b := false) rfl rfl (decide_eq_false (by omega))) rfl rfl ?_|refine TN_val (rr_strlen Und.eq rfl) rfl rfl ?_|refine TN_val (qfld FldC.fld rfl rfl) rfl rfl ?_|refine TN_val (rr_nilc rfl) rfl rfl ?_|refine TN_val (rr_lss rfl rfl (qT (by omega))) rfl rfl ?_|refine TN_val (rr_lss rfl rfl (qF (by omega))) rfl rfl ?_|refine TN_val (rr_geq rfl rfl (qT (by omega))) rfl rfl ?_|refine TN_val (rr_geq rfl rfl (qF (by omega))) rfl rfl ?_|refine TN_val (rr_eql rfl rfl (qT (by omega))) rfl rfl ?_|refine TN_val (rr_eql rfl rfl (qF (by omega))) rfl rfl ?_|refine TN_val (rr_add64 rfl rfl (by omega) (by omega) rfl) rfl rfl ?_)|refine TW_done ?_)
    repeat(first|refine qv rfl (qp rfl) rfl rfl ?_|refine TL_nil ?_|refine T_seq ?_|refine T_region ?_|refine qcT rfl ?_|refine qcF rfl ?_|refine T_skip ?_|refine T_ret ?_|refine E_then ?_|refine E_thenR ?_|refine qv rfl (rr_strlen Und.eq rfl) rfl rfl ?_|refine qv rfl (qfld FldC.fld rfl rfl) rfl rfl ?_|refine qv rfl (rr_nilc rfl) rfl rfl ?_|refine qv rfl (rr_lss rfl rfl (qT (by omega))) rfl rfl ?_|refine qv rfl (rr_lss rfl rfl (qF (by omega))) rfl rfl ?_|refine qv rfl (rr_geq rfl rfl (qT (by omega))) rfl rfl ?_|refine qv rfl (rr_geq rfl rfl (qF (by omega))) rfl rfl ?_|refine qv rfl (rr_eql rfl rfl (qT (by omega))) rfl rfl ?_|refine qv rfl (rr_eql rfl rfl (qF (by omega))) rfl rfl ?_|refine qv rfl (rr_add64 rfl rfl (by omega) (by omega) rfl) rfl rfl ?_)
    refine T_ord ([rdO g s ⟨p, o, e⟩]) (.calm 0 (.calm 1 (.calm 2 (.calm 3 (.calm 4 (.calm 5 (.calm 6 (.calm 7 (.calm 8 (.calm 9 (.done))))))))))) (fun _ h => h) (by kernel_rfl) (by kernel_rfl) (by intro c a d v w h; cases d <;> exact h) ?_
    repeat(first|((first|refine TW_plain rfl rfl ?_|refine TW_gmet rfl rfl rfl rfl ?_);first|refine TN_val (qp rfl) rfl rfl ?_|refine TN_val (rr_nilc rfl) rfl rfl ?_|refine TN_val (rr_load1 (v := .int .i64 (p : Int)) TyC.ty rfl (at_blk (i := 0) rfl rfl)) rfl rfl ?_|refine TN_val (rr_load1 (v := str s) TyC.ty rfl (at_blk (i := 0) rfl rfl)) rfl rfl ?_|refine TN_val (rr_stridx Und.eq rfl rfl (by omega) (by rw [Int.toNat_natCast]; exact hx)) rfl rfl ?_|refine TN_val (rr_strlen Und.eq rfl) rfl rfl ?_|refine TN_val (qfld FldC.fld rfl rfl) rfl rfl ?_|refine TN_val (rr_nilc rfl) rfl rfl ?_|refine TN_val (rr_lss rfl rfl (qT (by omega))) rfl rfl ?_|refine TN_val (rr_lss rfl rfl (qF (by omega))) rfl rfl ?_|refine TN_val (rr_geq rfl rfl (qT (by omega))) rfl rfl ?_|refine TN_val (rr_geq rfl rfl (qF (by omega))) rfl rfl ?_|refine TN_val (rr_eql rfl rfl (qT (by omega))) rfl rfl ?_|refine TN_val (rr_eql rfl rfl (qF (by omega))) rfl rfl ?_|refine TN_val (rr_add64 rfl rfl (by omega) (by omega) rfl) rfl rfl ?_)|refine TW_done ?_)
    repeat(first|refine qv rfl (qp rfl) rfl rfl ?_|refine TL_nil ?_|refine T_seq ?_|refine T_region ?_|refine qcT rfl ?_|refine qcF rfl ?_|refine T_skip ?_|refine T_ret ?_|refine E_then ?_|refine E_thenR ?_|refine qv rfl (rr_strlen Und.eq rfl) rfl rfl ?_|refine qv rfl (qfld FldC.fld rfl rfl) rfl rfl ?_|refine qv rfl (rr_nilc rfl) rfl rfl ?_|refine qv rfl (rr_lss rfl rfl (qT (by omega))) rfl rfl ?_|refine qv rfl (rr_lss rfl rfl (qF (by omega))) rfl rfl ?_|refine qv rfl (rr_geq rfl rfl (qT (by omega))) rfl rfl ?_|refine qv rfl (rr_geq rfl rfl (qF (by omega))) rfl rfl ?_|refine qv rfl (rr_eql rfl rfl (qT (by omega))) rfl rfl ?_|refine qv rfl (rr_eql rfl rfl (qF (by omega))) rfl rfl ?_|refine qv rfl (rr_add64 rfl rfl (by omega) (by omega) rfl) rfl rfl ?_)
    cases hi : ntsL.idxOf? x with
    | some n =>
      have hn := nts_lt hi
      have hcl := fun w => idxB_calls ntsL x w
      rw [idxB_some hi] at hcl
      dsimp only
      refine TL_call (he2 EntersC.en rfl rfl rfl) (fun w hm => hcl w) rfl rfl rfl ?_
      intro _ _
      conv=>arg 8;simp only[zA,zB,zC,zD,zE,zF,zG,zH,zI,rowS,ret,id_eq]
      repeat(first|refine qv rfl (qp rfl) rfl rfl ?_|refine TL_nil ?_|refine T_seq ?_|refine T_region ?_|refine qcT rfl ?_|refine qcF rfl ?_|refine T_skip ?_|refine T_ret ?_|refine E_then ?_|refine E_thenR ?_|refine qv rfl (rr_nilc rfl) rfl rfl ?_|refine qv rfl (rr_load1 (v := .int .i64 (p : Int)) TyC.ty rfl (at_blk (i := 0) rfl rfl)) rfl rfl ?_|refine qv rfl (rr_add64 (r := ((p + 1 : Nat) : Int)) rfl rfl (by omega) (by omega) (by omega)) rfl rfl ?_|refine qv rfl (rr_strlen Und.eq rfl) rfl rfl ?_|refine qv rfl (qfld FldC.fld rfl rfl) rfl rfl ?_|refine qv rfl (rr_nilc rfl) rfl rfl ?_|refine qv rfl (rr_lss rfl rfl (qT (by omega))) rfl rfl ?_|refine qv rfl (rr_lss rfl rfl (qF (by omega))) rfl rfl ?_|refine qv rfl (rr_geq rfl rfl (qT (by omega))) rfl rfl ?_|refine qv rfl (rr_geq rfl rfl (qF (by omega))) rfl rfl ?_|refine qv rfl (rr_eql rfl rfl (qT (by omega))) rfl rfl ?_|refine qv rfl (rr_eql rfl rfl (qF (by omega))) rfl rfl ?_|refine qv rfl (rr_add64 rfl rfl (by omega) (by omega) rfl) rfl rfl ?_)
      refine TL_store1 (i := 0) rfl rfl rfl rfl rfl rfl ?_
      rw [rd_up]
      conv=>arg 8;simp only[zA,zB,zC,zD,zE,zF,zG,zH,zI,rowS,ret,id_eq]
      repeat(first|refine qv rfl (qp rfl) rfl rfl ?_|refine TL_nil ?_|refine T_seq ?_|refine T_region ?_|refine qcT rfl ?_|refine qcF rfl ?_|refine T_skip ?_|refine T_ret ?_|refine E_then ?_|refine E_thenR ?_|refine qv rfl (rr_stridx (l := ctlL) (b := ctlL.getD n 0) Und.eq rfl rfl (by omega) (ctl_at hn)) rfl rfl ?_|refine qv rfl (rr_strlen Und.eq rfl) rfl rfl ?_|refine qv rfl (qfld FldC.fld rfl rfl) rfl rfl ?_|refine qv rfl (rr_nilc rfl) rfl rfl ?_|refine qv rfl (rr_lss rfl rfl (qT (by omega))) rfl rfl ?_|refine qv rfl (rr_lss rfl rfl (qF (by omega))) rfl rfl ?_|refine qv rfl (rr_geq rfl rfl (qT (by omega))) rfl rfl ?_|refine qv rfl (rr_geq rfl rfl (qF (by omega))) rfl rfl ?_|refine qv rfl (rr_eql rfl rfl (qT (by omega))) rfl rfl ?_|refine qv rfl (rr_eql rfl rfl (qF (by omega))) rfl rfl ?_|refine qv rfl (rr_add64 rfl rfl (by omega) (by omega) rfl) rfl rfl ?_)
      exact E_ret1 rfl rfl fun w hm => hm.meetsB (S := byteSp g s (ctlL.getD n 0, ⟨p + 1, o, e⟩)) () trivial [0] (by decide) rfl
    | none =>
      have hcl := fun w => idxB_calls ntsL x w
      rw [idxB_none hi] at hcl
      dsimp only
      refine TL_call (he2 EntersC.en rfl rfl rfl) (fun w hm => hcl w) rfl rfl rfl ?_
      intro _ _
      conv=>arg 8;simp only[zA,zB,zC,zD,zE,zF,zG,zH,zI,rowS,ret,id_eq]
      by_cases c2 : x = 120
      · subst c2
        rw [if_pos rfl]
        have hup : RS.up ⟨p, o, e⟩ = ⟨p + 1, o, e⟩ := rfl
        rw [hup]
        have g1 := digit_goes (s := s) (st := ⟨p + 1, o, e⟩) (by exact c1)
        have hd1 := fun w B hm => rdDigit_calls g s ⟨p + 1, o, e⟩ w B hs (by exact c1) hm
        have hl1 := digit_lt s ⟨p + 1, o, e⟩
        generalize digitS s ⟨p + 1, o, e⟩ = D1 at *
        have hd2 := fun w B hm => rdDigit_calls g s D1.2 w B hs g1.le hm
        have hl2 := digit_lt s D1.2
        generalize digitS s D1.2 = D2 at *
        obtain ⟨h1, s1⟩ := D1
        obtain ⟨h2, s2⟩ := D2
        dsimp only at *
        have hsum : (h1.toNat * 16 + h2.toNat : Nat) < 256 := by omega
        repeat(first|refine qv rfl (qp rfl) rfl rfl ?_|refine TL_nil ?_|refine T_seq ?_|refine T_region ?_|refine qcT rfl ?_|refine qcF rfl ?_|refine T_skip ?_|refine T_ret ?_|refine E_then ?_|refine E_thenR ?_|refine qv rfl (rr_eql (b := true) rfl rfl rfl) rfl rfl ?_|refine qv rfl (rr_nilc rfl) rfl rfl ?_|refine qv rfl (rr_load1 (v := .int .i64 (p : Int)) TyC.ty rfl (at_blk (i := 0) rfl rfl)) rfl rfl ?_|refine qv rfl (rr_add64 (r := ((p + 1 : Nat) : Int)) rfl rfl (by omega) (by omega) (by omega)) rfl rfl ?_|refine qv rfl (rr_strlen Und.eq rfl) rfl rfl ?_|refine qv rfl (qfld FldC.fld rfl rfl) rfl rfl ?_|refine qv rfl (rr_nilc rfl) rfl rfl ?_|refine qv rfl (rr_lss rfl rfl (qT (by omega))) rfl rfl ?_|refine qv rfl (rr_lss rfl rfl (qF (by omega))) rfl rfl ?_|refine qv rfl (rr_geq rfl rfl (qT (by omega))) rfl rfl ?_|refine qv rfl (rr_geq rfl rfl (qF (by omega))) rfl rfl ?_|refine qv rfl (rr_eql rfl rfl (qT (by omega))) rfl rfl ?_|refine qv rfl (rr_eql rfl rfl (qF (by omega))) rfl rfl ?_|refine qv rfl (rr_add64 rfl rfl (by omega) (by omega) rfl) rfl rfl ?_)
        refine TL_store1 (i := 0) rfl rfl rfl rfl rfl rfl ?_
        rw [rd_up]
        conv=>arg 8;simp only[zA,zB,zC,zD,zE,zF,zG,zH,zI,rowS,ret,id_eq]
        repeat(first|refine qv rfl (qp rfl) rfl rfl ?_|refine TL_nil ?_|refine T_seq ?_|refine T_region ?_|refine qcT rfl ?_|refine qcF rfl ?_|refine T_skip ?_|refine T_ret ?_|refine E_then ?_|refine E_thenR ?_|refine qv rfl (rr_strlen Und.eq rfl) rfl rfl ?_|refine qv rfl (qfld FldC.fld rfl rfl) rfl rfl ?_|refine qv rfl (rr_nilc rfl) rfl rfl ?_|refine qv rfl (rr_lss rfl rfl (qT (by omega))) rfl rfl ?_|refine qv rfl (rr_lss rfl rfl (qF (by omega))) rfl rfl ?_|refine qv rfl (rr_geq rfl rfl (qT (by omega))) rfl rfl ?_|refine qv rfl (rr_geq rfl rfl (qF (by omega))) rfl rfl ?_|refine qv rfl (rr_eql rfl rfl (qT (by omega))) rfl rfl ?_|refine qv rfl (rr_eql rfl rfl (qF (by omega))) rfl rfl ?_|refine qv rfl (rr_add64 rfl rfl (by omega) (by omega) rfl) rfl rfl ?_)
        refine TL_callB [0] [] (by decide) rfl rfl (he1 EntersC.en rfl rfl) (fun w hm hb => hd1 w _ hb) rfl rfl rfl ?_
        intro _ _
        conv=>arg 8;simp only[zA,zB,zC,zD,zE,zF,zG,zH,zI,rowS,ret,id_eq, byteSp, List.nil_append]
        conv => arg 7; simp only [byteSp]
        repeat(first|refine qv rfl (qp rfl) rfl rfl ?_|refine TL_nil ?_|refine T_seq ?_|refine T_region ?_|refine qcT rfl ?_|refine qcF rfl ?_|refine T_skip ?_|refine T_ret ?_|refine E_then ?_|refine E_thenR ?_|refine qv rfl (rr_shl rfl rfl (shl_u8 _ hl1)) rfl rfl ?_|refine qv rfl (rr_strlen Und.eq rfl) rfl rfl ?_|refine qv rfl (qfld FldC.fld rfl rfl) rfl rfl ?_|refine qv rfl (rr_nilc rfl) rfl rfl ?_|refine qv rfl (rr_lss rfl rfl (qT (by omega))) rfl rfl ?_|refine qv rfl (rr_lss rfl rfl (qF (by omega))) rfl rfl ?_|refine qv rfl (rr_geq rfl rfl (qT (by omega))) rfl rfl ?_|refine qv rfl (rr_geq rfl rfl (qF (by omega))) rfl rfl ?_|refine qv rfl (rr_eql rfl rfl (qT (by omega))) rfl rfl ?_|refine qv rfl (rr_eql rfl rfl (qF (by omega))) rfl rfl ?_|refine qv rfl (rr_add64 rfl rfl (by omega) (by omega) rfl) rfl rfl ?_)
        refine TL_callB [0] [] (by decide) rfl rfl (he1 EntersC.en rfl rfl) (fun w hm hb => hd2 w _ hb) rfl rfl rfl ?_
        intro _ _
        conv=>arg 8;simp only[zA,zB,zC,zD,zE,zF,zG,zH,zI,rowS,ret,id_eq, byteSp, List.nil_append]
        conv => arg 7; simp only [byteSp]
        repeat(first|refine qv rfl (qp rfl) rfl rfl ?_|refine TL_nil ?_|refine T_seq ?_|refine T_region ?_|refine qcT rfl ?_|refine qcF rfl ?_|refine T_skip ?_|refine T_ret ?_|refine E_then ?_|refine E_thenR ?_|refine qv rfl (rr_or (r := ((UInt8.ofNat (h1.toNat * 16 + h2.toNat)).toNat : Int)) rfl rfl (by rw [or_u8 _ hl1 _ hl2, UInt8.toNat_ofNat', Nat.mod_eq_of_lt hsum])) rfl rfl ?_|refine qv rfl (rr_strlen Und.eq rfl) rfl rfl ?_|refine qv rfl (qfld FldC.fld rfl rfl) rfl rfl ?_|refine qv rfl (rr_nilc rfl) rfl rfl ?_|refine qv rfl (rr_lss rfl rfl (qT (by omega))) rfl rfl ?_|refine qv rfl (rr_lss rfl rfl (qF (by omega))) rfl rfl ?_|refine qv rfl (rr_geq rfl rfl (qT (by omega))) rfl rfl ?_|refine qv rfl (rr_geq rfl rfl (qF (by omega))) rfl rfl ?_|refine qv rfl (rr_eql rfl rfl (qT (by omega))) rfl rfl ?_|refine qv rfl (rr_eql rfl rfl (qF (by omega))) rfl rfl ?_|refine qv rfl (rr_add64 rfl rfl (by omega) (by omega) rfl) rfl rfl ?_)
        exact E_ret1 rfl rfl fun w hm => hm.meetsB (S := byteSp g s (UInt8.ofNat (h1.toNat * 16 + h2.toNat), s2)) () trivial [0] (by decide) rfl
      · rw [if_neg c2]
        have hcl2 := fun w => idxB_calls signsL x w
        have hmem := idx_mem signsL x
        generalize Lib.indexByte signsL x = r at *
        by_cases c3 : x ∈ signsL
        · rw [if_pos c3]
          rw [decide_eq_true c3] at hmem
          have hr : 0 ≤ r := by simpa using hmem
          repeat(first|refine qv rfl (qp rfl) rfl rfl ?_|refine TL_nil ?_|refine T_seq ?_|refine T_region ?_|refine qcT rfl ?_|refine qcF rfl ?_|refine T_skip ?_|refine T_ret ?_|refine E_then ?_|refine E_thenR ?_|refine qv rfl (rr_eql (b := false) rfl rfl (u8eq (b := 120) (decide_eq_false c2))) rfl rfl ?_|refine qv rfl (rr_strlen Und.eq rfl) rfl rfl ?_|refine qv rfl (qfld FldC.fld rfl rfl) rfl rfl ?_|refine qv rfl (rr_nilc rfl) rfl rfl ?_|refine qv rfl (rr_lss rfl rfl (qT (by omega))) rfl rfl ?_|refine qv rfl (rr_lss rfl rfl (qF (by omega))) rfl rfl ?_|refine qv rfl (rr_geq rfl rfl (qT (by omega))) rfl rfl ?_|refine qv rfl (rr_geq rfl rfl (qF (by omega))) rfl rfl ?_|refine qv rfl (rr_eql rfl rfl (qT (by omega))) rfl rfl ?_|refine qv rfl (rr_eql rfl rfl (qF (by omega))) rfl rfl ?_|refine qv rfl (rr_add64 rfl rfl (by omega) (by omega) rfl) rfl rfl ?_)
          refine TL_call (he2 EntersC.en rfl rfl rfl) (fun w hm => hcl2 w) rfl rfl rfl ?_
          intro _ _
          conv=>arg 8;simp only[zA,zB,zC,zD,zE,zF,zG,zH,zI,rowS,ret,id_eq]
          repeat(first|refine qv rfl (qp rfl) rfl rfl ?_|refine TL_nil ?_|refine T_seq ?_|refine T_region ?_|refine qcT rfl ?_|refine qcF rfl ?_|refine T_skip ?_|refine T_ret ?_|refine E_then ?_|refine E_thenR ?_|refine qv rfl (rr_nilc rfl) rfl rfl ?_|refine qv rfl (rr_load1 (v := .int .i64 (p : Int)) TyC.ty rfl (at_blk (i := 0) rfl rfl)) rfl rfl ?_|refine qv rfl (rr_add64 (r := ((p + 1 : Nat) : Int)) rfl rfl (by omega) (by omega) (by omega)) rfl rfl ?_|refine qv rfl (rr_strlen Und.eq rfl) rfl rfl ?_|refine qv rfl (qfld FldC.fld rfl rfl) rfl rfl ?_|refine qv rfl (rr_nilc rfl) rfl rfl ?_|refine qv rfl (rr_lss rfl rfl (qT (by omega))) rfl rfl ?_|refine qv rfl (rr_lss rfl rfl (qF (by omega))) rfl rfl ?_|refine qv rfl (rr_geq rfl rfl (qT (by omega))) rfl rfl ?_|refine qv rfl (rr_geq rfl rfl (qF (by omega))) rfl rfl ?_|refine qv rfl (rr_eql rfl rfl (qT (by omega))) rfl rfl ?_|refine qv rfl (rr_eql rfl rfl (qF (by omega))) rfl rfl ?_|refine qv rfl (rr_add64 rfl rfl (by omega) (by omega) rfl) rfl rfl ?_)
          refine TL_store1 (i := 0) rfl rfl rfl rfl rfl rfl ?_
          rw [rd_up]
          conv=>arg 8;simp only[zA,zB,zC,zD,zE,zF,zG,zH,zI,rowS,ret,id_eq]
          repeat(first|refine qv rfl (qp rfl) rfl rfl ?_|refine TL_nil ?_|refine T_seq ?_|refine T_region ?_|refine qcT rfl ?_|refine qcF rfl ?_|refine T_skip ?_|refine T_ret ?_|refine E_then ?_|refine E_thenR ?_|refine qv rfl (rr_strlen Und.eq rfl) rfl rfl ?_|refine qv rfl (qfld FldC.fld rfl rfl) rfl rfl ?_|refine qv rfl (rr_nilc rfl) rfl rfl ?_|refine qv rfl (rr_lss rfl rfl (qT (by omega))) rfl rfl ?_|refine qv rfl (rr_lss rfl rfl (qF (by omega))) rfl rfl ?_|refine qv rfl (rr_geq rfl rfl (qT (by omega))) rfl rfl ?_|refine qv rfl (rr_geq rfl rfl (qF (by omega))) rfl rfl ?_|refine qv rfl (rr_eql rfl rfl (qT (by omega))) rfl rfl ?_|refine qv rfl (rr_eql rfl rfl (qF (by omega))) rfl rfl ?_|refine qv rfl (rr_add64 rfl rfl (by omega) (by omega) rfl) rfl rfl ?_)
          exact E_ret1 rfl rfl fun w hm => hm.meetsB (S := byteSp g s (x, ⟨p + 1, o, e⟩)) () trivial [0] (by decide) rfl
        · rw [if_neg c3]
          rw [decide_eq_false c3] at hmem
          have hr : r < 0 := by simpa using hmem
          repeat(first|refine qv rfl (qp rfl) rfl rfl ?_|refine TL_nil ?_|refine T_seq ?_|refine T_region ?_|refine qcT rfl ?_|refine qcF rfl ?_|refine T_skip ?_|refine T_ret ?_|refine E_then ?_|refine E_thenR ?_|refine qv rfl (rr_eql (b := false) rfl rfl (u8eq (b := 120) (decide_eq_false c2))) rfl rfl ?_|refine qv rfl (rr_strlen Und.eq rfl) rfl rfl ?_|refine qv rfl (qfld FldC.fld rfl rfl) rfl rfl ?_|refine qv rfl (rr_nilc rfl) rfl rfl ?_|refine qv rfl (rr_lss rfl rfl (qT (by omega))) rfl rfl ?_|refine qv rfl (rr_lss rfl rfl (qF (by omega))) rfl rfl ?_|refine qv rfl (rr_geq rfl rfl (qT (by omega))) rfl rfl ?_|refine qv rfl (rr_geq rfl rfl (qF (by omega))) rfl rfl ?_|refine qv rfl (rr_eql rfl rfl (qT (by omega))) rfl rfl ?_|refine qv rfl (rr_eql rfl rfl (qF (by omega))) rfl rfl ?_|refine qv rfl (rr_add64 rfl rfl (by omega) (by omega) rfl) rfl rfl ?_)
          refine TL_call (he2 EntersC.en rfl rfl rfl) (fun w hm => hcl2 w) rfl rfl rfl ?_
          intro _ _
          conv=>arg 8;simp only[zA,zB,zC,zD,zE,zF,zG,zH,zI,rowS,ret,id_eq]
          repeat(first|refine qv rfl (qp rfl) rfl rfl ?_|refine TL_nil ?_|refine T_seq ?_|refine T_region ?_|refine qcT rfl ?_|refine qcF rfl ?_|refine T_skip ?_|refine T_ret ?_|refine E_then ?_|refine E_thenR ?_|refine qv rfl (rr_strlen Und.eq rfl) rfl rfl ?_|refine qv rfl (qfld FldC.fld rfl rfl) rfl rfl ?_|refine qv rfl (rr_nilc rfl) rfl rfl ?_|refine qv rfl (rr_lss rfl rfl (qT (by omega))) rfl rfl ?_|refine qv rfl (rr_lss rfl rfl (qF (by omega))) rfl rfl ?_|refine qv rfl (rr_geq rfl rfl (qT (by omega))) rfl rfl ?_|refine qv rfl (rr_geq rfl rfl (qF (by omega))) rfl rfl ?_|refine qv rfl (rr_eql rfl rfl (qT (by omega))) rfl rfl ?_|refine qv rfl (rr_eql rfl rfl (qF (by omega))) rfl rfl ?_|refine qv rfl (rr_add64 rfl rfl (by omega) (by omega) rfl) rfl rfl ?_)
          refine TL_callB [0] [] (by decide) rfl rfl (he2 EntersC.en rfl rfl rfl) (fun w hm hb => hf w _ hb) rfl rfl rfl ?_
          intro _ _
          conv=>arg 8;simp only[zA,zB,zC,zD,zE,zF,zG,zH,zI,rowS,ret,id_eq, List.nil_append]
          repeat(first|refine qv rfl (qp rfl) rfl rfl ?_|refine TL_nil ?_|refine T_seq ?_|refine T_region ?_|refine qcT rfl ?_|refine qcF rfl ?_|refine T_skip ?_|refine T_ret ?_|refine E_then ?_|refine E_thenR ?_|refine qv rfl (rr_strlen Und.eq rfl) rfl rfl ?_|refine qv rfl (qfld FldC.fld rfl rfl) rfl rfl ?_|refine qv rfl (rr_nilc rfl) rfl rfl ?_|refine qv rfl (rr_lss rfl rfl (qT (by omega))) rfl rfl ?_|refine qv rfl (rr_lss rfl rfl (qF (by omega))) rfl rfl ?_|refine qv rfl (rr_geq rfl rfl (qT (by omega))) rfl rfl ?_|refine qv rfl (rr_geq rfl rfl (qF (by omega))) rfl rfl ?_|refine qv rfl (rr_eql rfl rfl (qT (by omega))) rfl rfl ?_|refine qv rfl (rr_eql rfl rfl (qF (by omega))) rfl rfl ?_|refine qv rfl (rr_add64 rfl rfl (by omega) (by omega) rfl) rfl rfl ?_)
          exact E_ret1 rfl rfl fun w hm => hm.meetsB (S := byteSp g s (0, failS ⟨p, o, e⟩ 6)) () trivial [0] (by decide) rfl
  · obtain rfl : p = s.length := by omega
    rw [List.getElem?_eq_none (Nat.le_refl _)]
    dsimp only
    refine T_ord ([rdO g s ⟨s.length, o, e⟩]) (.calm 0 (.calm 1 (.calm 2 (.calm 3 (.calm 4 (.calm 5 (.calm 6 (.calm 7 (.calm 8 (.calm 9 (.done))))))))))) (fun _ h => h) (by kernel_rfl) (by kernel_rfl) (by intro c a d v w h; cases d <;> exact h) ?_
    repeat(first|((first|refine TW_plain rfl rfl ?_|refine TW_gmet rfl rfl rfl rfl ?_);first|refine TN_val (qp rfl) rfl rfl ?_|refine TN_val (rr_nilc rfl) rfl rfl ?_|refine TN_val (rr_load1 (v := .int .i64 (s.length : Int)) TyC.ty rfl (at_blk (i := 0) rfl rfl)) rfl rfl ?_|refine TN_val (rr_load1 (v := str s) TyC.ty rfl (at_blk (i := 0) rfl rfl)) rfl rfl ?_|refine TN_val (rr_strlen Und.eq rfl) rfl rfl ?_|refine TN_val (qfld FldC.fld rfl rfl) rfl rfl ?_|refine TN_val (rr_nilc rfl) rfl rfl ?_|refine TN_val (rr_lss rfl rfl (qT (by omega))) rfl rfl ?_|refine TN_val (rr_lss rfl rfl (qF (by omega))) rfl rfl ?_|refine TN_val (rr_geq rfl rfl (qT (by omega))) rfl rfl ?_|refine TN_val (rr_geq rfl rfl (qF (by omega))) rfl rfl ?_|refine TN_val (rr_eql rfl rfl (qT (by omega))) rfl rfl ?_|refine TN_val (rr_eql rfl rfl (qF (by omega))) rfl rfl ?_|refine TN_val (rr_add64 rfl rfl (by omega) (by omega) rfl) rfl rfl ?_)|refine TW_done ?_)
    repeat(first|refine qv rfl (qp rfl) rfl rfl ?_|refine TL_nil ?_|refine T_seq ?_|refine T_region ?_|refine qcT rfl ?_|refine qcF rfl ?_|refine T_skip ?_|refine T_ret ?_|refine E_then ?_|refine E_thenR ?_|refine qv rfl (rr_strlen Und.eq rfl) rfl rfl ?_|refine qv rfl (qfld FldC.fld rfl rfl) rfl rfl ?_|refine qv rfl (rr_nilc rfl) rfl rfl ?_|refine qv rfl (rr_lss rfl rfl (qT (by omega))) rfl rfl ?_|refine qv rfl (rr_lss rfl rfl (qF (by omega))) rfl rfl ?_|refine qv rfl (rr_geq rfl rfl (qT (by omega))) rfl rfl ?_|refine qv rfl (rr_geq rfl rfl (qF (by omega))) rfl rfl ?_|refine qv rfl (rr_eql rfl rfl (qT (by omega))) rfl rfl ?_|refine qv rfl (rr_eql rfl rfl (qF (by omega))) rfl rfl ?_|refine qv rfl (rr_add64 rfl rfl (by omega) (by omega) rfl) rfl rfl ?_)
    refine TL_callB [0] [] (by decide) rfl rfl (he2 EntersC.en rfl rfl rfl) (fun w hm hb => hf w _ hb) rfl rfl rfl ?_
    intro _ _
    conv=>arg 8;simp only[zA,zB,zC,zD,zE,zF,zG,zH,zI,rowS,ret,id_eq, List.nil_append]
    repeat(first|refine qv rfl (qp rfl) rfl rfl ?_|refine TL_nil ?_|refine T_seq ?_|refine T_region ?_|refine qcT rfl ?_|refine qcF rfl ?_|refine T_skip ?_|refine T_ret ?_|refine E_then ?_|refine E_thenR ?_|refine qv rfl (rr_strlen Und.eq rfl) rfl rfl ?_|refine qv rfl (qfld FldC.fld rfl rfl) rfl rfl ?_|refine qv rfl (rr_nilc rfl) rfl rfl ?_|refine qv rfl (rr_lss rfl rfl (qT (by omega))) rfl rfl ?_|refine qv rfl (rr_lss rfl rfl (qF (by omega))) rfl rfl ?_|refine qv rfl (rr_geq rfl rfl (qT (by omega))) rfl rfl ?_|refine qv rfl (rr_geq rfl rfl (qF (by omega))) rfl rfl ?_|refine qv rfl (rr_eql rfl rfl (qT (by omega))) rfl rfl ?_|refine qv rfl (rr_eql rfl rfl (qF (by omega))) rfl rfl ?_|refine qv rfl (rr_add64 rfl rfl (by omega) (by omega) rfl) rfl rfl ?_)
    exact E_ret1 rfl rfl fun w hm => hm.meetsB (S := byteSp g s (0, failS ⟨s.length, o, e⟩ 6)) () trivial [0] (by decide) rfl
end Go.Proofs.YtakiohldgcifeaaDoor.eng



/- Frames: no program in sight. -/
import Derived.Test.YtnooleopmlijeaaSumL
namespace Go.Proofs.Ytnooleopmlijeaa.frameL
open sumL
abbrev Fm := Int × Int × List UInt8
def checkFr (f : Fm) : Int := if f.1 < 1 ∨ 9 < f.1 ∨ f.2.1 < 0 ∨ 255 < f.2.1 then 1 else if 1024 < f.2.2.length then 2 else 0
theorem checkFr_ok {f : Fm} (h : checkFr f = 0) : 1 ≤ f.1 ∧ f.1 ≤ 9 ∧ 0 ≤ f.2.1 ∧ f.2.1 ≤ 255 ∧ f.2.2.length ≤ 1024 := by
  unfold checkFr at h; split at h; simp at h; split at h; simp at h; omega
def headL (f : Fm) : List UInt8 := [UInt8.ofNat f.1.toNat, UInt8.ofNat f.2.1.toNat, UInt8.ofNat f.2.2.length, UInt8.ofNat (f.2.2.length / 256)] ++ f.2.2
def tailL (c : Nat) : List UInt8 := [UInt8.ofNat c, UInt8.ofNat (c / 256), UInt8.ofNat (c / 65536), UInt8.ofNat (c / 16777216)]
/-- a whole frame -/
def wrL (f : Fm) : List UInt8 := headL f ++ tailL (crc (headL f)).toNat
theorem wrL_length (f : Fm) : (wrL f).length = f.2.2.length + 8 := by simp [wrL, headL, tailL]
def writeFr (f : Fm) : List UInt8 × Int := if checkFr f ≠ 0 then ([], checkFr f) else (wrL f, 0)
/-- byte number i -/
def bi (s : List UInt8) (i : Nat) : Nat := (s.getD i 0).toNat
theorem bi_lt (s : List UInt8) (i : Nat) : bi s i < 256 := (s.getD i 0).toNat_lt
def nn (s : List UInt8) : Nat := bi s 2 + 256 * bi s 3
def le4 (s : List UInt8) : Nat := bi s 0 + 256 * bi s 1 + 65536 * bi s 2 + 16777216 * bi s 3
def zeroFr : Fm := (0, 0, [])
def frontF (s : List UInt8) : Fm × Nat × Int :=
  if 0 < s.length ∧ (bi s 0 < 1 ∨ 9 < bi s 0) then (zeroFr, 0, 1) else if s.length < 4 then (zeroFr, 0, 0) else if 1024 < nn s then (zeroFr, 0, 2) else if s.length < nn s + 8 then (zeroFr, 0, 0) else
    if (crc (s.take (nn s + 4))).toNat ≠ le4 (s.drop (nn s + 4)) then (zeroFr, 0, 5) else (((bi s 0 : Int), (bi s 1 : Int), (s.drop 4).take (nn s)), nn s + 8, 0)
/-- what is told of bytes -/
def feedGo : Nat → List UInt8 → List Fm → (List UInt8 × Int) × List Fm × Int
  | 0, s, out => ((s, 0), out, 0)
  | f + 1, s, out => if (frontF s).2.2 ≠ 0 then (([], (frontF s).2.2), out, (frontF s).2.2) else if (frontF s).2.1 = 0 then ((s, 0), out, 0) else feedGo f (s.drop (frontF s).2.1) (out ++ [(frontF s).1])
def feedF (i : List UInt8 × Int) (s : List UInt8) : (List UInt8 × Int) × List Fm × Int := if i.2 ≠ 0 then (i, [], 15) else feedGo (i.1.length + s.length + 1) (i.1 ++ s) []
theorem front_cases (s : List UInt8) : ((frontF s).2.2 ≠ 0 ∧ (frontF s).2.1 = 0) ∨ ((frontF s).2.2 = 0 ∧ (frontF s).2.1 = 0) ∨ ((frontF s).2.2 = 0 ∧ 8 ≤ (frontF s).2.1 ∧ (frontF s).2.1 ≤ s.length ∧ (frontF s).2.1 ≤ 1032 ∧ (frontF s).1.2.2.length ≤ 1024) := by
  unfold frontF
  split
  · left; simp
  · split
    · right; left; simp
    · split
      · left; simp
      · split
        · right; left; simp
        · split
          · left; simp
          · right; right
            simp only [true_and]
            refine ⟨by omega, by omega, by omega, ?_⟩
            simp; omega
/-- more fuel is no matter -/
theorem feedGo_fuel : ∀ (f g : Nat) (s : List UInt8) (out : List Fm), s.length < f → s.length < g → feedGo f s out = feedGo g s out
  | 0, _, _, _, h, _ => by omega
  | _, 0, _, _, _, h => by omega
  | f + 1, g + 1, s, out, h1, h2 => by
    simp only [feedGo]
    split
    · rfl
    · split
      · rfl
      · rename_i c1 c2
        rcases front_cases s with ⟨a, b⟩ | ⟨a, b⟩ | ⟨a, b, c, d, _⟩
        · exact absurd b c2
        · exact absurd b c2
        · exact feedGo_fuel f g _ _ (by simp; omega) (by simp; omega)
end Go.Proofs.Ytnooleopmlijeaa.frameL

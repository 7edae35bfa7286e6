/- Part 5 of what LexerOwn needs: LexN, LexV, FeedL, FeedA, FeedB, FeedC, DfM, Made, AbcL, RexMany, Abc, FeedD, FeedE, FeedP, TkE, TkC, PlO, SmIr, RomI, RomK. -/
import Derived.Test.YtkmemlnkijinlaaMgD
import Derived.WalkKit
import Derived.WalkSpells
import Derived.WalkLawsBesides
import Derived.Deep.RegionLaw
import Derived.Deep.AppendLies
import Derived.Deep.QuietTactic
import Derived.BigQuiet
import Derived.Deep.DeepCutAuto
import Derived.Lib.Hide
import Derived.Test.YtkmemlnkijinlaaRows
import Derived.ProofKit
import Derived.OpenShut
import Derived.ShutString
import Derived.SizedLaws
import Derived.JoinedCond
import Derived.Deep.CondSized
import Derived.Deep.Quiet
import Derived.StillTail
import Derived.Deep.LoopGhost
import Derived.Laws.BitsLemmas
import Derived.Laws.BytesString
import Derived.Test.YtkmemlnkijinlaaProg
import Derived.Laws.StructEq
import Derived.Laws.MakeOwn
import Derived.Laws.AppendOwn
import Derived.Maps.OwnSet
import Derived.DeepKeys4
import Derived.WideKeyEntry
import Derived.Laws.Entries
import Derived.Shelf.Sort.Plain
import Derived.Ground.Names2Prog
import Derived.Shelf.Slices.CompactI
import Derived.Shelf.Slices.In.SortNone
import Derived.Lib.RowBridge
import Derived.Laws.BitsAllLaws
import Derived.Lib.TrailingZeros
import Derived.Lib.SlicesCompact
import Derived.ChangeKeysEq
import Derived.Laws.Bits64b
/- LexN -/
namespace Go.Proofs.Ytkmemlnkijinlaa.lexL
open Go.RowKit kit mix eng smallL
/-- the same with whatever tells the next state -/
def goN (nx : Int → UInt8 → Int) (tags : List Int) : List UInt8 → Nat → Int → Int → Nat → Int × Nat
  | [], _, _, r, t => (r, t)
  | b :: s, i, now, r, t =>
    if nx now b < 0 then (r, t)
    else if 0 ≤ tags.getD (nx now b).toNat 0 then goN nx tags s (i + 1) (nx now b) (tags.getD (nx now b).toNat 0) (i + 1)
    else goN nx tags s (i + 1) (nx now b) r t
theorem goN_congr {nx nx' : Int → UInt8 → Int} {tags : List Int} {n : Nat} (h : ∀ (q : Nat), q < n → ∀ b, nx q b = nx' q b ∧ -1 ≤ nx q b ∧ nx q b < n) : ∀ (s : List UInt8) (i q : Nat) (r : Int) (t : Nat), q < n → goN nx tags s i q r t = goN nx' tags s i q r t
  | [], _, _, _, _, _ => rfl
  | b :: s, i, q, r, t, hq => by
    obtain ⟨h1, h2, h3⟩ := h q hq b
    unfold goN
    rw [← h1]
    by_cases c : nx q b < 0
    · rw [if_pos c, if_pos c]
    · rw [if_neg c, if_neg c]
      obtain ⟨z, hz⟩ := Int.eq_ofNat_of_zero_le (show 0 ≤ nx q b by omega)
      rw [hz] at h3 ⊢
      rw [goN_congr h s (i + 1) z _ _ (by omega), goN_congr h s (i + 1) z _ _ (by omega)]
theorem one_goN (o : Of) (N : List (List Int)) (tags : List Int) : ∀ (s : List UInt8) (i : Nat) (now r : Int) (t : Nat), oneGo o N tags s i now r t = goN (nxP o N) tags s i now r t
  | [], _, _, _, _ => rfl
  | b :: s, i, now, r, t => by
    rw [oneGo_cons, goN, one_goN o N tags s, one_goN o N tags s]
/-- by rows -/
def nxR (R : List Row) (now : Int) (b : UInt8) : Int := (R.getD now.toNat row0).toList.getD b.toNat 0
theorem nxP_un {o : Of} {N : List (List Int)} {tags : List Int} (h : PkGood o N tags) {q : Nat} (hq : q < N.length) (b : UInt8) : nxP o N (q : Int) b = nxR (unR o N) q b := by
  obtain ⟨_, hw, e, _⟩ := nxP_in h hq b
  rw [e]
  unfold nxR unR
  rw [Int.toNat_natCast, List.getD_eq_getElem?_getD (l := List.map _ _), List.getElem?_map, List.getElem?_eq_getElem hq, Option.map_some, Option.getD_some, List.getD_eq_getElem?_getD, List.getElem?_eq_getElem (by simpa using b.toNat_lt), Option.getD_some, Vector.getElem_toList, Vector.getElem_ofFn]
  show _ = N[q].getD (o[b.toNat]'b.toNat_lt) 0
  rw [List.getD_eq_getElem?_getD, List.getElem?_eq_getElem hw]; rfl
def oneR (R : List Row) (tags : List Int) (s : List UInt8) (fr : Nat) : Int × Nat := goN (nxR R) tags (s.drop fr) fr 0 0 0
theorem one_rows {o : Of} {N : List (List Int)} {tags : List Int} (h : PkGood o N tags) (s : List UInt8) (fr : Nat) : oneF o N tags s fr = oneR (unR o N) tags s fr := by
  unfold oneF oneR
  rw [one_goN]
  exact goN_congr (n := N.length) (fun q hq b => ⟨nxP_un h hq b, (nxP_in h hq b).2.2.2⟩) _ fr 0 0 0 h.pos
def lexR (R : List Row) (tags : List Int) (s : List UInt8) : Nat → Nat → List Tok × Nat × Int
  | 0, _ => ([], 0, 0)
  | f + 1, at' => if at' < s.length then (if (oneR R tags s at').2 = 0 then ([], at', 9) else ((((oneR R tags s at').1, at', (oneR R tags s at').2) :: (lexR R tags s f (oneR R tags s at').2).1), (lexR R tags s f (oneR R tags s at').2).2)) else ([], 0, 0)
theorem lex_rows {o : Of} {N : List (List Int)} {tags : List Int} (h : PkGood o N tags) (s : List UInt8) : ∀ f at', lexGo o N tags s f at' = lexR (unR o N) tags s f at'
  | 0, _ => rfl
  | f + 1, at' => by rw [lexGo_succ, lexR, one_rows h, lex_rows h s f]
theorem lexF_rows {o : Of} {N : List (List Int)} {tags : List Int} (h : PkGood o N tags) (s : List UInt8) : lexF o N tags s = lexR (unR o N) tags s (s.length + 1) 0 := lex_rows h s _ _
end Go.Proofs.Ytkmemlnkijinlaa.lexL
namespace Go.Proofs.Ytkmemlnkijinlaa.eng
open Go.RowKit kit mix smallL
/-- a packed automaton that was made -/
theorem Mem.pkI {B : Base} {w : World} {L : List Own} {i j k g : Nat} {R : List Row} {tags : List Int} {vs : Nat → Value} {vt : Value} (hm : Mem B L w) (hi : L[i]? = some (rowA 24 valV g R.length vs)) (hj : L[j]? = some (nxO R.length (pkD R 256) vs)) (hk : L[k]? = some (rowO 3 1 vt tags.length (tags.flatMap kit.intC))) (hc : chk R tags = 0) :
    PkI w (.slice (some ⟨g, 0, none⟩) R.length R.length) vt (pkR R) tags := by
  have h1 : (rowA 24 valV g R.length vs).holds w := hm.get hi
  have h2 : (nxO R.length (pkD R 256) vs).holds w := hm.get hj
  have ok := pk_ok hc
  refine ⟨⟨some ⟨g, 0, none⟩, R.length, by rw [pkR_len], by rw [pkR_len]; exact Nat.le_refl _, by have := ok.le; rw [pkR_len] at this; unfold maxLen; omega, fun h0 => ⟨g, 0, rfl, ?_, fun i hi => ⟨[vs i], ⟨vs i, rfl, ?_⟩, fun j u hj => ?_⟩⟩⟩, sl_row hk _ hm⟩
  · rw [pkR_len] at h0
    exact World.block_lt_of_cell? w _ (rowA_cell h1 h0)
  · have hi2 : i < R.length := by rw [pkR_len] at hi; exact hi
    have h3 : (rowO 3 1 (vs i) (pkD R 256).length ((nxL (pkD R 256) i).flatMap kit.intC)).holds w := h2.1 i hi2
    have h4 : Sl w (vs i) (pkD R 256).length ((nxL (pkD R 256) i).flatMap kit.intC) := Sl.of_own h3
    have e : (pkR R)[i] = nxL (pkD R 256) i := pkR_get R hi2
    have hl : (nxL (pkD R 256) i).length = (pkD R 256).length := List.length_map ..
    refine SlF.of_flat (by rw [e, hl]; exact h4) (fun x hx => ?_) (fun b hb => ?_) fun a n cp hv => ?_
    · obtain ⟨q, hq, rfl⟩ := List.mem_iff_getElem.1 hx
      have := ok.rng i hi q hq
      have := ok.le
      exact ⟨by omega, by omega⟩
    · exact Own.lt _ w h3 b (.inl hb)
    · exact Own.lt _ w h3 a.block (.inl (by rw [hv]; rfl))
  · have hi2 : i < R.length := by rw [pkR_len] at hi; exact hi
    have hj0 : j = 0 := by have := (List.getElem?_eq_some_iff.1 hj).1; simp at this; exact this
    subst hj0
    simp only [List.getElem?_cons_zero, Option.some.injEq] at hj
    subst hj
    have := rowA_cell h1 hi2
    show w.cell? ⟨g, 0 + i * 1 + 0, none⟩ = some (vs i)
    rw [Nat.mul_one, Nat.add_zero]
    exact this
theorem ofS_256 (R : List Row) : ∀ b (h : b < 256), (ofS R 256)[b] < 256 := fun b hb => by
  have e : (ofS R 256)[b]'hb = pkN R b := by
    unfold ofS
    rw [Vector.getElem_ofFn]; simp [hb]
  rw [e]
  exact pkN_256 R hb
theorem pk_good {R : List Row} {tags : List Int} (h : chk R tags = 0) : PkGood (ofS R 256) (pkR R) tags := by
  have ok := pk_ok h
  have : ((pkR R).headD []).length = (pkD R 256).length := by
    have h0 := ok.pos
    have := ok.row 0 h0
    cases hR : pkR R with
    | nil => rw [hR] at h0; simp at h0
    | cons x r => simp only [hR] at this; exact this
  unfold PkGood
  rw [this]
  exact ok
end Go.Proofs.Ytkmemlnkijinlaa.eng

/- LexV -/
namespace Go.Proofs.Ytkmemlnkijinlaa.lexL
open Go.RowKit kit mix eng smallL
/-- tokens stand one behind the other, from a place on -/
def coverE : List Tok → Nat → Nat
  | [], e => e
  | t :: l, _ => coverE l t.2.2
def Covers : List Tok → Nat → Prop
  | [], _ => True
  | t :: l, e => t.2.1 = e ∧ e < t.2.2 ∧ Covers l t.2.2
theorem lexGo_covers {o : Of} {N : List (List Int)} {tags : List Int} {s : List UInt8} : ∀ (f a : Nat), a ≤ s.length → s.length < a + f → Covers (lexGo o N tags s f a).1 a ∧
    (((lexGo o N tags s f a).2 = (0, 0) ∧ coverE (lexGo o N tags s f a).1 a = s.length) ∨ ((lexGo o N tags s f a).2.2 = 9 ∧ coverE (lexGo o N tags s f a).1 a = (lexGo o N tags s f a).2.1 ∧ (lexGo o N tags s f a).2.1 < s.length))
  | 0, a, h1, h2 => by omega
  | f + 1, a, h1, h2 => by
    rw [lexGo_succ]
    by_cases c : a < s.length
    · rw [if_pos c]
      by_cases c2 : (oneF o N tags s a).2 = 0
      · rw [if_pos c2]
        exact ⟨trivial, .inr ⟨rfl, rfl, c⟩⟩
      · rw [if_neg c2]
        have ht := (oneF_to (o := o) (N := N) (tags := tags) h1).resolve_left c2
        obtain ⟨q1, q2⟩ := lexGo_covers (o := o) (N := N) (tags := tags) (s := s) f (oneF o N tags s a).2 ht.2 (by omega)
        exact ⟨⟨rfl, ht.1, q1⟩, q2⟩
    · rw [if_neg c]
      exact ⟨trivial, .inl ⟨rfl, by show a = s.length; omega⟩⟩
end Go.Proofs.Ytkmemlnkijinlaa.lexL

/- FeedL -/
namespace Go.Proofs.Ytkmemlnkijinlaa.lexL
open Go.RowKit kit mix eng smallL
/-- is what a token is settled? -/
def sureF (o : Of) (N : List (List Int)) : Int → List UInt8 → Bool
  | now, [] => !((N.getD now.toNat []).any fun x => decide (0 ≤ x))
  | now, b :: s => if nxP o N now b < 0 then true else sureF o N (nxP o N now b) s
theorem sureF_cons (o : Of) (N : List (List Int)) (now : Int) (b : UInt8) (s : List UInt8) : sureF o N now (b :: s) = if nxP o N now b < 0 then true else sureF o N (nxP o N now b) s := rfl
def lookF (o : Of) (N : List (List Int)) (tags : List Int) (s : List UInt8) : (Int × Nat) × Bool := (oneGo o N tags s 0 0 0 0, decide (s ≠ []) && sureF o N 0 s)
theorem lookF_to (o : Of) (N : List (List Int)) (tags : List Int) (s : List UInt8) : (lookF o N tags s).1.2 = 0 ∨ (0 < (lookF o N tags s).1.2 ∧ (lookF o N tags s).1.2 ≤ s.length) := by
  rcases oneGo_to o N tags s 0 0 0 0 with h | h
  · exact .inl h
  · right
    exact ⟨h.1, by have := h.2; show (oneGo _ _ _ _ _ _ _ _).2 ≤ _; omega⟩
/-- what is settled is told -/
def drainF (o : Of) (N : List (List Int)) (tags : List Int) : Nat → Nat → List UInt8 → List Tok × Nat × List UInt8 × Int
  | 0, a, u => ([], a, u, 0)
  | f + 1, a, u => if (lookF o N tags u).2 = true then (if (lookF o N tags u).1.2 = 0 then ([], a, u, 9) else (((lookF o N tags u).1.1, a, a + (lookF o N tags u).1.2) :: (drainF o N tags f (a + (lookF o N tags u).1.2) (u.drop (lookF o N tags u).1.2)).1, (drainF o N tags f (a + (lookF o N tags u).1.2) (u.drop (lookF o N tags u).1.2)).2)) else ([], a, u, 0)
theorem drain_succ (o : Of) (N : List (List Int)) (tags : List Int) (f a : Nat) (u : List UInt8) : drainF o N tags (f + 1) a u = if (lookF o N tags u).2 = true then (if (lookF o N tags u).1.2 = 0 then ([], a, u, 9) else (((lookF o N tags u).1.1, a, a + (lookF o N tags u).1.2) :: (drainF o N tags f (a + (lookF o N tags u).1.2) (u.drop (lookF o N tags u).1.2)).1, (drainF o N tags f (a + (lookF o N tags u).1.2) (u.drop (lookF o N tags u).1.2)).2)) else ([], a, u, 0) := rfl
/-- byte by byte -/
def feedGo (o : Of) (N : List (List Int)) (tags : List Int) : List UInt8 → Nat → List UInt8 → List Tok × Nat × List UInt8 × Int
  | [], a, u => ([], a, u, 0)
  | b :: s, a, u =>
    if (drainF o N tags (u.length + 2) a (u ++ [b])).2.2.2 ≠ 0 then ((drainF o N tags (u.length + 2) a (u ++ [b])).1, (drainF o N tags (u.length + 2) a (u ++ [b])).2.1, [], 9)
    else if 64 < (drainF o N tags (u.length + 2) a (u ++ [b])).2.2.1.length then ((drainF o N tags (u.length + 2) a (u ++ [b])).1, (drainF o N tags (u.length + 2) a (u ++ [b])).2.1, [], 10)
    else ((drainF o N tags (u.length + 2) a (u ++ [b])).1 ++ (feedGo o N tags s (drainF o N tags (u.length + 2) a (u ++ [b])).2.1 (drainF o N tags (u.length + 2) a (u ++ [b])).2.2.1).1, (feedGo o N tags s (drainF o N tags (u.length + 2) a (u ++ [b])).2.1 (drainF o N tags (u.length + 2) a (u ++ [b])).2.2.1).2)
theorem feedGo_cons (o : Of) (N : List (List Int)) (tags : List Int) (b : UInt8) (s : List UInt8) (a : Nat) (u : List UInt8) : feedGo o N tags (b :: s) a u =
    if (drainF o N tags (u.length + 2) a (u ++ [b])).2.2.2 ≠ 0 then ((drainF o N tags (u.length + 2) a (u ++ [b])).1, (drainF o N tags (u.length + 2) a (u ++ [b])).2.1, [], 9)
    else if 64 < (drainF o N tags (u.length + 2) a (u ++ [b])).2.2.1.length then ((drainF o N tags (u.length + 2) a (u ++ [b])).1, (drainF o N tags (u.length + 2) a (u ++ [b])).2.1, [], 10)
    else ((drainF o N tags (u.length + 2) a (u ++ [b])).1 ++ (feedGo o N tags s (drainF o N tags (u.length + 2) a (u ++ [b])).2.1 (drainF o N tags (u.length + 2) a (u ++ [b])).2.2.1).1, (feedGo o N tags s (drainF o N tags (u.length + 2) a (u ++ [b])).2.1 (drainF o N tags (u.length + 2) a (u ++ [b])).2.2.1).2) := rfl
theorem feed_step {o : Of} {N : List (List Int)} {tags : List Int} {b : UInt8} {s : List UInt8} {a0 : Nat} {u0 : List UInt8} {out0 : List Tok} {fin : List Tok × Nat × List UInt8 × Int} (h : (out0 ++ (feedGo o N tags (b :: s) a0 u0).1, (feedGo o N tags (b :: s) a0 u0).2) = fin) (out : List Tok) (a : Nat) (u : List UInt8) (e : Int)
    (hD : (out, a, u, e) = (out0 ++ (drainF o N tags (u0.length + 2) a0 (u0 ++ [b])).1, (drainF o N tags (u0.length + 2) a0 (u0 ++ [b])).2)) :
    (e ≠ 0 → fin = (out, a, [], 9)) ∧ (e = 0 → 64 < u.length → fin = (out, a, [], 10)) ∧ (e = 0 → ¬ 64 < u.length → (out ++ (feedGo o N tags s a u).1, (feedGo o N tags s a u).2) = fin) := by
  subst h
  rw [feedGo_cons]
  generalize drainF o N tags (u0.length + 2) a0 (u0 ++ [b]) = D at *
  obtain ⟨d1, d2, d3, d4⟩ := D
  simp only [Prod.mk.injEq] at hD
  obtain ⟨rfl, rfl, rfl, rfl⟩ := hD
  dsimp only
  refine ⟨fun h => ?_, fun h1 h2 => ?_, fun h1 h2 => ?_⟩
  · rw [if_pos h]
  · rw [if_neg (by simpa using h1), if_pos h2]
  · rw [if_neg (by simpa using h1), if_neg h2]
    dsimp only
    rw [List.append_assoc]
/-- what waits stays a suffix -/
theorem drain_keep {o : Of} {N : List (List Int)} {tags : List Int} : ∀ (f a : Nat) (u : List UInt8), u.length < f → a ≤ (drainF o N tags f a u).2.1 ∧ (drainF o N tags f a u).2.1 ≤ a + u.length ∧ (drainF o N tags f a u).2.2.1 = u.drop ((drainF o N tags f a u).2.1 - a) ∧ ((drainF o N tags f a u).2.2.2 = 9 ∨ ((drainF o N tags f a u).2.2.2 = 0 ∧ (lookF o N tags (drainF o N tags f a u).2.2.1).2 = false))
  | 0, _, _, h => by omega
  | f + 1, a, u, h => by
    rw [drain_succ]
    by_cases c : (lookF o N tags u).2 = true
    · rw [if_pos c]
      by_cases c2 : (lookF o N tags u).1.2 = 0
      · rw [if_pos c2]
        exact ⟨Nat.le_refl _, Nat.le_add_right _ _, by simp, .inl rfl⟩
      · rw [if_neg c2]
        have hto := (lookF_to o N tags u).resolve_left c2
        obtain ⟨h1, h2, h3, h4⟩ := drain_keep (o := o) (N := N) (tags := tags) f (a + (lookF o N tags u).1.2) (u.drop (lookF o N tags u).1.2) (by rw [List.length_drop]; omega)
        rw [List.length_drop] at h2
        refine ⟨by dsimp only; omega, by dsimp only; omega, ?_, h4⟩
        dsimp only
        rw [h3, List.drop_drop]
        congr 1; omega
    · rw [if_neg c]
      exact ⟨Nat.le_refl _, Nat.le_add_right _ _, by simp, .inr ⟨rfl, Bool.eq_false_iff.2 c⟩⟩
end Go.Proofs.Ytkmemlnkijinlaa.lexL

/- FeedA -/
namespace Go.Proofs.Ytkmemlnkijinlaa.eng
open Go.RowKit kit mix smallL lexL
def heldC (a : Int) (u : List UInt8) (e : Int) : List Value := [.int .i64 a, str u, .int .i64 e]
/-- feed.check -/
def chkH (c : Int) (a : Int) (u : List UInt8) (e : Int) : Int := if c ≠ 0 then c else if a < 0 ∨ 1099511627776 < a ∨ 64 < u.length then 1 else if e ≠ 0 then 15 else 0
set_option maxHeartbeats 4000000 in
theorem feedCheck_calls (o : Of) (vn vt : Value) (N : List (List Int)) (tags : List Int) (a : Int) (u : List UInt8) (e : Int) (w : World) (h : PkI w vn vt N tags) (ho : ∀ b (h : b < 256), o[b] < 256) (hu : u.length ≤ 9223372036854775807) :
    Calls Try.prog 27 #[pkV o vn vt, .agg (heldC a u e).toArray] w (Meets (ret (.int .i64 (chkH (chkP o N tags) a u e))) w) := by
  have hck := fun w' (hg : Gr w w') => pkChk_calls o vn vt N tags w' (h.gr hg) ho
  obtain ⟨⟨an, cn, rfl, -⟩, at', ct, rfl, -⟩ := h
  generalize chkP o N tags = c at *
  unfold chkH
  refine enter (args := [pkV o (.slice an N.length cn) (.slice at' tags.length ct), .agg (heldC a u e).toArray]) (n := 30) Try.func27 rfl rfl rfl ?_
  refine T_seq (T_region (TL_box rfl rfl rfl fun g2 => TL_box rfl rfl rfl fun g3 => ?_))
  conv => arg 8; simp only [zA, zB, zC, zD, zE, zF, zG, zH, zI, rowS, ret, id_eq]
  repeat (first
    | refine qv rfl (qp rfl) rfl rfl ?_ | refine TL_nil ?_ | refine T_seq ?_ | refine T_region ?_ | refine qcT rfl ?_ | refine qcF rfl ?_ | refine T_skip ?_
    | refine T_ret ?_ | refine T_block ?_ | refine E_then ?_ | refine E_thenR ?_ | refine E_blockN ?_ | refine E_blockR ?_
    | refine qs rfl rfl rfl rfl rfl rfl ?_
    | ((try refine qg rfl rfl rfl ?_); first | refine qv rfl (qp rfl) rfl rfl ?_ | refine qv rfl (rr_loadB (i := 0) TyC.ty rfl rfl (pk_size _ _ _)) rfl rfl ?_ | refine qv rfl (qfld FldC.fld rfl rfl) rfl rfl ?_ | refine qv rfl (rr_lss rfl rfl (qT (by omega))) rfl rfl ?_ | refine qv rfl (rr_lss rfl rfl (qF (by omega))) rfl rfl ?_ | refine qv rfl (rr_neq rfl rfl (qT (by omega))) rfl rfl ?_ | refine qv rfl (rr_neq rfl rfl (qF (by omega))) rfl rfl ?_ | refine qv rfl (rr_strlen Und.eq rfl) rfl rfl ?_ | refine qv rfl (rr_gtr rfl rfl (qT (by omega))) rfl rfl ?_ | refine qv rfl (rr_gtr rfl rfl (qF (by omega))) rfl rfl ?_))
  refine TL_call (he1 EntersC.en rfl rfl) (fun w hm => hck _ hm.below) rfl rfl rfl ?_
  intro _ _
  conv => arg 8; simp only [zA, zB, zC, zD, zE, zF, zG, zH, zI, rowS, ret, id_eq]
  by_cases c1 : c = 0
  · rw [if_neg (by simpa using c1)]
    by_cases c2 : a < 0
    · rw [if_pos (.inl c2)]
      repeat (first
        | refine qv rfl (qp rfl) rfl rfl ?_ | refine TL_nil ?_ | refine T_seq ?_ | refine T_region ?_ | refine qcT rfl ?_ | refine qcF rfl ?_ | refine T_skip ?_
        | refine T_ret ?_ | refine T_block ?_ | refine E_then ?_ | refine E_thenR ?_ | refine E_blockN ?_ | refine E_blockR ?_
        | refine qs rfl rfl rfl rfl rfl rfl ?_
        | ((try refine qg rfl rfl rfl ?_); first | refine qv rfl (qp rfl) rfl rfl ?_ | refine qv rfl (rr_neq (b := false) rfl rfl (decide_eq_false (by simpa using c1))) rfl rfl ?_ | refine qv rfl (rr_load1 (v := .int .i64 a) TyC.ty rfl (at_blk (i := 1) rfl rfl)) rfl rfl ?_ | refine qv rfl (rr_lss (b := true) rfl rfl (decide_eq_true c2)) rfl rfl ?_ | refine qv rfl (qfld FldC.fld rfl rfl) rfl rfl ?_ | refine qv rfl (rr_lss rfl rfl (qT (by omega))) rfl rfl ?_ | refine qv rfl (rr_lss rfl rfl (qF (by omega))) rfl rfl ?_ | refine qv rfl (rr_neq rfl rfl (qT (by omega))) rfl rfl ?_ | refine qv rfl (rr_neq rfl rfl (qF (by omega))) rfl rfl ?_ | refine qv rfl (rr_strlen Und.eq rfl) rfl rfl ?_ | refine qv rfl (rr_gtr rfl rfl (qT (by omega))) rfl rfl ?_ | refine qv rfl (rr_gtr rfl rfl (qF (by omega))) rfl rfl ?_))
      exact E_ret1e rfl rfl rfl
    · by_cases c3 : 1099511627776 < a
      · rw [if_pos (.inr (.inl c3))]
        repeat (first
          | refine qv rfl (qp rfl) rfl rfl ?_ | refine TL_nil ?_ | refine T_seq ?_ | refine T_region ?_ | refine qcT rfl ?_ | refine qcF rfl ?_ | refine T_skip ?_
          | refine T_ret ?_ | refine T_block ?_ | refine E_then ?_ | refine E_thenR ?_ | refine E_blockN ?_ | refine E_blockR ?_
          | refine qs rfl rfl rfl rfl rfl rfl ?_
          | ((try refine qg rfl rfl rfl ?_); first | refine qv rfl (qp rfl) rfl rfl ?_ | refine qv rfl (rr_neq (b := false) rfl rfl (decide_eq_false (by simpa using c1))) rfl rfl ?_ | refine qv rfl (rr_load1 (v := .int .i64 a) TyC.ty rfl (at_blk (i := 1) rfl rfl)) rfl rfl ?_ | refine qv rfl (rr_lss (b := false) rfl rfl (decide_eq_false c2)) rfl rfl ?_ | refine qv rfl (qfld FldC.fld rfl rfl) rfl rfl ?_ | refine qv rfl (rr_lss rfl rfl (qT (by omega))) rfl rfl ?_ | refine qv rfl (rr_lss rfl rfl (qF (by omega))) rfl rfl ?_ | refine qv rfl (rr_neq rfl rfl (qT (by omega))) rfl rfl ?_ | refine qv rfl (rr_neq rfl rfl (qF (by omega))) rfl rfl ?_ | refine qv rfl (rr_gtr (b := true) rfl rfl (decide_eq_true c3)) rfl rfl ?_ | refine qv rfl (rr_strlen Und.eq rfl) rfl rfl ?_ | refine qv rfl (rr_gtr rfl rfl (qT (by omega))) rfl rfl ?_ | refine qv rfl (rr_gtr rfl rfl (qF (by omega))) rfl rfl ?_))
        exact E_ret1e rfl rfl rfl
      · by_cases c4 : 64 < u.length
        · rw [if_pos (.inr (.inr c4))]
          repeat (first
            | refine qv rfl (qp rfl) rfl rfl ?_ | refine TL_nil ?_ | refine T_seq ?_ | refine T_region ?_ | refine qcT rfl ?_ | refine qcF rfl ?_ | refine T_skip ?_
            | refine T_ret ?_ | refine T_block ?_ | refine E_then ?_ | refine E_thenR ?_ | refine E_blockN ?_ | refine E_blockR ?_
            | refine qs rfl rfl rfl rfl rfl rfl ?_
            | ((try refine qg rfl rfl rfl ?_); first | refine qv rfl (qp rfl) rfl rfl ?_ | refine qv rfl (rr_neq (b := false) rfl rfl (decide_eq_false (by simpa using c1))) rfl rfl ?_ | refine qv rfl (rr_load1 (v := .int .i64 a) TyC.ty rfl (at_blk (i := 1) rfl rfl)) rfl rfl ?_ | refine qv rfl (rr_load1 (v := str u) TyC.ty rfl (at_blk (i := 1) rfl rfl)) rfl rfl ?_ | refine qv rfl (rr_lss (b := false) rfl rfl (decide_eq_false c2)) rfl rfl ?_ | refine qv rfl (qfld FldC.fld rfl rfl) rfl rfl ?_ | refine qv rfl (rr_lss rfl rfl (qT (by omega))) rfl rfl ?_ | refine qv rfl (rr_lss rfl rfl (qF (by omega))) rfl rfl ?_ | refine qv rfl (rr_neq rfl rfl (qT (by omega))) rfl rfl ?_ | refine qv rfl (rr_neq rfl rfl (qF (by omega))) rfl rfl ?_ | refine qv rfl (rr_gtr (b := false) rfl rfl (decide_eq_false c3)) rfl rfl ?_ | refine qv rfl (rr_gtr (b := true) rfl rfl (decide_eq_true (by omega))) rfl rfl ?_ | refine qv rfl (rr_strlen Und.eq rfl) rfl rfl ?_ | refine qv rfl (rr_gtr rfl rfl (qT (by omega))) rfl rfl ?_ | refine qv rfl (rr_gtr rfl rfl (qF (by omega))) rfl rfl ?_))
          exact E_ret1e rfl rfl rfl
        · rw [if_neg (by omega)]
          by_cases c5 : e = 0
          · rw [if_neg (by simpa using c5)]
            repeat (first
              | refine qv rfl (qp rfl) rfl rfl ?_ | refine TL_nil ?_ | refine T_seq ?_ | refine T_region ?_ | refine qcT rfl ?_ | refine qcF rfl ?_ | refine T_skip ?_
              | refine T_ret ?_ | refine T_block ?_ | refine E_then ?_ | refine E_thenR ?_ | refine E_blockN ?_ | refine E_blockR ?_
              | refine qs rfl rfl rfl rfl rfl rfl ?_
              | ((try refine qg rfl rfl rfl ?_); first | refine qv rfl (qp rfl) rfl rfl ?_ | refine qv rfl (rr_neq (b := false) rfl rfl (decide_eq_false (by simpa using c1))) rfl rfl ?_ | refine qv rfl (rr_load1 (v := .int .i64 a) TyC.ty rfl (at_blk (i := 1) rfl rfl)) rfl rfl ?_ | refine qv rfl (rr_load1 (v := str u) TyC.ty rfl (at_blk (i := 1) rfl rfl)) rfl rfl ?_ | refine qv rfl (rr_load1 (v := .int .i64 e) TyC.ty rfl (at_blk (i := 1) rfl rfl)) rfl rfl ?_ | refine qv rfl (rr_lss (b := false) rfl rfl (decide_eq_false c2)) rfl rfl ?_ | refine qv rfl (rr_neq (b := false) rfl rfl (decide_eq_false (by simpa using c5))) rfl rfl ?_ | refine qv rfl (qfld FldC.fld rfl rfl) rfl rfl ?_ | refine qv rfl (rr_lss rfl rfl (qT (by omega))) rfl rfl ?_ | refine qv rfl (rr_lss rfl rfl (qF (by omega))) rfl rfl ?_ | refine qv rfl (rr_neq rfl rfl (qT (by omega))) rfl rfl ?_ | refine qv rfl (rr_neq rfl rfl (qF (by omega))) rfl rfl ?_ | refine qv rfl (rr_gtr (b := false) rfl rfl (decide_eq_false c3)) rfl rfl ?_ | refine qv rfl (rr_gtr (b := false) rfl rfl (decide_eq_false (by omega))) rfl rfl ?_ | refine qv rfl (rr_strlen Und.eq rfl) rfl rfl ?_ | refine qv rfl (rr_gtr rfl rfl (qT (by omega))) rfl rfl ?_ | refine qv rfl (rr_gtr rfl rfl (qF (by omega))) rfl rfl ?_))
            exact E_ret1e rfl rfl rfl
          · rw [if_pos c5]
            repeat (first
              | refine qv rfl (qp rfl) rfl rfl ?_ | refine TL_nil ?_ | refine T_seq ?_ | refine T_region ?_ | refine qcT rfl ?_ | refine qcF rfl ?_ | refine T_skip ?_
              | refine T_ret ?_ | refine T_block ?_ | refine E_then ?_ | refine E_thenR ?_ | refine E_blockN ?_ | refine E_blockR ?_
              | refine qs rfl rfl rfl rfl rfl rfl ?_
              | ((try refine qg rfl rfl rfl ?_); first | refine qv rfl (qp rfl) rfl rfl ?_ | refine qv rfl (rr_neq (b := false) rfl rfl (decide_eq_false (by simpa using c1))) rfl rfl ?_ | refine qv rfl (rr_load1 (v := .int .i64 a) TyC.ty rfl (at_blk (i := 1) rfl rfl)) rfl rfl ?_ | refine qv rfl (rr_load1 (v := str u) TyC.ty rfl (at_blk (i := 1) rfl rfl)) rfl rfl ?_ | refine qv rfl (rr_load1 (v := .int .i64 e) TyC.ty rfl (at_blk (i := 1) rfl rfl)) rfl rfl ?_ | refine qv rfl (rr_lss (b := false) rfl rfl (decide_eq_false c2)) rfl rfl ?_ | refine qv rfl (rr_neq (b := true) rfl rfl (decide_eq_true c5)) rfl rfl ?_ | refine qv rfl (qfld FldC.fld rfl rfl) rfl rfl ?_ | refine qv rfl (rr_lss rfl rfl (qT (by omega))) rfl rfl ?_ | refine qv rfl (rr_lss rfl rfl (qF (by omega))) rfl rfl ?_ | refine qv rfl (rr_neq rfl rfl (qT (by omega))) rfl rfl ?_ | refine qv rfl (rr_neq rfl rfl (qF (by omega))) rfl rfl ?_ | refine qv rfl (rr_gtr (b := false) rfl rfl (decide_eq_false c3)) rfl rfl ?_ | refine qv rfl (rr_gtr (b := false) rfl rfl (decide_eq_false (by omega))) rfl rfl ?_ | refine qv rfl (rr_strlen Und.eq rfl) rfl rfl ?_ | refine qv rfl (rr_gtr rfl rfl (qT (by omega))) rfl rfl ?_ | refine qv rfl (rr_gtr rfl rfl (qF (by omega))) rfl rfl ?_))
            exact E_ret1e rfl rfl rfl
  · rw [if_pos c1]
    repeat (first
      | refine qv rfl (qp rfl) rfl rfl ?_ | refine TL_nil ?_ | refine T_seq ?_ | refine T_region ?_ | refine qcT rfl ?_ | refine qcF rfl ?_ | refine T_skip ?_
      | refine T_ret ?_ | refine T_block ?_ | refine E_then ?_ | refine E_thenR ?_ | refine E_blockN ?_ | refine E_blockR ?_
      | refine qs rfl rfl rfl rfl rfl rfl ?_
      | ((try refine qg rfl rfl rfl ?_); first | refine qv rfl (qp rfl) rfl rfl ?_ | refine qv rfl (rr_neq (b := true) rfl rfl (decide_eq_true c1)) rfl rfl ?_ | refine qv rfl (qfld FldC.fld rfl rfl) rfl rfl ?_ | refine qv rfl (rr_lss rfl rfl (qT (by omega))) rfl rfl ?_ | refine qv rfl (rr_lss rfl rfl (qF (by omega))) rfl rfl ?_ | refine qv rfl (rr_neq rfl rfl (qT (by omega))) rfl rfl ?_ | refine qv rfl (rr_neq rfl rfl (qF (by omega))) rfl rfl ?_ | refine qv rfl (rr_strlen Und.eq rfl) rfl rfl ?_ | refine qv rfl (rr_gtr rfl rfl (qT (by omega))) rfl rfl ?_ | refine qv rfl (rr_gtr rfl rfl (qF (by omega))) rfl rfl ?_))
    exact E_ret1e rfl rfl rfl
theorem any_le {l : List Int} {k : Nat} (h : ∀ j (h : j < l.length), j < k → l[j] < 0) (hk : l.length ≤ k) : (l.any fun x => decide (0 ≤ x)) = false := by
  rw [List.any_eq_false]
  intro x hx
  obtain ⟨j, hj, rfl⟩ := List.mem_iff_getElem.1 hx
  have := h j hj (by omega)
  simp; omega
set_option maxHeartbeats 8000000 in
theorem look_calls (o : Of) (vn vt : Value) (N : List (List Int)) (tags : List Int) (s : List UInt8) (w : World) (h : PkI w vn vt N tags) (hg : PkGood o N tags) (hs : s.length ≤ 1000000) :
    Calls Try.prog 28 #[pkV o vn vt, str s] w (Meets (ret (.tuple #[.int .i64 (lookF o N tags s).1.1, .int .i64 ((lookF o N tags s).1.2 : Int), .bool (lookF o N tags s).2])) w) := by
  have hnx := fun {q} hq b => nxP_in hg (q := q) hq b
  have hpos := hg.pos
  have hlen := hg.len
  obtain ⟨⟨an, cn, rfl, hn1, hn2, hn3⟩, at', ct, rfl, ht1, ht2, ht3⟩ := h
  unfold maxLen at hn2 ht2
  obtain ⟨bn, offn, rfl, _, hnd⟩ := hn3 (by omega)
  obtain ⟨bt, offt, rfl, htd⟩ := ht3 (by omega)
  clear hn3 ht3 hg
  refine enter (args := [pkV o (.slice (some ⟨bn, offn, none⟩) N.length cn) (.slice (some ⟨bt, offt, none⟩) tags.length ct), str s]) (n := 66) Try.func28 rfl rfl rfl ?_
  refine T_seq (T_region (TL_box rfl rfl rfl fun g2 => ?_))
  conv => arg 8; simp only [zA, zB, zC, zD, zE, zF, zG, zH, zI, rowS, ret, id_eq]
  repeat (first
    | refine qv rfl (qp rfl) rfl rfl ?_ | refine TL_nil ?_ | refine T_seq ?_ | refine T_region ?_ | refine qcT rfl ?_ | refine qcF rfl ?_ | refine T_skip ?_
    | refine T_exit ?_ | refine T_ret ?_ | refine T_block ?_ | refine E_then ?_ | refine E_thenX ?_ | refine E_thenR ?_ | refine E_blockN ?_
    | refine E_blockR ?_ | refine E_blockX ?_ | refine E_blockO rfl ?_ | refine qv rfl (rr_strlen Und.eq rfl) rfl rfl ?_
    | refine qv rfl (qlen Und.eq rfl) rfl rfl ?_ | refine qv rfl (qfld FldC.fld rfl rfl) rfl rfl ?_
    | refine qv rfl (rr_lss rfl rfl (qT (by omega))) rfl rfl ?_ | refine qv rfl (rr_lss rfl rfl (qF (by omega))) rfl rfl ?_
    | refine qv rfl (rr_geq rfl rfl (qT (by omega))) rfl rfl ?_ | refine qv rfl (rr_geq rfl rfl (qF (by omega))) rfl rfl ?_
    | refine qv rfl (rr_add64 rfl rfl (by omega) (by omega) rfl) rfl rfl ?_)
  unfold lookF
  dsimp only
  generalize hfin : oneGo o N tags s 0 0 0 0 = fin
  generalize hsr : sureF o N 0 s = sr
  refine T_loop (ι := Nat × Nat × Int × Nat) (fun (i, now, r, t) => i ≤ s.length ∧ now < N.length ∧ t ≤ i ∧ (t = 0 → r = 0) ∧ oneGo o N tags (s.drop i) i (now : Int) r t = fin ∧ sureF o N (now : Int) (s.drop i) = sr) (fun (i, now, r, t) => [(1, str s), (2, .pointer (some ⟨g2, 0, none⟩)), (4, .int .i64 r), (5, .int .i64 (t : Int)), (7, .int .i64 (now : Int)), (12, .int .i64 s.length), (13, .int .i64 (i : Int))])
    (fun _ => [blkO g2 (pkC o (.slice (some ⟨bn, offn, none⟩) N.length cn) (.slice (some ⟨bt, offt, none⟩) tags.length ct)).toArray 26]) (fun (i, _, _, _) => s.length - i) (0, 0, 0, 0) ⟨Nat.zero_le _, hpos, Nat.zero_le _, fun _ => rfl, hfin, hsr⟩ (by repeat' (first | exact True.intro | refine And.intro rfl ?_)) rfl ?_
  rintro ⟨i, now, r, t⟩ ⟨i1, i2, i3, i6, i4, i5⟩
  dsimp only at i1 i2 i3 i4 i5 i6 ⊢
  clear hfin hsr
  by_cases c1 : i < s.length
  · have hne : decide (s ≠ []) = true := decide_eq_true (by rintro rfl; simp at c1)
    rw [List.drop_eq_getElem_cons c1, oneGo_cons] at i4
    rw [List.drop_eq_getElem_cons c1, sureF_cons] at i5
    obtain ⟨_, hw, hx0, hx1, hx2⟩ := hnx i2 s[i]
    have hb : s[(i : Int).toNat]? = some s[i] := by rw [Int.toNat_natCast]; exact List.getElem?_eq_getElem c1
    have hcell := of_toB (vn := .slice (some ⟨bn, offn, none⟩) N.length cn) (vt := .slice (some ⟨bt, offt, none⟩) tags.length ct) o s[i]
    have hb8 := s[i].toNat_lt
    obtain ⟨u, ⟨au, cu, rfl, hcu, hmu, hru⟩, hdu⟩ := fol_at hnd i2
    have hatN := fun (L : List Own) => at_rd (L := L) hdu (j := 0) (v := .slice au N[now].length cu) rfl
    obtain ⟨bu, offu, rfl, hrd⟩ := hru (by omega)
    have hatU := fun (L : List Own) => at_el (L := L) SmIn_len hrd hw 0 _ rfl
    have hatU' : ∀ (L : List Own), At (w : Base) L ⟨bu, offu + o[s[i].toNat] * 1 + 0, none⟩ (.int .i64 (nxP o N (now : Int) s[i])) := fun L => by rw [hx0]; exact hatU L
    clear hdu hrd hru hatU hx0 hnd
    generalize s[i] = b at *
    generalize o[b.toNat] = ob at *
    generalize nxP o N (now : Int) b = x at *
    generalize N[now].length = wd at *
    repeat (first
      | refine qv rfl (qp rfl) rfl rfl ?_ | refine TL_nil ?_ | refine T_seq ?_ | refine T_region ?_ | refine qcT rfl ?_ | refine qcF rfl ?_ | refine T_skip ?_
      | refine T_exit ?_ | refine T_ret ?_ | refine T_block ?_ | refine E_then ?_ | refine E_thenX ?_ | refine E_thenR ?_ | refine E_blockN ?_
      | refine E_blockR ?_ | refine E_blockX ?_ | refine E_blockO rfl ?_ | refine qv rfl (rr_strlen Und.eq rfl) rfl rfl ?_
      | refine qv rfl (qlen Und.eq rfl) rfl rfl ?_ | refine qv rfl (qfld FldC.fld rfl rfl) rfl rfl ?_
      | refine qv rfl (rr_lss rfl rfl (qT (by omega))) rfl rfl ?_ | refine qv rfl (rr_lss rfl rfl (qF (by omega))) rfl rfl ?_
      | refine qv rfl (rr_geq rfl rfl (qT (by omega))) rfl rfl ?_ | refine qv rfl (rr_geq rfl rfl (qF (by omega))) rfl rfl ?_
      | refine qv rfl (rr_add64 rfl rfl (by omega) (by omega) rfl) rfl rfl ?_)
    refine T_ord ([blkO g2 (pkC o (.slice (some ⟨bn, offn, none⟩) N.length cn) (.slice (some ⟨bt, offt, none⟩) tags.length ct)).toArray 26]) (.calm 0 (.calm 1 (.calm 2 (.calm 3 (.calm 4 (.calm 5 (.calm 6 (.calm 7 (.calm 8 (.calm 9 (.calm 10 (.calm 11 (.calm 12 (.calm 13 (.done))))))))))))))) (fun _ h => h) (by kernel_rfl) (by kernel_rfl) (by intro c a d v w h; cases d <;> exact h) ?_
    repeat (first
      | ((first | refine TW_plain rfl rfl ?_ | refine TW_gmet rfl rfl rfl rfl ?_); first | refine TN_val (qp rfl) rfl rfl ?_ | refine TN_val (rr_load1 TyC.ty rfl (at_blk (i := 0) rfl (pk_next _ _ _))) rfl rfl ?_ | refine TN_val (rr_idxc (j := now) Und.eq TyC.ty rfl rfl i2) rfl rfl ?_ | refine TN_val (rr_load1 TyC.ty rfl (hatN _)) rfl rfl ?_ | refine TN_val (rr_stridx Und.eq rfl rfl (by omega) hb) rfl rfl ?_ | refine TN_val (rr_aidx1 Und.eq TyC.ty rfl rfl hb8) rfl rfl ?_ | refine TN_val (rr_load1 TyC.ty rfl (at_blk (i := 0) rfl hcell)) rfl rfl ?_ | refine TN_val (rr_idxc (j := ob) Und.eq TyC.ty rfl rfl hw) rfl rfl ?_ | refine TN_val (rr_load1 TyC.ty rfl (hatU' _)) rfl rfl ?_ | refine TN_val (rr_strlen Und.eq rfl) rfl rfl ?_ | refine TN_val (qlen Und.eq rfl) rfl rfl ?_ | refine TN_val (qfld FldC.fld rfl rfl) rfl rfl ?_ | refine TN_val (rr_lss rfl rfl (qT (by omega))) rfl rfl ?_ | refine TN_val (rr_lss rfl rfl (qF (by omega))) rfl rfl ?_ | refine TN_val (rr_geq rfl rfl (qT (by omega))) rfl rfl ?_ | refine TN_val (rr_geq rfl rfl (qF (by omega))) rfl rfl ?_ | refine TN_val (rr_add64 rfl rfl (by omega) (by omega) rfl) rfl rfl ?_)
      | refine TW_done ?_)
    by_cases q1 : x < 0
    · rw [if_pos q1] at i4 i5
      subst i4 i5
      rw [hne, Bool.true_and]
      repeat (first
        | refine qv rfl (qp rfl) rfl rfl ?_ | refine TL_nil ?_ | refine T_seq ?_ | refine T_region ?_ | refine qcT rfl ?_ | refine qcF rfl ?_ | refine T_skip ?_
        | refine T_exit ?_ | refine T_ret ?_ | refine T_block ?_ | refine E_then ?_ | refine E_thenX ?_ | refine E_thenR ?_ | refine E_blockN ?_
        | refine E_blockR ?_ | refine E_blockX ?_ | refine E_blockO rfl ?_ | refine qv rfl (rr_lss (b := true) rfl rfl (decide_eq_true q1)) rfl rfl ?_
        | refine qv rfl (rr_strlen Und.eq rfl) rfl rfl ?_ | refine qv rfl (qlen Und.eq rfl) rfl rfl ?_ | refine qv rfl (qfld FldC.fld rfl rfl) rfl rfl ?_
        | refine qv rfl (rr_lss rfl rfl (qT (by omega))) rfl rfl ?_ | refine qv rfl (rr_lss rfl rfl (qF (by omega))) rfl rfl ?_
        | refine qv rfl (rr_geq rfl rfl (qT (by omega))) rfl rfl ?_ | refine qv rfl (rr_geq rfl rfl (qF (by omega))) rfl rfl ?_
        | refine qv rfl (rr_add64 rfl rfl (by omega) (by omega) rfl) rfl rfl ?_)
      exact E_ret3 rfl rfl rfl rfl fun w hm => hm.ret
    · rw [if_neg q1] at i4 i5
      obtain ⟨xn, rfl⟩ := Int.eq_ofNat_of_zero_le (show 0 ≤ x by omega)
      have hxt : xn < tags.length := by omega
      have hatT := fun (L : List Own) => at_el (L := L) SmIn_len htd hxt 0 _ rfl
      rw [Int.toNat_natCast, List.getD_eq_getElem?_getD (l := tags), List.getElem?_eq_getElem hxt, Option.getD_some] at i4
      generalize tags[xn] = tg at *
      have hatT' : ∀ (L : List Own), At (w : Base) L ⟨bt, offt + xn * 1 + 0, none⟩ (.int .i64 tg) := hatT
      by_cases q2 : 0 ≤ tg
      · rw [if_pos q2] at i4
        repeat (first
          | refine qv rfl (qp rfl) rfl rfl ?_ | refine TL_nil ?_ | refine T_seq ?_ | refine T_region ?_ | refine qcT rfl ?_ | refine qcF rfl ?_ | refine T_skip ?_
          | refine T_exit ?_ | refine T_ret ?_ | refine T_block ?_ | refine E_then ?_ | refine E_thenX ?_ | refine E_thenR ?_ | refine E_blockN ?_
          | refine E_blockR ?_ | refine E_blockX ?_ | refine E_blockO rfl ?_ | refine qv rfl (rr_lss (b := false) rfl rfl (decide_eq_false q1)) rfl rfl ?_
          | refine qv rfl (rr_load1 TyC.ty rfl (at_blk (i := 0) rfl (pk_tags _ _ _))) rfl rfl ?_
          | refine qv rfl (rr_idxc (j := xn) Und.eq TyC.ty rfl rfl hxt) rfl rfl ?_ | refine qv rfl (rr_load1 (v := .int .i64 tg) TyC.ty rfl (hatT' _)) rfl rfl ?_
          | refine qv rfl (rr_geq (b := true) rfl rfl (decide_eq_true q2)) rfl rfl ?_
          | refine qv rfl (rr_add64 (r := ((i + 1 : Nat) : Int)) rfl rfl (by omega) (by omega) (by omega)) rfl rfl ?_
          | refine qv rfl (rr_strlen Und.eq rfl) rfl rfl ?_ | refine qv rfl (qlen Und.eq rfl) rfl rfl ?_ | refine qv rfl (qfld FldC.fld rfl rfl) rfl rfl ?_
          | refine qv rfl (rr_lss rfl rfl (qT (by omega))) rfl rfl ?_ | refine qv rfl (rr_lss rfl rfl (qF (by omega))) rfl rfl ?_
          | refine qv rfl (rr_geq rfl rfl (qT (by omega))) rfl rfl ?_ | refine qv rfl (rr_geq rfl rfl (qF (by omega))) rfl rfl ?_
          | refine qv rfl (rr_add64 rfl rfl (by omega) (by omega) rfl) rfl rfl ?_)
        exact E_round (i + 1, xn, tg, i + 1) ⟨by show i + 1 ≤ s.length; omega, by show xn < N.length; omega, Nat.le_refl _, fun h => absurd h (Nat.succ_ne_zero i), i4, i5⟩ (by show s.length - (i + 1) < s.length - i; omega) (by repeat' (first | exact True.intro | refine And.intro rfl ?_)) rfl
      · rw [if_neg q2] at i4
        repeat (first
          | refine qv rfl (qp rfl) rfl rfl ?_ | refine TL_nil ?_ | refine T_seq ?_ | refine T_region ?_ | refine qcT rfl ?_ | refine qcF rfl ?_ | refine T_skip ?_
          | refine T_exit ?_ | refine T_ret ?_ | refine T_block ?_ | refine E_then ?_ | refine E_thenX ?_ | refine E_thenR ?_ | refine E_blockN ?_
          | refine E_blockR ?_ | refine E_blockX ?_ | refine E_blockO rfl ?_ | refine qv rfl (rr_lss (b := false) rfl rfl (decide_eq_false q1)) rfl rfl ?_
          | refine qv rfl (rr_load1 TyC.ty rfl (at_blk (i := 0) rfl (pk_tags _ _ _))) rfl rfl ?_
          | refine qv rfl (rr_idxc (j := xn) Und.eq TyC.ty rfl rfl hxt) rfl rfl ?_ | refine qv rfl (rr_load1 (v := .int .i64 tg) TyC.ty rfl (hatT' _)) rfl rfl ?_
          | refine qv rfl (rr_geq (b := false) rfl rfl (decide_eq_false q2)) rfl rfl ?_
          | refine qv rfl (rr_add64 (r := ((i + 1 : Nat) : Int)) rfl rfl (by omega) (by omega) (by omega)) rfl rfl ?_
          | refine qv rfl (rr_strlen Und.eq rfl) rfl rfl ?_ | refine qv rfl (qlen Und.eq rfl) rfl rfl ?_ | refine qv rfl (qfld FldC.fld rfl rfl) rfl rfl ?_
          | refine qv rfl (rr_lss rfl rfl (qT (by omega))) rfl rfl ?_ | refine qv rfl (rr_lss rfl rfl (qF (by omega))) rfl rfl ?_
          | refine qv rfl (rr_geq rfl rfl (qT (by omega))) rfl rfl ?_ | refine qv rfl (rr_geq rfl rfl (qF (by omega))) rfl rfl ?_
          | refine qv rfl (rr_add64 rfl rfl (by omega) (by omega) rfl) rfl rfl ?_)
        exact E_round (i + 1, xn, r, t) ⟨by show i + 1 ≤ s.length; omega, by show xn < N.length; omega, by show t ≤ i + 1; omega, i6, i4, i5⟩ (by show s.length - (i + 1) < s.length - i; omega) (by repeat' (first | exact True.intro | refine And.intro rfl ?_)) rfl
  · rw [List.drop_eq_nil_of_le (by omega)] at i4 i5
    have i4 : (r, t) = fin := i4
    subst i4
    by_cases e1 : s = []
    · have hne : decide (s ≠ []) = false := decide_eq_false (by simpa using e1)
      rw [hne, Bool.false_and]
      subst e1
      obtain rfl : i = 0 := by simp at i1; exact i1
      obtain rfl : t = 0 := by omega
      obtain rfl := i6 rfl
      repeat (first
        | refine qv rfl (qp rfl) rfl rfl ?_ | refine TL_nil ?_ | refine T_seq ?_ | refine T_region ?_ | refine qcT rfl ?_ | refine qcF rfl ?_ | refine T_skip ?_
        | refine T_exit ?_ | refine T_ret ?_ | refine T_block ?_ | refine E_then ?_ | refine E_thenX ?_ | refine E_thenR ?_ | refine E_blockN ?_
        | refine E_blockR ?_ | refine E_blockX ?_ | refine E_blockO rfl ?_ | refine qv rfl (rr_streq (b := true) rfl rfl (decide_eq_true rfl)) rfl rfl ?_
        | refine qv rfl (rr_strlen Und.eq rfl) rfl rfl ?_ | refine qv rfl (qlen Und.eq rfl) rfl rfl ?_ | refine qv rfl (qfld FldC.fld rfl rfl) rfl rfl ?_
        | refine qv rfl (rr_lss rfl rfl (qT (by omega))) rfl rfl ?_ | refine qv rfl (rr_lss rfl rfl (qF (by omega))) rfl rfl ?_
        | refine qv rfl (rr_geq rfl rfl (qT (by omega))) rfl rfl ?_ | refine qv rfl (rr_geq rfl rfl (qF (by omega))) rfl rfl ?_
        | refine qv rfl (rr_add64 rfl rfl (by omega) (by omega) rfl) rfl rfl ?_)
      exact E_ret3 rfl rfl rfl rfl fun w hm => hm.ret
    · have hne : decide (s ≠ []) = true := decide_eq_true e1
      rw [hne, Bool.true_and]
      have i5 : (!((N.getD ((now : Int).toNat) []).any fun x => decide (0 ≤ x))) = sr := i5
      obtain ⟨u, ⟨au, cu, rfl, hcu, hmu, hru⟩, hdu⟩ := fol_at hnd i2
      have hatN := fun (L : List Own) => at_rd (L := L) hdu (j := 0) (v := .slice au N[now].length cu) rfl
      rw [Int.toNat_natCast, List.getD_eq_getElem?_getD, List.getElem?_eq_getElem i2, Option.getD_some] at i5
      clear hdu hnx hnd i4
      generalize N[now] = row at *
      unfold maxLen at hmu
      repeat (first
        | refine qv rfl (qp rfl) rfl rfl ?_ | refine TL_nil ?_ | refine T_seq ?_ | refine T_region ?_ | refine qcT rfl ?_ | refine qcF rfl ?_ | refine T_skip ?_
        | refine T_exit ?_ | refine T_ret ?_ | refine T_block ?_ | refine E_then ?_ | refine E_thenX ?_ | refine E_thenR ?_ | refine E_blockN ?_
        | refine E_blockR ?_ | refine E_blockX ?_ | refine E_blockO rfl ?_ | refine qv rfl (rr_streq (b := false) rfl rfl (decide_eq_false e1)) rfl rfl ?_
        | refine qv rfl (rr_load1 TyC.ty rfl (at_blk (i := 0) rfl (pk_next _ _ _))) rfl rfl ?_
        | refine qv rfl (rr_idxc (j := now) Und.eq TyC.ty rfl rfl i2) rfl rfl ?_ | refine qv rfl (rr_load1 TyC.ty rfl (hatN _)) rfl rfl ?_
        | refine qv rfl (rr_strlen Und.eq rfl) rfl rfl ?_ | refine qv rfl (qlen Und.eq rfl) rfl rfl ?_ | refine qv rfl (qfld FldC.fld rfl rfl) rfl rfl ?_
        | refine qv rfl (rr_lss rfl rfl (qT (by omega))) rfl rfl ?_ | refine qv rfl (rr_lss rfl rfl (qF (by omega))) rfl rfl ?_
        | refine qv rfl (rr_geq rfl rfl (qT (by omega))) rfl rfl ?_ | refine qv rfl (rr_geq rfl rfl (qF (by omega))) rfl rfl ?_
        | refine qv rfl (rr_add64 rfl rfl (by omega) (by omega) rfl) rfl rfl ?_)
      clear hatN
      refine T_pick [] (by decide) rfl ?_
      refine T_loop (ι := Nat) (fun k => k ≤ row.length ∧ ∀ j (h : j < row.length), j < k → row[j] < 0) (fun k => [(4, .int .i64 r), (5, .int .i64 (t : Int)), (53, .slice au row.length cu), (54, .int .i64 row.length), (55, .int .i64 (k : Int))]) (fun _ => []) (fun k => row.length - k) 0 ⟨Nat.zero_le _, fun j _ h => absurd h (Nat.not_lt_zero _)⟩ (by repeat' (first | exact True.intro | refine And.intro rfl ?_)) rfl ?_
      rintro k ⟨k1, k2⟩
      by_cases c2 : k < row.length
      · obtain ⟨bu, offu, rfl, hrd⟩ := hru (by omega)
        have hatU := fun (L : List Own) => at_el (L := L) SmIn_len hrd c2 0 _ rfl
        have hk2 : ∀ (h : row[k] < 0), ∀ j (h : j < row.length), j < k + 1 → row[j] < 0 := fun h j hj hjk => by
          by_cases e : j = k
          · subst e; exact h
          · exact k2 j hj (by omega)
        by_cases c3 : 0 ≤ row[k]
        · have hany : (row.any fun x => decide (0 ≤ x)) = true := List.any_eq_true.2 ⟨row[k], List.getElem_mem c2, decide_eq_true c3⟩
          rw [hany] at i5
          subst i5
          clear hk2 hany
          generalize row[k] = x at *
          repeat (first
            | refine qv rfl (qp rfl) rfl rfl ?_ | refine TL_nil ?_ | refine T_seq ?_ | refine T_region ?_ | refine qcT rfl ?_ | refine qcF rfl ?_ | refine T_skip ?_
            | refine T_exit ?_ | refine T_ret ?_ | refine T_block ?_ | refine E_then ?_ | refine E_thenX ?_ | refine E_thenR ?_ | refine E_blockN ?_
            | refine E_blockR ?_ | refine E_blockX ?_ | refine E_blockO rfl ?_ | refine qv rfl (rr_idxc Und.eq TyC.ty rfl rfl c2) rfl rfl ?_
            | refine qv rfl (rr_load1 (v := .int .i64 x) TyC.ty rfl (hatU _)) rfl rfl ?_ | refine qv rfl (rr_geq (b := true) rfl rfl (decide_eq_true c3)) rfl rfl ?_
            | refine qv rfl (rr_strlen Und.eq rfl) rfl rfl ?_ | refine qv rfl (qlen Und.eq rfl) rfl rfl ?_ | refine qv rfl (qfld FldC.fld rfl rfl) rfl rfl ?_
            | refine qv rfl (rr_lss rfl rfl (qT (by omega))) rfl rfl ?_ | refine qv rfl (rr_lss rfl rfl (qF (by omega))) rfl rfl ?_
            | refine qv rfl (rr_geq rfl rfl (qT (by omega))) rfl rfl ?_ | refine qv rfl (rr_geq rfl rfl (qF (by omega))) rfl rfl ?_
            | refine qv rfl (rr_add64 rfl rfl (by omega) (by omega) rfl) rfl rfl ?_)
          exact E_ret3 rfl rfl rfl rfl fun w hm => hm.ret
        · have hk3 := hk2 (by omega)
          clear hk2
          have hatU' : ∀ (L : List Own), At (w : Base) L ⟨bu, offu + k * 1 + 0, none⟩ (.int .i64 row[k]) := hatU
          clear hatU
          generalize hx : row[k] = x at *
          repeat (first
            | refine qv rfl (qp rfl) rfl rfl ?_ | refine TL_nil ?_ | refine T_seq ?_ | refine T_region ?_ | refine qcT rfl ?_ | refine qcF rfl ?_ | refine T_skip ?_
            | refine T_exit ?_ | refine T_ret ?_ | refine T_block ?_ | refine E_then ?_ | refine E_thenX ?_ | refine E_thenR ?_ | refine E_blockN ?_
            | refine E_blockR ?_ | refine E_blockX ?_ | refine E_blockO rfl ?_ | refine qv rfl (rr_idxc Und.eq TyC.ty rfl rfl c2) rfl rfl ?_
            | refine qv rfl (rr_load1 (v := .int .i64 x) TyC.ty rfl (hatU' _)) rfl rfl ?_
            | refine qv rfl (rr_geq (b := false) rfl rfl (decide_eq_false c3)) rfl rfl ?_ | refine qv rfl (rr_strlen Und.eq rfl) rfl rfl ?_
            | refine qv rfl (qlen Und.eq rfl) rfl rfl ?_ | refine qv rfl (qfld FldC.fld rfl rfl) rfl rfl ?_
            | refine qv rfl (rr_lss rfl rfl (qT (by omega))) rfl rfl ?_ | refine qv rfl (rr_lss rfl rfl (qF (by omega))) rfl rfl ?_
            | refine qv rfl (rr_geq rfl rfl (qT (by omega))) rfl rfl ?_ | refine qv rfl (rr_geq rfl rfl (qF (by omega))) rfl rfl ?_
            | refine qv rfl (rr_add64 rfl rfl (by omega) (by omega) rfl) rfl rfl ?_)
          exact E_round (k + 1) ⟨by omega, hk3⟩ (by show row.length - (k + 1) < row.length - k; omega) (by repeat' (first | exact True.intro | refine And.intro rfl ?_)) rfl
      · rw [any_le k2 (by omega)] at i5
        subst i5
        repeat (first
          | refine qv rfl (qp rfl) rfl rfl ?_ | refine TL_nil ?_ | refine T_seq ?_ | refine T_region ?_ | refine qcT rfl ?_ | refine qcF rfl ?_ | refine T_skip ?_
          | refine T_exit ?_ | refine T_ret ?_ | refine T_block ?_ | refine E_then ?_ | refine E_thenX ?_ | refine E_thenR ?_ | refine E_blockN ?_
          | refine E_blockR ?_ | refine E_blockX ?_ | refine E_blockO rfl ?_ | refine qv rfl (rr_strlen Und.eq rfl) rfl rfl ?_
          | refine qv rfl (qlen Und.eq rfl) rfl rfl ?_ | refine qv rfl (qfld FldC.fld rfl rfl) rfl rfl ?_
          | refine qv rfl (rr_lss rfl rfl (qT (by omega))) rfl rfl ?_ | refine qv rfl (rr_lss rfl rfl (qF (by omega))) rfl rfl ?_
          | refine qv rfl (rr_geq rfl rfl (qT (by omega))) rfl rfl ?_ | refine qv rfl (rr_geq rfl rfl (qF (by omega))) rfl rfl ?_
          | refine qv rfl (rr_add64 rfl rfl (by omega) (by omega) rfl) rfl rfl ?_)
        exact E_ret3 rfl rfl rfl rfl fun w hm => hm.ret
end Go.Proofs.Ytkmemlnkijinlaa.eng

/- FeedB -/
namespace Go.Proofs.Ytkmemlnkijinlaa.eng
open Go.RowKit kit mix smallL lexL
section
variable {P : Program} {n : Nat} {W : Base} {fr : Fr} {L : List Own}
/-- two results that lie in memory -/
theorem E_retcc {fn : Func} {R : Ending → World → Prop} {t u : Tmp} {T U : TypeId} {i j g g' c c' : Nat} {cs cs' : Array Value} {T' U' : TypeId} [hT : TyC P T true c] [hU : TyC P U true c'] (hres : fn.results = #[.cell t T, .cell u U]) (hp : look fr t = some (.pointer (some ⟨g, 0, none⟩))) (hi : L[i]? = some (blkO g cs T')) (hc : cs.size = c)
    (hq : look fr u = some (.pointer (some ⟨g', 0, none⟩))) (hj : L[j]? = some (blkO g' cs' U')) (hc' : cs'.size = c')
    (h : ∀ w, Mem W L w → R (.returned (.tuple #[.agg cs, .agg cs'])) w) : E n W .ret (bodyPost P fn R) fr L :=
  E_ret fun a w hr hmm => ⟨_, by
    have hload := run_loadCells_list (P := P) w ⟨g, 0, none⟩ cs.toList fun j v hj => by rw [addr_add, Nat.zero_add]; exact at_blk hi (by simpa using hj) w hmm
    have hl : (loadCells ⟨g, 0, none⟩ c).run P w = .ok cs w := by rw [← hc]; simpa using hload
    have hv : (loadVar T ⟨g, 0, none⟩).run P w = .ok (.agg cs) w := by simp [loadVar, hT.ty.agg, hT.ty.size, hl]
    have hload' := run_loadCells_list (P := P) w ⟨g', 0, none⟩ cs'.toList fun j v hj' => by rw [addr_add, Nat.zero_add]; exact at_blk hj (by simpa using hj') w hmm
    have hl' : (loadCells ⟨g', 0, none⟩ c').run P w = .ok cs' w := by rw [← hc']; simpa using hload'
    have hv' : (loadVar U ⟨g', 0, none⟩).run P w = .ok (.agg cs') w := by simp [loadVar, hU.ty.agg, hU.ty.size, hl']
    simp [results, hres, Array.getD_eq_getD_getElem?, hr.get t _ hp, hr.get u _ hq, asAddr, hv, hv'], h w hmm⟩
end
theorem build_held2 (a : Int) (u : List UInt8) (w : World) : (Instr.build 30 #[(0, .int .i64 a), (1, str u)]).run Try.prog w = .ok (.agg (heldC a u 0).toArray) w := by
  unfold heldC str; go_simp
theorem build_heldE (a e : Int) (w : World) : (Instr.build 30 #[(0, .int .i64 a), (2, .int .i64 e)]).run Try.prog w = .ok (.agg (heldC a [] e).toArray) w := by
  unfold heldC str; go_simp
theorem build_held0 (w : World) : (Instr.build 30 (#[] : Array (Nat × Value))).run Try.prog w = .ok (.agg (heldC 0 [] 0).toArray) w := by kernel_rfl
theorem build_tok3 (r a b : Int) (w : World) : (Instr.build 36 #[(0, .int .i64 r), (1, .int .i64 a), (2, .int .i64 b)]).run Try.prog w = .ok (.agg #[.int .i64 r, .int .i64 a, .int .i64 b]) w := by
  go_simp
set_option maxHeartbeats 4000000 in
theorem cut_calls (a : Nat) (u : List UInt8) (e r : Int) (t : Nat) (w : World) (ha : a ≤ 9223372036854775) (ht : t ≤ u.length) (hu : u.length ≤ 1000000) :
    Calls Try.prog 29 #[.agg (heldC a u e).toArray, .int .i64 r, .int .i64 (t : Int)] w (Meets (ret (.tuple #[.agg (heldC ((a + t : Nat) : Int) (u.drop t) 0).toArray, .agg (tokC (r, a, a + t)).toArray])) w) := by
  have hb := build_tok3 r a ((a + t : Nat) : Int)
  have hb2 := build_held2 ((a + t : Nat) : Int) (u.drop t)
  refine enter (args := [.agg (heldC a u e).toArray, .int .i64 r, .int .i64 (t : Int)]) (n := 25) Try.func29 rfl rfl rfl ?_
  refine T_seq (T_region (TL_box rfl rfl rfl fun g3 => TL_new rfl fun g6 => TL_new rfl fun g7 => ?_))
  conv => arg 8; simp only [zA, zB, zC, zD, zE, zF, zG, zH, zI, rowS, ret, id_eq]
  repeat (first
    | refine qv rfl (qp rfl) rfl rfl ?_ | refine TL_nil ?_ | refine T_seq ?_ | refine T_region ?_ | refine T_ret ?_ | refine E_then ?_ | refine E_thenR ?_
    | refine qv rfl (rr_load1 (v := .int .i64 (a : Int)) TyC.ty rfl (at_blk (i := 0) rfl rfl)) rfl rfl ?_
    | refine qv rfl (rr_add64 (r := ((a + t : Nat) : Int)) rfl rfl (by omega) (by omega) (by omega)) rfl rfl ?_ | refine qv rfl (rr_build rfl hb) rfl rfl ?_
    | refine qv rfl (qfld FldC.fld rfl rfl) rfl rfl ?_ | refine qv rfl (rr_add64 rfl rfl (by omega) (by omega) rfl) rfl rfl ?_)
  refine TL_new rfl fun g8 => ?_
  conv => arg 8; simp only [zA, zB, zC, zD, zE, zF, zG, zH, zI, rowS, ret, id_eq]
  refine TL_storeB (i := 3) (cs' := (tokC (r, a, a + t)).toArray) rfl rfl rfl rfl rfl rfl ?_
  conv => arg 8; simp only [zA, zB, zC, zD, zE, zF, zG, zH, zI, rowS, ret, id_eq]
  repeat (first
    | refine qv rfl (qp rfl) rfl rfl ?_ | refine TL_nil ?_ | refine T_seq ?_ | refine T_region ?_ | refine T_ret ?_ | refine E_then ?_ | refine E_thenR ?_
    | refine qv rfl (qfld FldC.fld rfl rfl) rfl rfl ?_ | refine qv rfl (rr_add64 rfl rfl (by omega) (by omega) rfl) rfl rfl ?_)
  refine T_ord ([blkO g3 (heldC a u e).toArray 30, blkO g8 (tokC (r, a, a + t)).toArray 36]) (.calm 0 (.calm 1 (.calm 2 (.calm 3 (.calm 4 (.calm 5 (.calm 6 (.calm 7 (.one 8 (.one 9 (.done))))))))))) (sub_pick [0, 3] (by decide) rfl) (by kernel_rfl) (by kernel_rfl) (by intro c a d v w h; cases d <;> exact h) ?_
  repeat (first
    | ((first | refine TW_plain rfl rfl ?_ | refine TW_gmet rfl rfl rfl rfl ?_); first | refine TN_val (qp rfl) rfl rfl ?_ | refine TN_val (rr_load1 (v := .int .i64 ((a + t : Nat) : Int)) TyC.ty rfl (at_blk (i := 1) rfl rfl)) rfl rfl ?_ | refine TN_val (rr_load1 (v := str u) TyC.ty rfl (at_blk (i := 0) rfl rfl)) rfl rfl ?_ | refine TN_val (rr_strfrom Und.eq rfl rfl ht) rfl rfl ?_ | refine TN_val (rr_build rfl hb2) rfl rfl ?_ | refine TN_val (rr_loadB (i := 1) TyC.ty rfl rfl rfl) rfl rfl ?_ | refine TN_val (qfld FldC.fld rfl rfl) rfl rfl ?_ | refine TN_val (rr_add64 rfl rfl (by omega) (by omega) rfl) rfl rfl ?_)
    | refine TW_done ?_)
  refine TW_one rfl ?_
  refine TL_storeB (i := 1) (cs' := (heldC ((a + t : Nat) : Int) (u.drop t) 0).toArray) rfl rfl rfl rfl rfl rfl ?_
  conv => arg 8; simp only [zA, zB, zC, zD, zE, zF, zG, zH, zI, rowS, ret, id_eq]
  refine TW_on (sub_pick [0, 3] (by decide) rfl) ?_
  repeat (first
    | ((first | refine TW_plain rfl rfl ?_ | refine TW_gmet rfl rfl rfl rfl ?_); first | refine TN_val (qp rfl) rfl rfl ?_ | refine TN_val (qfld FldC.fld rfl rfl) rfl rfl ?_ | refine TN_val (rr_add64 rfl rfl (by omega) (by omega) rfl) rfl rfl ?_)
    | refine TW_done ?_)
  refine TW_one rfl ?_
  refine TL_storeB (i := 2) (cs' := (tokC (r, a, a + t)).toArray) rfl rfl rfl rfl rfl rfl ?_
  conv => arg 8; simp only [zA, zB, zC, zD, zE, zF, zG, zH, zI, rowS, ret, id_eq]
  refine TW_on (sub_pick [0, 3] (by decide) rfl) ?_
  repeat (first
    | ((first | refine TW_plain rfl rfl ?_ | refine TW_gmet rfl rfl rfl rfl ?_); first | refine TN_val (qp rfl) rfl rfl ?_ | refine TN_val (qfld FldC.fld rfl rfl) rfl rfl ?_ | refine TN_val (rr_add64 rfl rfl (by omega) (by omega) rfl) rfl rfl ?_)
    | refine TW_done ?_)
  repeat (first
    | refine qv rfl (qp rfl) rfl rfl ?_ | refine TL_nil ?_ | refine T_seq ?_ | refine T_region ?_ | refine T_ret ?_ | refine E_then ?_ | refine E_thenR ?_
    | refine qv rfl (qfld FldC.fld rfl rfl) rfl rfl ?_ | refine qv rfl (rr_add64 rfl rfl (by omega) (by omega) rfl) rfl rfl ?_)
  exact E_retcc (i := 1) (j := 2) rfl rfl rfl rfl rfl rfl rfl fun w hm => hm.ret
end Go.Proofs.Ytkmemlnkijinlaa.eng

/- FeedC -/
namespace Go.Proofs.Ytkmemlnkijinlaa.eng
open Go.RowKit kit mix smallL lexL
/-- what is told -/
def feedS (R : List Tok × Nat × List UInt8 × Int) : Spec Value := ⟨fun _ => True, fun v => .tuple #[.agg (heldC (R.2.1 : Int) R.2.2.1 R.2.2.2).toArray, v, .int .i64 R.2.2.2], fun v => [toksO v R.1]⟩
theorem chkH_ok {c : Int} {a : Nat} {u : List UInt8} (hc : c = 0) (ha : a ≤ 1099511627776) (hu : u.length ≤ 64) : chkH c a u 0 = 0 := by
  unfold chkH
  rw [if_neg (by simpa using hc), if_neg (by omega), if_neg (by decide)]
theorem sub_one {l : List UInt8} {i : Nat} (h : i < l.length) : (l.drop i).take (i + 1 - i) = [l[i]] := by
  rw [Nat.add_sub_cancel_left, List.drop_eq_getElem_cons h]; rfl
set_option maxHeartbeats 8000000 in
theorem feedTok_calls (o : Of) (vn vt : Value) (N : List (List Int)) (tags : List Int) (a0 : Nat) (u0 : List UInt8) (s : List UInt8) (w : World) (h : PkI w vn vt N tags) (hc : chkP o N tags = 0) (ho : ∀ b (h : b < 256), o[b] < 256) (ha0 : a0 ≤ 1099511627776) (hu0 : u0.length ≤ 64) (hs : s.length ≤ 2000) :
    Calls Try.prog 11 #[pkV o vn vt, .agg (heldC (a0 : Int) u0 0).toArray, str s] w (Meets (feedS (feedGo o N tags s a0 u0)) w) := by
  have hck := fun w' (hg : Gr w w') => feedCheck_calls o vn vt N tags (a0 : Int) u0 0 w' (h.gr hg) ho (by omega)
  rw [chkH_ok hc ha0 hu0] at hck
  have hlook := fun (u : List UInt8) (hu : u.length ≤ 65) w' (hg : Gr w w') => look_calls o vn vt N tags u w' (h.gr hg) (chkP_good hc) (by omega)
  have hcut := fun a u r t w' (ha : a ≤ 9223372036854775) ht hu => cut_calls a u 0 r t w' ha ht hu
  have hbE := build_heldE
  obtain ⟨⟨an, cn, rfl, -⟩, at', ct, rfl, -⟩ := h
  refine enter (args := [pkV o (.slice an N.length cn) (.slice at' tags.length ct), .agg (heldC (a0 : Int) u0 0).toArray, str s]) (n := 79) Try.func11 rfl rfl rfl ?_
  refine T_seq (T_region (TL_box rfl rfl rfl fun g3 => TL_box rfl rfl rfl fun g4 => TL_new rfl fun g6 => ?_))
  conv => arg 8; simp only [zA, zB, zC, zD, zE, zF, zG, zH, zI, rowS, ret, id_eq]
  repeat (first
    | refine qv rfl (qp rfl) rfl rfl ?_ | refine TL_nil ?_ | refine T_seq ?_ | refine T_region ?_ | refine qcT rfl ?_ | refine qcF rfl ?_ | refine T_skip ?_
    | refine T_exit ?_ | refine T_ret ?_ | refine T_block ?_ | refine E_then ?_ | refine E_thenX ?_ | refine E_thenR ?_ | refine E_blockN ?_
    | refine E_blockR ?_ | refine E_blockX ?_ | refine E_blockO rfl ?_ | refine qv rfl (rr_loadB (i := 0) TyC.ty rfl rfl (pk_size _ _ _)) rfl rfl ?_
    | refine qv rfl (rr_loadB (i := 1) TyC.ty rfl rfl rfl) rfl rfl ?_ | refine qv rfl (rr_strlen Und.eq rfl) rfl rfl ?_
    | refine qv rfl (qfld FldC.fld rfl rfl) rfl rfl ?_ | refine qv rfl (rr_not rfl rfl) rfl rfl ?_
    | refine qv rfl (rr_lss rfl rfl (qT (by omega))) rfl rfl ?_ | refine qv rfl (rr_lss rfl rfl (qF (by omega))) rfl rfl ?_
    | refine qv rfl (rr_gtr rfl rfl (qT (by omega))) rfl rfl ?_ | refine qv rfl (rr_gtr rfl rfl (qF (by omega))) rfl rfl ?_
    | refine qv rfl (rr_eql rfl rfl (qT (by omega))) rfl rfl ?_ | refine qv rfl (rr_eql rfl rfl (qF (by omega))) rfl rfl ?_
    | refine qv rfl (rr_neq rfl rfl (qT (by omega))) rfl rfl ?_ | refine qv rfl (rr_neq rfl rfl (qF (by omega))) rfl rfl ?_
    | refine qv rfl (rr_add64 rfl rfl (by omega) (by omega) rfl) rfl rfl ?_)
  refine TL_call (he2 EntersC.en rfl rfl rfl) (fun w hm => hck _ hm.below) rfl rfl rfl ?_
  intro _ _
  conv => arg 8; simp only [zA, zB, zC, zD, zE, zF, zG, zH, zI, rowS, ret, id_eq]
  clear hck
  repeat (first
    | refine qv rfl (qp rfl) rfl rfl ?_ | refine TL_nil ?_ | refine T_seq ?_ | refine T_region ?_ | refine qcT rfl ?_ | refine qcF rfl ?_ | refine T_skip ?_
    | refine T_exit ?_ | refine T_ret ?_ | refine T_block ?_ | refine E_then ?_ | refine E_thenX ?_ | refine E_thenR ?_ | refine E_blockN ?_
    | refine E_blockR ?_ | refine E_blockX ?_ | refine E_blockO rfl ?_ | refine qv rfl (rr_neq (b := false) rfl rfl (decide_eq_false (by decide))) rfl rfl ?_
    | refine qv rfl (rr_gtr (b := false) rfl rfl (decide_eq_false (by omega))) rfl rfl ?_ | refine qv rfl (rr_strlen Und.eq rfl) rfl rfl ?_
    | refine qv rfl (qfld FldC.fld rfl rfl) rfl rfl ?_ | refine qv rfl (rr_not rfl rfl) rfl rfl ?_
    | refine qv rfl (rr_lss rfl rfl (qT (by omega))) rfl rfl ?_ | refine qv rfl (rr_lss rfl rfl (qF (by omega))) rfl rfl ?_
    | refine qv rfl (rr_gtr rfl rfl (qT (by omega))) rfl rfl ?_ | refine qv rfl (rr_gtr rfl rfl (qF (by omega))) rfl rfl ?_
    | refine qv rfl (rr_eql rfl rfl (qT (by omega))) rfl rfl ?_ | refine qv rfl (rr_eql rfl rfl (qF (by omega))) rfl rfl ?_
    | refine qv rfl (rr_neq rfl rfl (qT (by omega))) rfl rfl ?_ | refine qv rfl (rr_neq rfl rfl (qF (by omega))) rfl rfl ?_
    | refine qv rfl (rr_add64 rfl rfl (by omega) (by omega) rfl) rfl rfl ?_)
  refine T_nil 36 3 ?_
  conv => arg 7; simp only [zA, zB, zC, zD, zE, zF, zG, zH, zI, rowS, ret, id_eq]
  generalize hfin : feedGo o N tags s a0 u0 = fin
  refine T_loop (ι := Nat × Nat × List UInt8 × List Tok × Value) (fun (i, a, u, out, _) => i ≤ s.length ∧ u.length ≤ 64 ∧ a + u.length ≤ 1099511627840 + i ∧ out.length ≤ a ∧ (out ++ (feedGo o N tags (s.drop i) a u).1, (feedGo o N tags (s.drop i) a u).2) = fin) (fun (i, _, _, _, v) => [(2, str s), (3, .pointer (some ⟨g3, 0, none⟩)), (4, .pointer (some ⟨g4, 0, none⟩)), (6, .pointer (some ⟨g6, 0, none⟩)), (10, v), (28, .int .i64 s.length), (29, .int .i64 (i : Int))])
    (fun (_, a, u, out, v) => [blkO g3 (pkC o (.slice an N.length cn) (.slice at' tags.length ct)).toArray 26, blkO g4 (heldC (a : Int) u 0).toArray 30, blkO g6 (heldC 0 [] 0).toArray 30, toksO v out]) (fun (i, _, _, _, _) => s.length - i) (0, a0, u0, [], .slice none 0 0) ⟨Nat.zero_le _, hu0, by show a0 + u0.length ≤ _; omega, Nat.zero_le _, by rw [List.drop_zero, hfin]; rfl⟩ (by repeat' (first | exact True.intro | refine And.intro rfl ?_)) rfl ?_
  clear hfin
  rintro ⟨i, a1, u1, out1, v1⟩ ⟨i1, i2, i3, i4, i5⟩
  dsimp only at i1 i2 i3 i4 i5 ⊢
  by_cases c1 : i < s.length
  · have hsub := sub_one c1
    rw [List.drop_eq_getElem_cons c1] at i5
    generalize s[i] = b at *
    have hstep := feed_step i5
    clear i5
    repeat (first
      | refine qv rfl (qp rfl) rfl rfl ?_ | refine TL_nil ?_ | refine T_seq ?_ | refine T_region ?_ | refine qcT rfl ?_ | refine qcF rfl ?_ | refine T_skip ?_
      | refine T_exit ?_ | refine T_ret ?_ | refine T_block ?_ | refine E_then ?_ | refine E_thenX ?_ | refine E_thenR ?_ | refine E_blockN ?_
      | refine E_blockR ?_ | refine E_blockX ?_ | refine E_blockO rfl ?_ | refine qv rfl (rr_strlen Und.eq rfl) rfl rfl ?_
      | refine qv rfl (qfld FldC.fld rfl rfl) rfl rfl ?_ | refine qv rfl (rr_not rfl rfl) rfl rfl ?_
      | refine qv rfl (rr_lss rfl rfl (qT (by omega))) rfl rfl ?_ | refine qv rfl (rr_lss rfl rfl (qF (by omega))) rfl rfl ?_
      | refine qv rfl (rr_gtr rfl rfl (qT (by omega))) rfl rfl ?_ | refine qv rfl (rr_gtr rfl rfl (qF (by omega))) rfl rfl ?_
      | refine qv rfl (rr_eql rfl rfl (qT (by omega))) rfl rfl ?_ | refine qv rfl (rr_eql rfl rfl (qF (by omega))) rfl rfl ?_
      | refine qv rfl (rr_neq rfl rfl (qT (by omega))) rfl rfl ?_ | refine qv rfl (rr_neq rfl rfl (qF (by omega))) rfl rfl ?_
      | refine qv rfl (rr_add64 rfl rfl (by omega) (by omega) rfl) rfl rfl ?_)
    refine T_ord ([]) (.calm 0 (.calm 2 (.calm 3 (.calm 4 (.calm 5 (.calm 6 (.one 1 (.calm 7 (.calm 8 (.one 9 (.done))))))))))) (sub_pick [] (by decide) rfl) (by kernel_rfl) (by kernel_rfl) (by intro c a d v w h; cases d <;> exact h) ?_
    repeat (first
      | ((first | refine TW_plain rfl rfl ?_ | refine TW_gmet rfl rfl rfl rfl ?_); first | refine TN_val (qp rfl) rfl rfl ?_ | refine TN_val (rr_strsub (j := i + 1) Und.eq rfl rfl rfl (by omega) (by omega)) rfl rfl ?_ | refine TN_val (rr_add64 (r := ((i + 1 : Nat) : Int)) rfl rfl (by omega) (by omega) (by omega)) rfl rfl ?_ | refine TN_val (rr_strlen Und.eq rfl) rfl rfl ?_ | refine TN_val (qfld FldC.fld rfl rfl) rfl rfl ?_ | refine TN_val (rr_not rfl rfl) rfl rfl ?_ | refine TN_val (rr_lss rfl rfl (qT (by omega))) rfl rfl ?_ | refine TN_val (rr_lss rfl rfl (qF (by omega))) rfl rfl ?_ | refine TN_val (rr_gtr rfl rfl (qT (by omega))) rfl rfl ?_ | refine TN_val (rr_gtr rfl rfl (qF (by omega))) rfl rfl ?_ | refine TN_val (rr_eql rfl rfl (qT (by omega))) rfl rfl ?_ | refine TN_val (rr_eql rfl rfl (qF (by omega))) rfl rfl ?_ | refine TN_val (rr_neq rfl rfl (qT (by omega))) rfl rfl ?_ | refine TN_val (rr_neq rfl rfl (qF (by omega))) rfl rfl ?_ | refine TN_val (rr_add64 rfl rfl (by omega) (by omega) rfl) rfl rfl ?_)
      | refine TW_done ?_)
    rw [hsub]
    refine TW_one rfl (TL_val (rr_load1 (v := str u1) TyC.ty rfl (at_blk (i := 1) rfl rfl)) rfl rfl rfl (TW_on (sub_pick [] (by decide) rfl) ?_))
    repeat (first
      | ((first | refine TW_plain rfl rfl ?_ | refine TW_gmet rfl rfl rfl rfl ?_); first | refine TN_val (qp rfl) rfl rfl ?_ | refine TN_val (rr_stradd rfl rfl (by show u1.length + 1 ≤ _; omega)) rfl rfl ?_ | refine TN_val (rr_strlen Und.eq rfl) rfl rfl ?_ | refine TN_val (qfld FldC.fld rfl rfl) rfl rfl ?_ | refine TN_val (rr_not rfl rfl) rfl rfl ?_ | refine TN_val (rr_lss rfl rfl (qT (by omega))) rfl rfl ?_ | refine TN_val (rr_lss rfl rfl (qF (by omega))) rfl rfl ?_ | refine TN_val (rr_gtr rfl rfl (qT (by omega))) rfl rfl ?_ | refine TN_val (rr_gtr rfl rfl (qF (by omega))) rfl rfl ?_ | refine TN_val (rr_eql rfl rfl (qT (by omega))) rfl rfl ?_ | refine TN_val (rr_eql rfl rfl (qF (by omega))) rfl rfl ?_ | refine TN_val (rr_neq rfl rfl (qT (by omega))) rfl rfl ?_ | refine TN_val (rr_neq rfl rfl (qF (by omega))) rfl rfl ?_ | refine TN_val (rr_add64 rfl rfl (by omega) (by omega) rfl) rfl rfl ?_)
      | refine TW_done ?_)
    refine TW_one rfl ?_
    refine TL_store1 (i := 1) rfl rfl rfl rfl rfl rfl ?_
    conv => arg 8; simp only [zA, zB, zC, zD, zE, zF, zG, zH, zI, rowS, ret, id_eq]
    refine TW_on (sub_pick [] (by decide) rfl) ?_
    repeat (first
      | ((first | refine TW_plain rfl rfl ?_ | refine TW_gmet rfl rfl rfl rfl ?_); first | refine TN_val (qp rfl) rfl rfl ?_ | refine TN_val (rr_strlen Und.eq rfl) rfl rfl ?_ | refine TN_val (qfld FldC.fld rfl rfl) rfl rfl ?_ | refine TN_val (rr_not rfl rfl) rfl rfl ?_ | refine TN_val (rr_lss rfl rfl (qT (by omega))) rfl rfl ?_ | refine TN_val (rr_lss rfl rfl (qF (by omega))) rfl rfl ?_ | refine TN_val (rr_gtr rfl rfl (qT (by omega))) rfl rfl ?_ | refine TN_val (rr_gtr rfl rfl (qF (by omega))) rfl rfl ?_ | refine TN_val (rr_eql rfl rfl (qT (by omega))) rfl rfl ?_ | refine TN_val (rr_eql rfl rfl (qF (by omega))) rfl rfl ?_ | refine TN_val (rr_neq rfl rfl (qT (by omega))) rfl rfl ?_ | refine TN_val (rr_neq rfl rfl (qF (by omega))) rfl rfl ?_ | refine TN_val (rr_add64 rfl rfl (by omega) (by omega) rfl) rfl rfl ?_)
      | refine TW_done ?_)
    repeat (first
      | refine qv rfl (qp rfl) rfl rfl ?_ | refine TL_nil ?_ | refine T_seq ?_ | refine T_region ?_ | refine qcT rfl ?_ | refine qcF rfl ?_ | refine T_skip ?_
      | refine T_exit ?_ | refine T_ret ?_ | refine T_block ?_ | refine E_then ?_ | refine E_thenX ?_ | refine E_thenR ?_ | refine E_blockN ?_
      | refine E_blockR ?_ | refine E_blockX ?_ | refine E_blockO rfl ?_ | refine qv rfl (rr_strlen Und.eq rfl) rfl rfl ?_
      | refine qv rfl (qfld FldC.fld rfl rfl) rfl rfl ?_ | refine qv rfl (rr_not rfl rfl) rfl rfl ?_
      | refine qv rfl (rr_lss rfl rfl (qT (by omega))) rfl rfl ?_ | refine qv rfl (rr_lss rfl rfl (qF (by omega))) rfl rfl ?_
      | refine qv rfl (rr_gtr rfl rfl (qT (by omega))) rfl rfl ?_ | refine qv rfl (rr_gtr rfl rfl (qF (by omega))) rfl rfl ?_
      | refine qv rfl (rr_eql rfl rfl (qT (by omega))) rfl rfl ?_ | refine qv rfl (rr_eql rfl rfl (qF (by omega))) rfl rfl ?_
      | refine qv rfl (rr_neq rfl rfl (qT (by omega))) rfl rfl ?_ | refine qv rfl (rr_neq rfl rfl (qF (by omega))) rfl rfl ?_
      | refine qv rfl (rr_add64 rfl rfl (by omega) (by omega) rfl) rfl rfl ?_)
    generalize hD : drainF o N tags (u1.length + 2) a1 (u1 ++ [b]) = D at hstep
    refine T_loop (ι := Nat × Nat × List UInt8 × List Tok × Value) (fun (f, a, u, out, _) => u.length < f ∧ u.length ≤ 65 ∧ a + u.length ≤ 1099511627840 + i + 1 ∧ out.length ≤ a ∧ (out ++ (drainF o N tags f a u).1, (drainF o N tags f a u).2) = (out1 ++ D.1, D.2)) (fun (_, _, _, _, v) => [(2, str s), (3, .pointer (some ⟨g3, 0, none⟩)), (4, .pointer (some ⟨g4, 0, none⟩)), (6, .pointer (some ⟨g6, 0, none⟩)), (10, v), (28, .int .i64 s.length), (29, .int .i64 (i : Int))])
      (fun (_, a, u, out, v) => [blkO g3 (pkC o (.slice an N.length cn) (.slice at' tags.length ct)).toArray 26, blkO g4 (heldC (a : Int) u 0).toArray 30, blkO g6 (heldC 0 [] 0).toArray 30, toksO v out]) (fun (f, _, _, _, _) => f) (u1.length + 2, a1, u1 ++ [b], out1, v1) ⟨by show (u1 ++ [b]).length < _; rw [List.length_append]; exact Nat.lt_succ_self _, by show (u1 ++ [b]).length ≤ 65; rw [List.length_append]; simp; omega, by show a1 + (u1 ++ [b]).length ≤ _; rw [List.length_append]; simp; omega, i4, by rw [hD]⟩ (by repeat' (first | exact True.intro | refine And.intro rfl ?_)) rfl ?_
    clear hD
    rintro ⟨f, a, u, out, v⟩ ⟨j1, j2, j3, j4, j5⟩
    dsimp only at j1 j2 j3 j4 j5 ⊢
    obtain ⟨f, rfl⟩ : ∃ f', f = f' + 1 := ⟨f - 1, by omega⟩
    rw [drain_succ] at j5
    have hto := lookF_to o N tags u
    have hlk := hlook u j2
    generalize lookF o N tags u = lk at *
    obtain ⟨⟨r, t⟩, sr⟩ := lk
    dsimp only at hto hlk j5
    repeat (first
      | refine qv rfl (qp rfl) rfl rfl ?_ | refine TL_nil ?_ | refine T_seq ?_ | refine T_region ?_ | refine qcT rfl ?_ | refine qcF rfl ?_ | refine T_skip ?_
      | refine T_exit ?_ | refine T_ret ?_ | refine T_block ?_ | refine E_then ?_ | refine E_thenX ?_ | refine E_thenR ?_ | refine E_blockN ?_
      | refine E_blockR ?_ | refine E_blockX ?_ | refine E_blockO rfl ?_ | refine qv rfl (rr_loadB (i := 0) TyC.ty rfl rfl (pk_size _ _ _)) rfl rfl ?_
      | refine qv rfl (rr_load1 (v := str u) TyC.ty rfl (at_blk (i := 1) rfl rfl)) rfl rfl ?_ | refine qv rfl (rr_strlen Und.eq rfl) rfl rfl ?_
      | refine qv rfl (qfld FldC.fld rfl rfl) rfl rfl ?_ | refine qv rfl (rr_not rfl rfl) rfl rfl ?_
      | refine qv rfl (rr_lss rfl rfl (qT (by omega))) rfl rfl ?_ | refine qv rfl (rr_lss rfl rfl (qF (by omega))) rfl rfl ?_
      | refine qv rfl (rr_gtr rfl rfl (qT (by omega))) rfl rfl ?_ | refine qv rfl (rr_gtr rfl rfl (qF (by omega))) rfl rfl ?_
      | refine qv rfl (rr_eql rfl rfl (qT (by omega))) rfl rfl ?_ | refine qv rfl (rr_eql rfl rfl (qF (by omega))) rfl rfl ?_
      | refine qv rfl (rr_neq rfl rfl (qT (by omega))) rfl rfl ?_ | refine qv rfl (rr_neq rfl rfl (qF (by omega))) rfl rfl ?_
      | refine qv rfl (rr_add64 rfl rfl (by omega) (by omega) rfl) rfl rfl ?_)
    refine TL_call (he2 EntersC.en rfl rfl rfl) (fun w hm => hlk _ hm.below) rfl rfl rfl ?_
    intro _ _
    conv => arg 8; simp only [zA, zB, zC, zD, zE, zF, zG, zH, zI, rowS, ret, id_eq]
    cases sr with
    | false =>
      rw [if_neg (by decide)] at j5
      have j5 : (out ++ [], a, u, (0 : Int)) = (out1 ++ D.1, D.2) := j5
      rw [List.append_nil] at j5
      obtain ⟨_, k2, k3⟩ := hstep out a u 0 j5
      clear hstep j5 hlk
      by_cases c2 : 64 < u.length
      · have k4 := k2 rfl c2
        subst k4
        repeat (first
          | refine qv rfl (qp rfl) rfl rfl ?_ | refine TL_nil ?_ | refine T_seq ?_ | refine T_region ?_ | refine qcT rfl ?_ | refine qcF rfl ?_ | refine T_skip ?_
          | refine T_exit ?_ | refine T_ret ?_ | refine T_block ?_ | refine E_then ?_ | refine E_thenX ?_ | refine E_thenR ?_ | refine E_blockN ?_
          | refine E_blockR ?_ | refine E_blockX ?_ | refine E_blockO rfl ?_
          | refine qv rfl (rr_load1 (v := str u) TyC.ty rfl (at_blk (i := 1) rfl rfl)) rfl rfl ?_
          | refine qv rfl (rr_gtr (b := true) rfl rfl (decide_eq_true (by omega))) rfl rfl ?_
          | refine qv rfl (rr_load1 (v := .int .i64 (a : Int)) TyC.ty rfl (at_blk (i := 1) rfl rfl)) rfl rfl ?_ | refine qv rfl (rr_build rfl (hbE _ _)) rfl rfl ?_
          | refine qv rfl (rr_strlen Und.eq rfl) rfl rfl ?_ | refine qv rfl (qfld FldC.fld rfl rfl) rfl rfl ?_ | refine qv rfl (rr_not rfl rfl) rfl rfl ?_
          | refine qv rfl (rr_lss rfl rfl (qT (by omega))) rfl rfl ?_ | refine qv rfl (rr_lss rfl rfl (qF (by omega))) rfl rfl ?_
          | refine qv rfl (rr_gtr rfl rfl (qT (by omega))) rfl rfl ?_ | refine qv rfl (rr_gtr rfl rfl (qF (by omega))) rfl rfl ?_
          | refine qv rfl (rr_eql rfl rfl (qT (by omega))) rfl rfl ?_ | refine qv rfl (rr_eql rfl rfl (qF (by omega))) rfl rfl ?_
          | refine qv rfl (rr_neq rfl rfl (qT (by omega))) rfl rfl ?_ | refine qv rfl (rr_neq rfl rfl (qF (by omega))) rfl rfl ?_
          | refine qv rfl (rr_add64 rfl rfl (by omega) (by omega) rfl) rfl rfl ?_)
        refine TL_storeB (i := 2) (cs' := (heldC (a : Int) [] 10).toArray) rfl rfl rfl rfl rfl rfl ?_
        conv => arg 8; simp only [zA, zB, zC, zD, zE, zF, zG, zH, zI, rowS, ret, id_eq]
        repeat (first
          | refine qv rfl (qp rfl) rfl rfl ?_ | refine TL_nil ?_ | refine T_seq ?_ | refine T_region ?_ | refine qcT rfl ?_ | refine qcF rfl ?_ | refine T_skip ?_
          | refine T_exit ?_ | refine T_ret ?_ | refine T_block ?_ | refine E_then ?_ | refine E_thenX ?_ | refine E_thenR ?_ | refine E_blockN ?_
          | refine E_blockR ?_ | refine E_blockX ?_ | refine E_blockO rfl ?_ | refine qv rfl (rr_strlen Und.eq rfl) rfl rfl ?_
          | refine qv rfl (qfld FldC.fld rfl rfl) rfl rfl ?_ | refine qv rfl (rr_not rfl rfl) rfl rfl ?_
          | refine qv rfl (rr_lss rfl rfl (qT (by omega))) rfl rfl ?_ | refine qv rfl (rr_lss rfl rfl (qF (by omega))) rfl rfl ?_
          | refine qv rfl (rr_gtr rfl rfl (qT (by omega))) rfl rfl ?_ | refine qv rfl (rr_gtr rfl rfl (qF (by omega))) rfl rfl ?_
          | refine qv rfl (rr_eql rfl rfl (qT (by omega))) rfl rfl ?_ | refine qv rfl (rr_eql rfl rfl (qF (by omega))) rfl rfl ?_
          | refine qv rfl (rr_neq rfl rfl (qT (by omega))) rfl rfl ?_ | refine qv rfl (rr_neq rfl rfl (qF (by omega))) rfl rfl ?_
          | refine qv rfl (rr_add64 rfl rfl (by omega) (by omega) rfl) rfl rfl ?_)
        exact E_retc3 (i := 2) rfl rfl rfl rfl rfl rfl fun w hm => hm.meets (S := feedS (out, a, [], 10)) v trivial [3] (by decide) rfl
      · have k4 := k3 rfl c2
        repeat (first
          | refine qv rfl (qp rfl) rfl rfl ?_ | refine TL_nil ?_ | refine T_seq ?_ | refine T_region ?_ | refine qcT rfl ?_ | refine qcF rfl ?_ | refine T_skip ?_
          | refine T_exit ?_ | refine T_ret ?_ | refine T_block ?_ | refine E_then ?_ | refine E_thenX ?_ | refine E_thenR ?_ | refine E_blockN ?_
          | refine E_blockR ?_ | refine E_blockX ?_ | refine E_blockO rfl ?_
          | refine qv rfl (rr_load1 (v := str u) TyC.ty rfl (at_blk (i := 1) rfl rfl)) rfl rfl ?_
          | refine qv rfl (rr_gtr (b := false) rfl rfl (decide_eq_false (by omega))) rfl rfl ?_ | refine qv rfl (rr_strlen Und.eq rfl) rfl rfl ?_
          | refine qv rfl (qfld FldC.fld rfl rfl) rfl rfl ?_ | refine qv rfl (rr_not rfl rfl) rfl rfl ?_
          | refine qv rfl (rr_lss rfl rfl (qT (by omega))) rfl rfl ?_ | refine qv rfl (rr_lss rfl rfl (qF (by omega))) rfl rfl ?_
          | refine qv rfl (rr_gtr rfl rfl (qT (by omega))) rfl rfl ?_ | refine qv rfl (rr_gtr rfl rfl (qF (by omega))) rfl rfl ?_
          | refine qv rfl (rr_eql rfl rfl (qT (by omega))) rfl rfl ?_ | refine qv rfl (rr_eql rfl rfl (qF (by omega))) rfl rfl ?_
          | refine qv rfl (rr_neq rfl rfl (qT (by omega))) rfl rfl ?_ | refine qv rfl (rr_neq rfl rfl (qF (by omega))) rfl rfl ?_
          | refine qv rfl (rr_add64 rfl rfl (by omega) (by omega) rfl) rfl rfl ?_)
        exact E_round (i + 1, a, u, out, v) ⟨by show i + 1 ≤ s.length; omega, by show u.length ≤ 64; omega, by show a + u.length ≤ 1099511627840 + (i + 1); omega, j4, k4⟩ (by show s.length - (i + 1) < s.length - i; omega) (by repeat' (first | exact True.intro | refine And.intro rfl ?_)) rfl
    | true =>
      rw [if_pos rfl] at j5
      by_cases c2 : t = 0
      · rw [if_pos c2] at j5
        have j5 : (out ++ [], a, u, (9 : Int)) = (out1 ++ D.1, D.2) := j5
        rw [List.append_nil] at j5
        have k4 := (hstep out a u 9 j5).1 (by decide)
        clear hstep j5 hlk
        subst k4 c2
        repeat (first
          | refine qv rfl (qp rfl) rfl rfl ?_ | refine TL_nil ?_ | refine T_seq ?_ | refine T_region ?_ | refine qcT rfl ?_ | refine qcF rfl ?_ | refine T_skip ?_
          | refine T_exit ?_ | refine T_ret ?_ | refine T_block ?_ | refine E_then ?_ | refine E_thenX ?_ | refine E_thenR ?_ | refine E_blockN ?_
          | refine E_blockR ?_ | refine E_blockX ?_ | refine E_blockO rfl ?_ | refine qv rfl (rr_eql (b := true) rfl rfl (decide_eq_true rfl)) rfl rfl ?_
          | refine qv rfl (rr_load1 (v := .int .i64 (a : Int)) TyC.ty rfl (at_blk (i := 1) rfl rfl)) rfl rfl ?_ | refine qv rfl (rr_build rfl (hbE _ _)) rfl rfl ?_
          | refine qv rfl (rr_strlen Und.eq rfl) rfl rfl ?_ | refine qv rfl (qfld FldC.fld rfl rfl) rfl rfl ?_ | refine qv rfl (rr_not rfl rfl) rfl rfl ?_
          | refine qv rfl (rr_lss rfl rfl (qT (by omega))) rfl rfl ?_ | refine qv rfl (rr_lss rfl rfl (qF (by omega))) rfl rfl ?_
          | refine qv rfl (rr_gtr rfl rfl (qT (by omega))) rfl rfl ?_ | refine qv rfl (rr_gtr rfl rfl (qF (by omega))) rfl rfl ?_
          | refine qv rfl (rr_eql rfl rfl (qT (by omega))) rfl rfl ?_ | refine qv rfl (rr_eql rfl rfl (qF (by omega))) rfl rfl ?_
          | refine qv rfl (rr_neq rfl rfl (qT (by omega))) rfl rfl ?_ | refine qv rfl (rr_neq rfl rfl (qF (by omega))) rfl rfl ?_
          | refine qv rfl (rr_add64 rfl rfl (by omega) (by omega) rfl) rfl rfl ?_)
        refine TL_storeB (i := 2) (cs' := (heldC (a : Int) [] 9).toArray) rfl rfl rfl rfl rfl rfl ?_
        conv => arg 8; simp only [zA, zB, zC, zD, zE, zF, zG, zH, zI, rowS, ret, id_eq]
        repeat (first
          | refine qv rfl (qp rfl) rfl rfl ?_ | refine TL_nil ?_ | refine T_seq ?_ | refine T_region ?_ | refine qcT rfl ?_ | refine qcF rfl ?_ | refine T_skip ?_
          | refine T_exit ?_ | refine T_ret ?_ | refine T_block ?_ | refine E_then ?_ | refine E_thenX ?_ | refine E_thenR ?_ | refine E_blockN ?_
          | refine E_blockR ?_ | refine E_blockX ?_ | refine E_blockO rfl ?_ | refine qv rfl (rr_strlen Und.eq rfl) rfl rfl ?_
          | refine qv rfl (qfld FldC.fld rfl rfl) rfl rfl ?_ | refine qv rfl (rr_not rfl rfl) rfl rfl ?_
          | refine qv rfl (rr_lss rfl rfl (qT (by omega))) rfl rfl ?_ | refine qv rfl (rr_lss rfl rfl (qF (by omega))) rfl rfl ?_
          | refine qv rfl (rr_gtr rfl rfl (qT (by omega))) rfl rfl ?_ | refine qv rfl (rr_gtr rfl rfl (qF (by omega))) rfl rfl ?_
          | refine qv rfl (rr_eql rfl rfl (qT (by omega))) rfl rfl ?_ | refine qv rfl (rr_eql rfl rfl (qF (by omega))) rfl rfl ?_
          | refine qv rfl (rr_neq rfl rfl (qT (by omega))) rfl rfl ?_ | refine qv rfl (rr_neq rfl rfl (qF (by omega))) rfl rfl ?_
          | refine qv rfl (rr_add64 rfl rfl (by omega) (by omega) rfl) rfl rfl ?_)
        exact E_retc3 (i := 2) rfl rfl rfl rfl rfl rfl fun w hm => hm.meets (S := feedS (out, a, [], 9)) v trivial [3] (by decide) rfl
      · rw [if_neg c2] at j5
        have ht := hto.resolve_left c2
        have hct := hcut a u r t
        have hdl : (u.drop t).length = u.length - t := List.length_drop ..
        clear hlk hlook hcut
        repeat (first
          | refine qv rfl (qp rfl) rfl rfl ?_ | refine TL_nil ?_ | refine T_seq ?_ | refine T_region ?_ | refine qcT rfl ?_ | refine qcF rfl ?_ | refine T_skip ?_
          | refine T_exit ?_ | refine T_ret ?_ | refine T_block ?_ | refine E_then ?_ | refine E_thenX ?_ | refine E_thenR ?_ | refine E_blockN ?_
          | refine E_blockR ?_ | refine E_blockX ?_ | refine E_blockO rfl ?_ | refine qv rfl (rr_eql (b := false) rfl rfl (decide_eq_false (by omega))) rfl rfl ?_
          | refine qv rfl (rr_strlen Und.eq rfl) rfl rfl ?_ | refine qv rfl (qfld FldC.fld rfl rfl) rfl rfl ?_ | refine qv rfl (rr_not rfl rfl) rfl rfl ?_
          | refine qv rfl (rr_lss rfl rfl (qT (by omega))) rfl rfl ?_ | refine qv rfl (rr_lss rfl rfl (qF (by omega))) rfl rfl ?_
          | refine qv rfl (rr_gtr rfl rfl (qT (by omega))) rfl rfl ?_ | refine qv rfl (rr_gtr rfl rfl (qF (by omega))) rfl rfl ?_
          | refine qv rfl (rr_eql rfl rfl (qT (by omega))) rfl rfl ?_ | refine qv rfl (rr_eql rfl rfl (qF (by omega))) rfl rfl ?_
          | refine qv rfl (rr_neq rfl rfl (qT (by omega))) rfl rfl ?_ | refine qv rfl (rr_neq rfl rfl (qF (by omega))) rfl rfl ?_
          | refine qv rfl (rr_add64 rfl rfl (by omega) (by omega) rfl) rfl rfl ?_)
        refine TL_new rfl fun g15 => ?_
        conv => arg 8; simp only [zA, zB, zC, zD, zE, zF, zG, zH, zI, rowS, ret, id_eq]
        repeat (first
          | refine qv rfl (qp rfl) rfl rfl ?_ | refine TL_nil ?_ | refine T_seq ?_ | refine T_region ?_ | refine qcT rfl ?_ | refine qcF rfl ?_ | refine T_skip ?_
          | refine T_exit ?_ | refine T_ret ?_ | refine T_block ?_ | refine E_then ?_ | refine E_thenX ?_ | refine E_thenR ?_ | refine E_blockN ?_
          | refine E_blockR ?_ | refine E_blockX ?_ | refine E_blockO rfl ?_ | refine qv rfl (rr_loadB (i := 1) TyC.ty rfl rfl rfl) rfl rfl ?_
          | refine qv rfl (rr_strlen Und.eq rfl) rfl rfl ?_ | refine qv rfl (qfld FldC.fld rfl rfl) rfl rfl ?_ | refine qv rfl (rr_not rfl rfl) rfl rfl ?_
          | refine qv rfl (rr_lss rfl rfl (qT (by omega))) rfl rfl ?_ | refine qv rfl (rr_lss rfl rfl (qF (by omega))) rfl rfl ?_
          | refine qv rfl (rr_gtr rfl rfl (qT (by omega))) rfl rfl ?_ | refine qv rfl (rr_gtr rfl rfl (qF (by omega))) rfl rfl ?_
          | refine qv rfl (rr_eql rfl rfl (qT (by omega))) rfl rfl ?_ | refine qv rfl (rr_eql rfl rfl (qF (by omega))) rfl rfl ?_
          | refine qv rfl (rr_neq rfl rfl (qT (by omega))) rfl rfl ?_ | refine qv rfl (rr_neq rfl rfl (qF (by omega))) rfl rfl ?_
          | refine qv rfl (rr_add64 rfl rfl (by omega) (by omega) rfl) rfl rfl ?_)
        refine TL_call (he3 EntersC.en rfl rfl rfl rfl) (fun w hm => hct w (by omega) ht.2 (by omega)) rfl rfl rfl ?_
        intro _ _
        conv => arg 8; simp only [zA, zB, zC, zD, zE, zF, zG, zH, zI, rowS, ret, id_eq]
        repeat (first
          | refine qv rfl (qp rfl) rfl rfl ?_ | refine TL_nil ?_ | refine T_seq ?_ | refine T_region ?_ | refine qcT rfl ?_ | refine qcF rfl ?_ | refine T_skip ?_
          | refine T_exit ?_ | refine T_ret ?_ | refine T_block ?_ | refine E_then ?_ | refine E_thenX ?_ | refine E_thenR ?_ | refine E_blockN ?_
          | refine E_blockR ?_ | refine E_blockX ?_ | refine E_blockO rfl ?_ | refine qv rfl (rr_strlen Und.eq rfl) rfl rfl ?_
          | refine qv rfl (qfld FldC.fld rfl rfl) rfl rfl ?_ | refine qv rfl (rr_not rfl rfl) rfl rfl ?_
          | refine qv rfl (rr_lss rfl rfl (qT (by omega))) rfl rfl ?_ | refine qv rfl (rr_lss rfl rfl (qF (by omega))) rfl rfl ?_
          | refine qv rfl (rr_gtr rfl rfl (qT (by omega))) rfl rfl ?_ | refine qv rfl (rr_gtr rfl rfl (qF (by omega))) rfl rfl ?_
          | refine qv rfl (rr_eql rfl rfl (qT (by omega))) rfl rfl ?_ | refine qv rfl (rr_eql rfl rfl (qF (by omega))) rfl rfl ?_
          | refine qv rfl (rr_neq rfl rfl (qT (by omega))) rfl rfl ?_ | refine qv rfl (rr_neq rfl rfl (qF (by omega))) rfl rfl ?_
          | refine qv rfl (rr_add64 rfl rfl (by omega) (by omega) rfl) rfl rfl ?_)
        refine TL_storeB (i := 1) (cs' := (heldC ((a + t : Nat) : Int) (u.drop t) 0).toArray) rfl rfl rfl rfl rfl rfl ?_
        conv => arg 8; simp only [zA, zB, zC, zD, zE, zF, zG, zH, zI, rowS, ret, id_eq]
        repeat (first
          | refine qv rfl (qp rfl) rfl rfl ?_ | refine TL_nil ?_ | refine T_seq ?_ | refine T_region ?_ | refine qcT rfl ?_ | refine qcF rfl ?_ | refine T_skip ?_
          | refine T_exit ?_ | refine T_ret ?_ | refine T_block ?_ | refine E_then ?_ | refine E_thenX ?_ | refine E_thenR ?_ | refine E_blockN ?_
          | refine E_blockR ?_ | refine E_blockX ?_ | refine E_blockO rfl ?_ | refine qv rfl (rr_strlen Und.eq rfl) rfl rfl ?_
          | refine qv rfl (qfld FldC.fld rfl rfl) rfl rfl ?_ | refine qv rfl (rr_not rfl rfl) rfl rfl ?_
          | refine qv rfl (rr_lss rfl rfl (qT (by omega))) rfl rfl ?_ | refine qv rfl (rr_lss rfl rfl (qF (by omega))) rfl rfl ?_
          | refine qv rfl (rr_gtr rfl rfl (qT (by omega))) rfl rfl ?_ | refine qv rfl (rr_gtr rfl rfl (qF (by omega))) rfl rfl ?_
          | refine qv rfl (rr_eql rfl rfl (qT (by omega))) rfl rfl ?_ | refine qv rfl (rr_eql rfl rfl (qF (by omega))) rfl rfl ?_
          | refine qv rfl (rr_neq rfl rfl (qT (by omega))) rfl rfl ?_ | refine qv rfl (rr_neq rfl rfl (qF (by omega))) rfl rfl ?_
          | refine qv rfl (rr_add64 rfl rfl (by omega) (by omega) rfl) rfl rfl ?_)
        refine TL_storeB (i := 4) (cs' := (tokC (r, a, a + t)).toArray) rfl rfl rfl rfl rfl rfl ?_
        conv => arg 8; simp only [zA, zB, zC, zD, zE, zF, zG, zH, zI, rowS, ret, id_eq]
        repeat (first
          | refine qv rfl (qp rfl) rfl rfl ?_ | refine TL_nil ?_ | refine T_seq ?_ | refine T_region ?_ | refine qcT rfl ?_ | refine qcF rfl ?_ | refine T_skip ?_
          | refine T_exit ?_ | refine T_ret ?_ | refine T_block ?_ | refine E_then ?_ | refine E_thenX ?_ | refine E_thenR ?_ | refine E_blockN ?_
          | refine E_blockR ?_ | refine E_blockX ?_ | refine E_blockO rfl ?_ | refine qv rfl (rr_loadB (i := 4) TyC.ty rfl rfl rfl) rfl rfl ?_
          | refine qv rfl (rr_strlen Und.eq rfl) rfl rfl ?_ | refine qv rfl (qfld FldC.fld rfl rfl) rfl rfl ?_ | refine qv rfl (rr_not rfl rfl) rfl rfl ?_
          | refine qv rfl (rr_lss rfl rfl (qT (by omega))) rfl rfl ?_ | refine qv rfl (rr_lss rfl rfl (qF (by omega))) rfl rfl ?_
          | refine qv rfl (rr_gtr rfl rfl (qT (by omega))) rfl rfl ?_ | refine qv rfl (rr_gtr rfl rfl (qF (by omega))) rfl rfl ?_
          | refine qv rfl (rr_eql rfl rfl (qT (by omega))) rfl rfl ?_ | refine qv rfl (rr_eql rfl rfl (qF (by omega))) rfl rfl ?_
          | refine qv rfl (rr_neq rfl rfl (qT (by omega))) rfl rfl ?_ | refine qv rfl (rr_neq rfl rfl (qF (by omega))) rfl rfl ?_
          | refine qv rfl (rr_add64 rfl rfl (by omega) (by omega) rfl) rfl rfl ?_)
        refine TL_pushN (i := 3) rfl rfl rfl rfl rfl rfl rfl (fun z h => by cases h; rfl) (by omega) (by omega) rfl fun z v2 => ?_
        conv => arg 8; simp only [zA, zB, zC, zD, zE, zF, zG, zH, zI, rowS, ret, id_eq]
        repeat (first
          | refine qv rfl (qp rfl) rfl rfl ?_ | refine TL_nil ?_ | refine T_seq ?_ | refine T_region ?_ | refine qcT rfl ?_ | refine qcF rfl ?_ | refine T_skip ?_
          | refine T_exit ?_ | refine T_ret ?_ | refine T_block ?_ | refine E_then ?_ | refine E_thenX ?_ | refine E_thenR ?_ | refine E_blockN ?_
          | refine E_blockR ?_ | refine E_blockX ?_ | refine E_blockO rfl ?_ | refine qv rfl (rr_strlen Und.eq rfl) rfl rfl ?_
          | refine qv rfl (qfld FldC.fld rfl rfl) rfl rfl ?_ | refine qv rfl (rr_not rfl rfl) rfl rfl ?_
          | refine qv rfl (rr_lss rfl rfl (qT (by omega))) rfl rfl ?_ | refine qv rfl (rr_lss rfl rfl (qF (by omega))) rfl rfl ?_
          | refine qv rfl (rr_gtr rfl rfl (qT (by omega))) rfl rfl ?_ | refine qv rfl (rr_gtr rfl rfl (qF (by omega))) rfl rfl ?_
          | refine qv rfl (rr_eql rfl rfl (qT (by omega))) rfl rfl ?_ | refine qv rfl (rr_eql rfl rfl (qF (by omega))) rfl rfl ?_
          | refine qv rfl (rr_neq rfl rfl (qT (by omega))) rfl rfl ?_ | refine qv rfl (rr_neq rfl rfl (qF (by omega))) rfl rfl ?_
          | refine qv rfl (rr_add64 rfl rfl (by omega) (by omega) rfl) rfl rfl ?_)
        refine E_pick [0, 1, 2, 3] (by decide) rfl ?_
        exact E_round (f, a + t, u.drop t, out ++ [(r, a, a + t)], v2) ⟨by show (u.drop t).length < f; omega, by show (u.drop t).length ≤ 65; omega, by show a + t + (u.drop t).length ≤ 1099511627840 + i + 1; omega, by show (out ++ [(r, a, a + t)]).length ≤ a + t; rw [List.length_append]; simp; omega, by rw [List.append_assoc]; exact j5⟩ (by show f < f + 1; omega) (by repeat' (first | exact True.intro | refine And.intro rfl ?_)) (by dsimp only; rw [toks_snoc]; rfl)
  · rw [List.drop_eq_nil_of_le (by omega)] at i5
    have i5 : (out1 ++ [], a1, u1, 0) = fin := i5
    rw [List.append_nil] at i5
    subst i5
    repeat (first
      | refine qv rfl (qp rfl) rfl rfl ?_ | refine TL_nil ?_ | refine T_seq ?_ | refine T_region ?_ | refine qcT rfl ?_ | refine qcF rfl ?_ | refine T_skip ?_
      | refine T_exit ?_ | refine T_ret ?_ | refine T_block ?_ | refine E_then ?_ | refine E_thenX ?_ | refine E_thenR ?_ | refine E_blockN ?_
      | refine E_blockR ?_ | refine E_blockX ?_ | refine E_blockO rfl ?_ | refine qv rfl (rr_loadB (i := 1) TyC.ty rfl rfl rfl) rfl rfl ?_
      | refine qv rfl (rr_strlen Und.eq rfl) rfl rfl ?_ | refine qv rfl (qfld FldC.fld rfl rfl) rfl rfl ?_ | refine qv rfl (rr_not rfl rfl) rfl rfl ?_
      | refine qv rfl (rr_lss rfl rfl (qT (by omega))) rfl rfl ?_ | refine qv rfl (rr_lss rfl rfl (qF (by omega))) rfl rfl ?_
      | refine qv rfl (rr_gtr rfl rfl (qT (by omega))) rfl rfl ?_ | refine qv rfl (rr_gtr rfl rfl (qF (by omega))) rfl rfl ?_
      | refine qv rfl (rr_eql rfl rfl (qT (by omega))) rfl rfl ?_ | refine qv rfl (rr_eql rfl rfl (qF (by omega))) rfl rfl ?_
      | refine qv rfl (rr_neq rfl rfl (qT (by omega))) rfl rfl ?_ | refine qv rfl (rr_neq rfl rfl (qF (by omega))) rfl rfl ?_
      | refine qv rfl (rr_add64 rfl rfl (by omega) (by omega) rfl) rfl rfl ?_)
    refine TL_storeB (i := 2) (cs' := (heldC (a1 : Int) u1 0).toArray) rfl rfl rfl rfl rfl rfl ?_
    conv => arg 8; simp only [zA, zB, zC, zD, zE, zF, zG, zH, zI, rowS, ret, id_eq]
    repeat (first
      | refine qv rfl (qp rfl) rfl rfl ?_ | refine TL_nil ?_ | refine T_seq ?_ | refine T_region ?_ | refine qcT rfl ?_ | refine qcF rfl ?_ | refine T_skip ?_
      | refine T_exit ?_ | refine T_ret ?_ | refine T_block ?_ | refine E_then ?_ | refine E_thenX ?_ | refine E_thenR ?_ | refine E_blockN ?_
      | refine E_blockR ?_ | refine E_blockX ?_ | refine E_blockO rfl ?_ | refine qv rfl (rr_strlen Und.eq rfl) rfl rfl ?_
      | refine qv rfl (qfld FldC.fld rfl rfl) rfl rfl ?_ | refine qv rfl (rr_not rfl rfl) rfl rfl ?_
      | refine qv rfl (rr_lss rfl rfl (qT (by omega))) rfl rfl ?_ | refine qv rfl (rr_lss rfl rfl (qF (by omega))) rfl rfl ?_
      | refine qv rfl (rr_gtr rfl rfl (qT (by omega))) rfl rfl ?_ | refine qv rfl (rr_gtr rfl rfl (qF (by omega))) rfl rfl ?_
      | refine qv rfl (rr_eql rfl rfl (qT (by omega))) rfl rfl ?_ | refine qv rfl (rr_eql rfl rfl (qF (by omega))) rfl rfl ?_
      | refine qv rfl (rr_neq rfl rfl (qT (by omega))) rfl rfl ?_ | refine qv rfl (rr_neq rfl rfl (qF (by omega))) rfl rfl ?_
      | refine qv rfl (rr_add64 rfl rfl (by omega) (by omega) rfl) rfl rfl ?_)
    exact E_retc3 (i := 2) rfl rfl rfl rfl rfl rfl fun w hm => hm.meets (S := feedS (out1, a1, u1, 0)) v1 trivial [3] (by decide) rfl
end Go.Proofs.Ytkmemlnkijinlaa.eng

/- DfM -/
namespace Go.Proofs.Ytkmemlnkijinlaa.eng
open Go.RowKit kit mix classL rexL placesL dfaP smallL
/-- what Make answers -/
def outD (m : MS) : List Row × List Int × Int := match makeD m with
  | some (R, d) => (R, d.tags, 0)
  | none => ([], [], 8)
def mkdSp (m : MS) : Spec (Value × Value) := ⟨fun _ => True, fun x => .tuple #[dfaV x.1 x.2, .int .i64 (outD m).2.2], fun x => [rowO 96 256 x.1 (outD m).1.length ((outD m).1.flatMap rowC), intR x.2 (outD m).2.1]⟩
theorem outD_0 {m : MS} {R : List Row} {d : DM} (h : makeD m = some (R, d)) : outD m = (R, d.tags, 0) := by unfold outD; rw [h]
theorem outD_8 {m : MS} (h : makeD m = none) : outD m = ([], [], 8) := by unfold outD; rw [h]
theorem make_step (m : MS) (f n : Nat) (R : List Row) (d : DM) : makeTo m (f + 1) n R d = if n < d.S.length + 1 then (if 200 < (rowP m n d).2.S.length + 1 then none else makeTo m f (n + 1) (R ++ [(rowP m n d).1]) (rowP m n d).2) else some (R, d) := rfl
theorem build_dfaz (w : World) : (Instr.build 55 (#[] : Array (Nat × Value))).run Try.prog w = .ok (.agg #[.slice none 0 0, .slice none 0 0]) w := by kernel_rfl
theorem build_dm (vc vr vf vfol vl ve : Value) (g gm : Nat) (w : World) : (Instr.build 112 #[(0, .agg #[vc, vr, vf, vfol, vl, ve]), (1, .slice (some ⟨g, 0, none⟩) 1 1), (2, .map (some gm))]).run Try.prog w = .ok (.agg (dmC vc vr vf vfol vl ve (.slice (some ⟨g, 0, none⟩) 1 1) (.map (some gm)) (.slice none 0 0) (.slice none 0 0))) w := by
  unfold dmC; go_simp
theorem row_set1 {g : Nat} {w : World} (h : (blkO g (madeCells #[Value.int .u64 0, Value.int .u64 0, Value.int .u64 0, Value.int .u64 0] (1 * 4)) 119).holds w) : (setsO (.slice (some ⟨g, 0, none⟩) 1 1) []).holds w := by
  rw [madeC (k := 4) rfl (by decide)] at h
  exact ⟨rfl, .inr ⟨g, 1, _, rfl, Nat.zero_le _, h, Nat.le_refl _, by decide, rfl, rfl⟩⟩
theorem row_snocR (v : Value) (R : List Row) (r : Row) : rowO 96 256 v (R ++ [r]).length ((R ++ [r]).flatMap rowC) = rowO 96 256 v (R.length + 1) (R.flatMap rowC ++ rowC r) := by
  rw [List.length_append, List.flatMap_append]; simp
theorem dmc_at {vc vr vf vfol vl ve vs num rows tags v : Value} {j : Nat} (h : [rows, tags][j]? = some v) : (dmC vc vr vf vfol vl ve vs num rows tags)[8 + j]? = some v := by
  match j, h with
  | 0, h => exact h
  | 1, h => exact h
theorem row_lit (r : Row) : (rowC r).toArray = ([rowV r].flatMap fun v => v.cells.toList).toArray := by
  show _ = ((rowC r).toArray.toList ++ []).toArray
  simp
theorem row_litn (r : Row) : ∀ v ∈ [rowV r], v.cells.size = 256 := by
  intro v hv
  rw [List.mem_singleton.1 hv]
  show (rowC r).toArray.size = 256
  rw [List.size_toArray, rowC_len]
set_option maxRecDepth 100000 in
set_option maxHeartbeats 8000000 in
theorem dfaMake_calls (v : Value) (m : MS) (w : World) (hp : PosR w v m) (h : MOkP m) :
    Calls Try.prog 34 #[v] w (Meets (mkdSp m) w) := by
  have hck := fun w' (hg : Gr w w') => posCheck_calls v m w' (hp.gr hg) h
  obtain ⟨vc, vr, vf, vfol, vl, ve, rfl, h1, h2, h3, h4, h5, h6⟩ := id hp
  have hrw := fun rows d g gm n vs vt hd hd2 hn w' B ho hm => dfaRow_calls m vc vr vf vfol vl ve rows d g gm n vs vt w hp h hd hd2 hn w' B ho hm
  clear h1 h2 h3 h4 h5 hp
  have hms := h.some
  have hmm := h.most
  clear h
  obtain ⟨ae, ce, rfl, -, hme, hre⟩ := h6
  unfold maxLen at hme
  have hbz := build_dfaz
  refine enter (args := [.agg #[vc, vr, vf, vfol, vl, .slice ae m.empty.length ce]]) (n := 78) Try.func34 rfl rfl rfl ?_
  refine T_seq (T_region (TL_box rfl rfl rfl fun g1 => TL_new rfl fun g2 => ?_))
  conv => arg 8; simp only [zA, zB, zC, zD, zE, zF, zG, zH, zI, rowS, ret, id_eq]
  repeat (first
    | refine QV QP ?_ | refine QZ ?_ | refine qcT rfl ?_ | refine qcF rfl ?_ | refine E_blockX ?_ | refine E_blockO rfl ?_
    | refine QV (rr_loadB (i := 0) TyC.ty rfl rfl rfl) ?_ | refine QV QL ?_ | refine QV QA ?_ | refine QV (rr_nilc rfl) ?_ | refine QV QlT ?_
    | refine QV QlF ?_ | refine QV QgT ?_ | refine QV QgF ?_ | refine QV QhT ?_ | refine QV QhF ?_ | refine QV QnT ?_ | refine QV QnF ?_ | refine QV QaA ?_
    | refine QV QaS ?_)
  refine TL_call (he1 EntersC.en rfl rfl) (fun w hm => hck _ hm.below) rfl rfl rfl ?_
  intro _ _
  conv => arg 8; simp only [zA, zB, zC, zD, zE, zF, zG, zH, zI, rowS, ret, id_eq]
  clear hck
  repeat (first
    | refine QV QP ?_ | refine QZ ?_ | refine qcT rfl ?_ | refine qcF rfl ?_ | refine E_blockX ?_ | refine E_blockO rfl ?_
    | refine QV (rr_neq (b := false) rfl rfl (decide_eq_false (by simp))) ?_ | refine QV QL ?_ | refine QV QA ?_ | refine QV (rr_nilc rfl) ?_
    | refine QV QlT ?_ | refine QV QlF ?_ | refine QV QgT ?_ | refine QV QgF ?_ | refine QV QhT ?_ | refine QV QhF ?_ | refine QV QnT ?_ | refine QV QnF ?_
    | refine QV QaA ?_ | refine QV QaS ?_)
  (repeat refine T_seq ?_)
  refine T_midq (ι := Nat × Nat × Nat) (fun _ => True) (fun (_, _, g5) => [(1, .pointer (some ⟨g1, 0, none⟩)), (2, .pointer (some ⟨g2, 0, none⟩)), (5, .pointer (some ⟨g5, 0, none⟩))])
    (fun (gs, gm, g5) => [blkO g1 #[vc, vr, vf, vfol, vl, .slice ae m.empty.length ce] 84, blkO g2 #[.slice none 0 0, .slice none 0 0] 55, blkO g5 (dmC vc vr vf vfol vl (.slice ae m.empty.length ce) (.slice (some ⟨gs, 0, none⟩) 1 1) (.map (some gm)) (.slice none 0 0) (.slice none 0 0)) 112, setsO (.slice (some ⟨gs, 0, none⟩) 1 1) [], numO gm []]) ?_ ?_
  · refine T_ord ([blkO g1 #[vc, vr, vf, vfol, vl, .slice ae m.empty.length ce] 84]) (.calm 0 (.two 1 (.one 2 (.calm 3 (.one 4 (.calm 5 (.done))))) 2 (.one 1 (.calm 3 (.one 4 (.calm 5 (.done))))))) (sub_pick [0] (by decide) rfl) (by kernel_rfl) (by kernel_rfl) (by intro c a d v w h; cases d <;> exact h) ?_
    repeat (first
      | ((first | refine TW_plain rfl rfl ?_ | refine TW_gmet rfl rfl rfl rfl ?_); first | refine QW QP ?_ | refine QW (rr_loadB (i := 0) TyC.ty rfl rfl rfl) ?_ | refine QW QL ?_ | refine QW QA ?_ | refine QW (rr_nilc rfl) ?_ | refine QW QlT ?_ | refine QW QlF ?_ | refine QW QgT ?_ | refine QW QgF ?_ | refine QW QhT ?_ | refine QW QhF ?_ | refine QW QnT ?_ | refine QW QnF ?_ | refine QW QaA ?_ | refine QW QaS ?_)
      | refine TW_done ?_)
    refine TW_two rfl rfl ?_ ?_
    · refine TL_makeB (m := 1) (cap := 1) rfl rfl (Nat.le_refl 1) (by decide) (by decide) rfl fun gs => TW_on (sub_pick [0] (by decide) rfl) ?_
      refine TW_one rfl (TL_map setK rfl fun gm => TW_on (sub_pick [0] (by decide) rfl) ?_)
      repeat (first
        | ((first | refine TW_plain rfl rfl ?_ | refine TW_gmet rfl rfl rfl rfl ?_); first | refine QW QP ?_ | refine QW (rr_build rfl (build_dm _ _ _ _ _ _ _ _)) ?_ | refine QW QL ?_ | refine QW QA ?_ | refine QW (rr_nilc rfl) ?_ | refine QW QlT ?_ | refine QW QlF ?_ | refine QW QgT ?_ | refine QW QgF ?_ | refine QW QhT ?_ | refine QW QhF ?_ | refine QW QnT ?_ | refine QW QnF ?_ | refine QW QaA ?_ | refine QW QaS ?_)
        | refine TW_done ?_)
      refine TW_one rfl (TL_box rfl rfl rfl fun g5 => TW_on (sub_pick [0] (by decide) rfl) ?_)
      repeat (first
        | ((first | refine TW_plain rfl rfl ?_ | refine TW_gmet rfl rfl rfl rfl ?_); first | refine QW QP ?_ | refine QW QL ?_ | refine QW QA ?_ | refine QW (rr_nilc rfl) ?_ | refine QW QlT ?_ | refine QW QlF ?_ | refine QW QgT ?_ | refine QW QgF ?_ | refine QW QhT ?_ | refine QW QhF ?_ | refine QW QnT ?_ | refine QW QnF ?_ | refine QW QaA ?_ | refine QW QaS ?_)
        | refine TW_done ?_)
      refine E_reown (i := 2) (setsO (.slice (some ⟨gs, 0, none⟩) 1 1) []) rfl (fun w h => row_set1 h) (fun k h => h) ?_
      refine E_reown (i := 3) (numO gm []) rfl (fun w h => by unfold numO; rw [← mapAt1_nil]; exact h) (fun k h => h) ?_
      refine E_pick [0, 1, 4, 2, 3] (by decide) rfl ?_
      exact E_mid (gs, gm, g5) trivial (by repeat' (first | exact True.intro | refine And.intro rfl ?_)) rfl
    · refine TL_map setK rfl fun gm => TW_on (sub_pick [0] (by decide) rfl) ?_
      refine TW_one rfl (TL_makeB (m := 1) (cap := 1) rfl rfl (Nat.le_refl 1) (by decide) (by decide) rfl fun gs => TW_on (sub_pick [0] (by decide) rfl) ?_)
      repeat (first
        | ((first | refine TW_plain rfl rfl ?_ | refine TW_gmet rfl rfl rfl rfl ?_); first | refine QW QP ?_ | refine QW (rr_build rfl (build_dm _ _ _ _ _ _ _ _)) ?_ | refine QW QL ?_ | refine QW QA ?_ | refine QW (rr_nilc rfl) ?_ | refine QW QlT ?_ | refine QW QlF ?_ | refine QW QgT ?_ | refine QW QgF ?_ | refine QW QhT ?_ | refine QW QhF ?_ | refine QW QnT ?_ | refine QW QnF ?_ | refine QW QaA ?_ | refine QW QaS ?_)
        | refine TW_done ?_)
      refine TW_one rfl (TL_box rfl rfl rfl fun g5 => TW_on (sub_pick [0] (by decide) rfl) ?_)
      repeat (first
        | ((first | refine TW_plain rfl rfl ?_ | refine TW_gmet rfl rfl rfl rfl ?_); first | refine QW QP ?_ | refine QW QL ?_ | refine QW QA ?_ | refine QW (rr_nilc rfl) ?_ | refine QW QlT ?_ | refine QW QlF ?_ | refine QW QgT ?_ | refine QW QgF ?_ | refine QW QhT ?_ | refine QW QhF ?_ | refine QW QnT ?_ | refine QW QnF ?_ | refine QW QaA ?_ | refine QW QaS ?_)
        | refine TW_done ?_)
      refine E_reown (i := 3) (setsO (.slice (some ⟨gs, 0, none⟩) 1 1) []) rfl (fun w h => row_set1 h) (fun k h => h) ?_
      refine E_reown (i := 2) (numO gm []) rfl (fun w h => by unfold numO; rw [← mapAt1_nil]; exact h) (fun k h => h) ?_
      refine E_pick [0, 1, 4, 3, 2] (by decide) rfl ?_
      exact E_mid (gs, gm, g5) trivial (by repeat' (first | exact True.intro | refine And.intro rfl ?_)) rfl
  rintro ⟨gs, gm, g5⟩ _
  dsimp only
  repeat (first
    | refine QV QP ?_ | refine QZ ?_ | refine qcT rfl ?_ | refine qcF rfl ?_ | refine E_blockX ?_ | refine E_blockO rfl ?_ | refine QV QL ?_
    | refine QV QA ?_ | refine QV (rr_nilc rfl) ?_ | refine QV QlT ?_ | refine QV QlF ?_ | refine QV QgT ?_ | refine QV QgF ?_ | refine QV QhT ?_
    | refine QV QhF ?_ | refine QV QnT ?_ | refine QV QnF ?_ | refine QV QaA ?_ | refine QV QaS ?_)
  refine TL_litN (cs := #[.int .i64 (-1)]) [.int .i64 (-1)] rfl rfl rfl (by intro v hv; simp at hv; subst hv; rfl) rfl rfl rfl fun g20 => ?_
  conv => arg 8; simp only [zA, zB, zC, zD, zE, zF, zG, zH, zI, rowS, ret, id_eq]
  repeat (first
    | refine QV QP ?_ | refine QZ ?_ | refine qcT rfl ?_ | refine qcF rfl ?_ | refine E_blockX ?_ | refine E_blockO rfl ?_ | refine QV (rr_nilc rfl) ?_
    | refine QV QL ?_ | refine QV QA ?_ | refine QV (rr_nilc rfl) ?_ | refine QV QlT ?_ | refine QV QlF ?_ | refine QV QgT ?_ | refine QV QgF ?_
    | refine QV QhT ?_ | refine QV QhF ?_ | refine QV QnT ?_ | refine QV QnF ?_ | refine QV QaA ?_ | refine QV QaS ?_)
  refine TL_store1 (i := 2) rfl rfl rfl rfl rfl rfl ?_
  conv => arg 8; simp only [zA, zB, zC, zD, zE, zF, zG, zH, zI, rowS, ret, id_eq]
  repeat (first
    | refine QV QP ?_ | refine QZ ?_ | refine qcT rfl ?_ | refine qcF rfl ?_ | refine E_blockX ?_ | refine E_blockO rfl ?_
    | refine QV (rr_load1 (v := .slice ae m.empty.length ce) TyC.ty rfl (at_blk (i := 0) rfl rfl)) ?_
    | refine QV (rr_sub64 (r := (m.empty.length : Int) - 1) rfl rfl (by omega) (by omega) rfl) ?_ | refine QV QL ?_ | refine QV QA ?_
    | refine QV (rr_nilc rfl) ?_ | refine QV QlT ?_ | refine QV QlF ?_ | refine QV QgT ?_ | refine QV QgF ?_ | refine QV QhT ?_ | refine QV QhF ?_
    | refine QV QnT ?_ | refine QV QnF ?_ | refine QV QaA ?_ | refine QV QaS ?_)
  refine T_loop (ι := Nat) (fun k => k ≤ m.empty.length) (fun k => [(1, .pointer (some ⟨g1, 0, none⟩)), (2, .pointer (some ⟨g2, 0, none⟩)), (5, .pointer (some ⟨g5, 0, none⟩)), (6, .int .i64 ((k : Int) - 1))])
    (fun k => [blkO g1 #[vc, vr, vf, vfol, vl, .slice ae m.empty.length ce] 84, blkO g2 #[.slice none 0 0, .slice none 0 0] 55, blkO g5 (dmC vc vr vf vfol vl (.slice ae m.empty.length ce) (.slice (some ⟨gs, 0, none⟩) 1 1) (.map (some gm)) (.slice none 0 0) (.slice (some ⟨g20, 0, none⟩) 1 1)) 112, setsO (.slice (some ⟨gs, 0, none⟩) 1 1) [], numO gm [], blkO g20 #[.int .i64 (firstT (m.empty.drop k) k)] 3]) (fun k => k) m.empty.length (Nat.le_refl _) (by repeat' (first | exact True.intro | refine And.intro rfl ?_)) (by rw [List.drop_eq_nil_of_le (Nat.le_refl _)]; rfl) ?_
  intro k hk
  by_cases c1 : 0 < k
  · obtain ⟨j, rfl⟩ : ∃ j, k = j + 1 := ⟨k - 1, by omega⟩
    have hj : j < m.empty.length := by omega
    obtain ⟨be, offe, rfl, hred⟩ := hre (by omega)
    have hate := fun (L : List Own) => at_el (L := L) BoE_len hred hj 0 _ rfl
    have hst : firstT (m.empty.drop j) j = if m.empty[j] = true then (j : Int) else firstT (m.empty.drop (j + 1)) ((j : Int) + 1) := by rw [List.drop_eq_getElem_cons hj, firstT]
    rw [show (((j + 1 : Nat) : Int)) = (j : Int) + 1 by omega] at *
    generalize firstT (m.empty.drop (j + 1)) ((j : Int) + 1) = t at *
    generalize m.empty[j] = b at *
    rw [show (j : Int) + 1 - 1 = (j : Int) by omega]
    have hate' : ∀ (L : List Own), At (w : Base) L ⟨be, offe + j * 1 + 0, none⟩ (.bool b) := hate
    by_cases c2 : b = true
    · subst c2
      rw [if_pos rfl] at hst
      repeat (first
        | refine QV QP ?_ | refine QZ ?_ | refine qcT rfl ?_ | refine qcF rfl ?_ | refine E_blockX ?_ | refine E_blockO rfl ?_
        | refine QV (rr_geq (b := true) rfl rfl (decide_eq_true (by omega))) ?_
        | refine QV (rr_load1 (v := .slice (some ⟨be, offe, none⟩) m.empty.length ce) TyC.ty rfl (at_blk (i := 0) rfl rfl)) ?_
        | refine QV (rr_idxc Und.eq TyC.ty rfl rfl hj) ?_ | refine QV (rr_load1 (v := .bool true) TyC.ty rfl (hate' _)) ?_ | refine QV (rr_nilc rfl) ?_
        | refine QV (rr_load1 (v := .slice (some ⟨g20, 0, none⟩) 1 1) TyC.ty rfl (at_blk (i := 2) rfl rfl)) ?_
        | refine QV (rr_idxc (j := 0) Und.eq TyC.ty rfl rfl (by decide)) ?_ | refine QV QL ?_ | refine QV QA ?_ | refine QV (rr_nilc rfl) ?_ | refine QV QlT ?_
        | refine QV QlF ?_ | refine QV QgT ?_ | refine QV QgF ?_ | refine QV QhT ?_ | refine QV QhF ?_ | refine QV QnT ?_ | refine QV QnF ?_ | refine QV QaA ?_
        | refine QV QaS ?_)
      refine TL_store1 (i := 5) rfl rfl rfl rfl rfl rfl ?_
      conv => arg 8; simp only [zA, zB, zC, zD, zE, zF, zG, zH, zI, rowS, ret, id_eq]
      repeat (first
        | refine QV QP ?_ | refine QZ ?_ | refine qcT rfl ?_ | refine qcF rfl ?_ | refine E_blockX ?_ | refine E_blockO rfl ?_
        | refine QV (rr_sub64 (r := (j : Int) - 1) rfl rfl (by omega) (by omega) rfl) ?_ | refine QV QL ?_ | refine QV QA ?_ | refine QV (rr_nilc rfl) ?_
        | refine QV QlT ?_ | refine QV QlF ?_ | refine QV QgT ?_ | refine QV QgF ?_ | refine QV QhT ?_ | refine QV QhF ?_ | refine QV QnT ?_ | refine QV QnF ?_
        | refine QV QaA ?_ | refine QV QaS ?_)
      exact E_round j (by omega) (by show j < j + 1; omega) (by repeat' (first | exact True.intro | refine And.intro rfl ?_)) (by rw [hst]; rfl)
    · rw [if_neg c2] at hst
      obtain rfl := Bool.eq_false_iff.2 c2
      repeat (first
        | refine QV QP ?_ | refine QZ ?_ | refine qcT rfl ?_ | refine qcF rfl ?_ | refine E_blockX ?_ | refine E_blockO rfl ?_
        | refine QV (rr_geq (b := true) rfl rfl (decide_eq_true (by omega))) ?_
        | refine QV (rr_load1 (v := .slice (some ⟨be, offe, none⟩) m.empty.length ce) TyC.ty rfl (at_blk (i := 0) rfl rfl)) ?_
        | refine QV (rr_idxc Und.eq TyC.ty rfl rfl hj) ?_ | refine QV (rr_load1 (v := .bool false) TyC.ty rfl (hate' _)) ?_
        | refine QV (rr_sub64 (r := (j : Int) - 1) rfl rfl (by omega) (by omega) rfl) ?_ | refine QV QL ?_ | refine QV QA ?_ | refine QV (rr_nilc rfl) ?_
        | refine QV QlT ?_ | refine QV QlF ?_ | refine QV QgT ?_ | refine QV QgF ?_ | refine QV QhT ?_ | refine QV QhF ?_ | refine QV QnT ?_ | refine QV QnF ?_
        | refine QV QaA ?_ | refine QV QaS ?_)
      exact E_round j (by omega) (by show j < j + 1; omega) (by repeat' (first | exact True.intro | refine And.intro rfl ?_)) (by rw [hst])
  · obtain rfl : k = 0 := by omega
    rw [show firstT (m.empty.drop 0) ((0 : Nat) : Int) = firstT m.empty 0 from rfl]
    have hfin : makeTo m (201 - 0) 0 [] ⟨[], [firstT m.empty 0]⟩ = makeD m := rfl
    generalize firstT m.empty 0 = t0 at *
    refine T_reown (i := 5) (intR (.slice (some ⟨g20, 0, none⟩) 1 1) [t0]) rfl (fun w h => one_row h) (fun k h => h) ?_
    repeat (first
      | refine QV QP ?_ | refine QZ ?_ | refine qcT rfl ?_ | refine qcF rfl ?_ | refine E_blockX ?_ | refine E_blockO rfl ?_
      | refine QV (rr_geq (b := false) rfl rfl (decide_eq_false (by omega))) ?_ | refine QV QL ?_ | refine QV QA ?_ | refine QV (rr_nilc rfl) ?_
      | refine QV QlT ?_ | refine QV QlF ?_ | refine QV QgT ?_ | refine QV QgF ?_ | refine QV QhT ?_ | refine QV QhF ?_ | refine QV QnT ?_ | refine QV QnF ?_
      | refine QV QaA ?_ | refine QV QaS ?_)
    refine T_nil 96 256 ?_
    refine T_pick [1, 2, 3, 4, 5, 6] (by decide) rfl ?_
    clear hre
    refine T_loop (ι := Nat × List Row × DM × Value × Value × Value) (fun (n, R, d, _, _, _) => R.length = n ∧ n ≤ d.S.length + 1 ∧ DOk m.ps d ∧ d.S.length + 1 ≤ 200 ∧ makeTo m (201 - n) n R d = makeD m) (fun (n, _, _, _, _, _) => [(2, .pointer (some ⟨g2, 0, none⟩)), (5, .pointer (some ⟨g5, 0, none⟩)), (7, .int .i64 (n : Int))])
      (fun (_, R, d, vs, vrows, vt) => [blkO g2 #[.slice none 0 0, .slice none 0 0] 55, blkO g5 (dmC vc vr vf vfol vl (.slice ae m.empty.length ce) vs (.map (some gm)) vrows vt) 112, setsO vs d.S, numO gm d.S, intR vt d.tags, rowO 96 256 vrows R.length (R.flatMap rowC)]) (fun (n, _, _, _, _, _) => 201 - n) (0, [], ⟨[], [t0]⟩, .slice (some ⟨gs, 0, none⟩) 1 1, .slice none 0 0, .slice (some ⟨g20, 0, none⟩) 1 1) ⟨rfl, Nat.zero_le _, ⟨List.nodup_nil, rfl⟩, by show 0 + 1 ≤ 200; omega, hfin⟩ (by repeat' (first | exact True.intro | refine And.intro rfl ?_)) rfl ?_
    clear hfin hk c1
    rintro ⟨n, R, d, vs, vrows, vt⟩ ⟨i0, i1, i2, i3, i4⟩
    dsimp only at i0 i1 i2 i3 i4 ⊢
    refine T_know (i := 2) rfl row_slm fun hrow => ?_
    obtain ⟨ab, cs, rfl, hmS, -⟩ := hrow
    by_cases c1 : n < d.S.length + 1
    · rw [show 201 - n = (201 - (n + 1)) + 1 by omega, make_step, if_pos c1] at i4
      obtain ⟨s1, s2, s3⟩ := rowTo_ok (p := m.ps) (nextF m d.S n) 256 0 (Vector.replicate 256 0) d i2 i3
      have hcall := fun w' (hm' : Mem (w : Base) [blkO g2 #[.slice none 0 0, .slice none 0 0] 55, blkO g5 (dmC vc vr vf vfol vl (.slice ae m.empty.length ce) (.slice ab (d.S.length + 1) cs) (.map (some gm)) vrows vt) 112, setsO (.slice ab (d.S.length + 1) cs) d.S, numO gm d.S, intR vt d.tags, rowO 96 256 vrows R.length (R.flatMap rowC)] w') (hb : Mem (Base.on w' (dmL vc vr vf vfol vl (.slice ae m.empty.length ce) vrows g5 gm (.slice ab (d.S.length + 1) cs) vt d)) (dmL vc vr vf vfol vl (.slice ae m.empty.length ce) vrows g5 gm (.slice ab (d.S.length + 1) cs) vt d) w') => hrw vrows d g5 gm n (.slice ab (d.S.length + 1) cs) vt i2 i3 (by omega) w' _ ((Old.self w).on hm' (by simp [dmL])) hb
      rw [show rowTo m.ps (nextF m d.S n) 256 0 (Vector.replicate 256 0) d = rowP m n d from rfl] at s1 s2 s3
      obtain ⟨r', d', hrp⟩ : ∃ r' d', rowP m n d = (r', d') := ⟨_, _, rfl⟩
      rw [hrp] at i4 s1 s2 s3
      dsimp only at i4 s1 s2 s3
      repeat (first
        | refine QV QP ?_ | refine QZ ?_ | refine qcT rfl ?_ | refine qcF rfl ?_ | refine E_blockX ?_ | refine E_blockO rfl ?_ | refine QV (rr_nilc rfl) ?_
        | refine QV (rr_load1 (v := .slice ab (d.S.length + 1) cs) TyC.ty rfl (at_blk (i := 1) rfl rfl)) ?_
        | refine QV (rr_lss (b := true) rfl rfl (decide_eq_true (by omega))) ?_ | refine QV QL ?_ | refine QV QA ?_ | refine QV (rr_nilc rfl) ?_
        | refine QV QlT ?_ | refine QV QlF ?_ | refine QV QgT ?_ | refine QV QgF ?_ | refine QV QhT ?_ | refine QV QhF ?_ | refine QV QnT ?_ | refine QV QnF ?_
        | refine QV QaA ?_ | refine QV QaS ?_)
      (repeat refine T_seq ?_)
      refine T_midq (ι := Value × Value × Value) (fun _ => True) (fun _ => [(2, .pointer (some ⟨g2, 0, none⟩)), (5, .pointer (some ⟨g5, 0, none⟩)), (7, .int .i64 (n : Int))])
        (fun (vs', vrows', vt') => [blkO g2 #[.slice none 0 0, .slice none 0 0] 55, blkO g5 (dmC vc vr vf vfol vl (.slice ae m.empty.length ce) vs' (.map (some gm)) vrows' vt') 112, setsO vs' d'.S, numO gm d'.S, intR vt' d'.tags, rowO 96 256 vrows' (R ++ [r']).length ((R ++ [r']).flatMap rowC)]) ?_ ?_
      · refine T_ord ([]) (.calm 0 (.calm 1 (.calm 2 (.calm 3 (.calm 4 (.calm 6 (.calm 7 (.two 5 (.one 8 (.one 9 (.one 10 (.calm 11 (.calm 12 (.calm 13 (.one 14 (.done)))))))) 8 (.two 5 (.one 9 (.one 10 (.calm 11 (.calm 12 (.calm 13 (.one 14 (.done))))))) 9 (.one 5 (.one 10 (.calm 11 (.calm 12 (.calm 13 (.one 14 (.done)))))))))))))))) (sub_pick [] (by decide) rfl) (by kernel_rfl) (by kernel_rfl) (by intro c a d v w h; cases d <;> exact h) ?_
        repeat (first
          | ((first | refine TW_plain rfl rfl ?_ | refine TW_gmet rfl rfl rfl rfl ?_); first | refine QW QP ?_ | refine QW (rr_nilc rfl) ?_ | refine QW QL ?_ | refine QW QA ?_ | refine QW (rr_nilc rfl) ?_ | refine QW QlT ?_ | refine QW QlF ?_ | refine QW QgT ?_ | refine QW QgF ?_ | refine QW QhT ?_ | refine QW QhF ?_ | refine QW QnT ?_ | refine QW QnF ?_ | refine QW QaA ?_ | refine QW QaS ?_)
          | refine TW_done ?_)
        refine TW_two rfl rfl ?_ ?_
        · refine TL_val (rr_load1 (v := vrows) TyC.ty rfl (at_blk (i := 1) rfl rfl)) rfl rfl rfl (TW_on (sub_pick [] (by decide) rfl) ?_)
          refine TW_one rfl (TL_callB [1, 2, 3, 4] [0, 5] (by decide) rfl rfl (he2 EntersC.en rfl rfl rfl) (fun w' hm hb => hcall w' hm hb) rfl rfl rfl ?_)
          rintro ⟨vs', vt'⟩ _
          conv => arg 8; simp only [zA, zB, zC, zD, zE, zF, zG, zH, zI, rowS, ret, id_eq, rowSp, dmL]
          conv => arg 7; simp only [rowSp]
          rw [hrp]
          dsimp only
          refine TW_on (sub_pick [] (by decide) rfl) ?_
          refine TW_one rfl (TL_litN (cs := (rowC r').toArray) [rowV r'] rfl rfl rfl (row_litn r') rfl (row_lit r') rfl fun g62 => (TW_on (sub_pick [] (by decide) rfl) ?_))
          refine TW_one rfl (TL_appSl (i := 1) (e := 96) (size := 256) (bytes := 512) (m := R.length) (xs := R.flatMap rowC) (k := 1) (ys := rowC r') rfl (sl_blk (i := 6) rfl (fun j u h => by simpa using h) (Nat.le_refl 1) (by decide)) rfl rfl (by rw [rowC_len]) (fun u hu => row_one [r'] u (by simpa using hu)) (by omega) (by omega) rfl fun vrows' => (TW_on (sub_pick [] (by decide) rfl) ?_))
          repeat (first
            | ((first | refine TW_plain rfl rfl ?_ | refine TW_gmet rfl rfl rfl rfl ?_); first | refine QW QP ?_ | refine QW (rr_nilc rfl) ?_ | refine QW QL ?_ | refine QW QA ?_ | refine QW (rr_nilc rfl) ?_ | refine QW QlT ?_ | refine QW QlF ?_ | refine QW QgT ?_ | refine QW QgF ?_ | refine QW QhT ?_ | refine QW QhF ?_ | refine QW QnT ?_ | refine QW QnF ?_ | refine QW QaA ?_ | refine QW QaS ?_)
            | refine TW_done ?_)
          refine TW_one rfl (TL_slv (i := 1) rfl fun hv1 hv2 => TL_store1 (i := 2) rfl rfl rfl hv1 hv2 rfl (TW_on (sub_pick [] (by decide) rfl) ?_))
          repeat (first
            | ((first | refine TW_plain rfl rfl ?_ | refine TW_gmet rfl rfl rfl rfl ?_); first | refine QW QP ?_ | refine QW QL ?_ | refine QW QA ?_ | refine QW (rr_nilc rfl) ?_ | refine QW QlT ?_ | refine QW QlF ?_ | refine QW QgT ?_ | refine QW QgF ?_ | refine QW QhT ?_ | refine QW QhF ?_ | refine QW QnT ?_ | refine QW QnF ?_ | refine QW QaA ?_ | refine QW QaS ?_)
            | refine TW_done ?_)
          refine E_pick [0, 2, 3, 4, 5, 1] (by decide) rfl ?_
          exact E_mid (vs', vrows', vt') trivial (by repeat' (first | exact True.intro | refine And.intro rfl ?_)) (by dsimp only; rw [row_snocR]; rfl)
        · refine TL_callB [1, 2, 3, 4] [0, 5] (by decide) rfl rfl (he2 EntersC.en rfl rfl rfl) (fun w' hm hb => hcall w' hm hb) rfl rfl rfl ?_
          rintro ⟨vs', vt'⟩ _
          conv => arg 8; simp only [zA, zB, zC, zD, zE, zF, zG, zH, zI, rowS, ret, id_eq, rowSp, dmL]
          conv => arg 7; simp only [rowSp]
          rw [hrp]
          dsimp only
          refine TW_on (sub_pick [] (by decide) rfl) ?_
          refine TW_two rfl rfl ?_ ?_
          · refine TL_val (rr_load1 (v := vrows) TyC.ty rfl (at_blk (i := 2) rfl rfl)) rfl rfl rfl (TW_on (sub_pick [] (by decide) rfl) ?_)
            refine TW_one rfl (TL_litN (cs := (rowC r').toArray) [rowV r'] rfl rfl rfl (row_litn r') rfl (row_lit r') rfl fun g62 => (TW_on (sub_pick [] (by decide) rfl) ?_))
            refine TW_one rfl (TL_appSl (i := 1) (e := 96) (size := 256) (bytes := 512) (m := R.length) (xs := R.flatMap rowC) (k := 1) (ys := rowC r') rfl (sl_blk (i := 6) rfl (fun j u h => by simpa using h) (Nat.le_refl 1) (by decide)) rfl rfl (by rw [rowC_len]) (fun u hu => row_one [r'] u (by simpa using hu)) (by omega) (by omega) rfl fun vrows' => (TW_on (sub_pick [] (by decide) rfl) ?_))
            repeat (first
              | ((first | refine TW_plain rfl rfl ?_ | refine TW_gmet rfl rfl rfl rfl ?_); first | refine QW QP ?_ | refine QW (rr_nilc rfl) ?_ | refine QW QL ?_ | refine QW QA ?_ | refine QW (rr_nilc rfl) ?_ | refine QW QlT ?_ | refine QW QlF ?_ | refine QW QgT ?_ | refine QW QgF ?_ | refine QW QhT ?_ | refine QW QhF ?_ | refine QW QnT ?_ | refine QW QnF ?_ | refine QW QaA ?_ | refine QW QaS ?_)
              | refine TW_done ?_)
            refine TW_one rfl (TL_slv (i := 1) rfl fun hv1 hv2 => TL_store1 (i := 2) rfl rfl rfl hv1 hv2 rfl (TW_on (sub_pick [] (by decide) rfl) ?_))
            repeat (first
              | ((first | refine TW_plain rfl rfl ?_ | refine TW_gmet rfl rfl rfl rfl ?_); first | refine QW QP ?_ | refine QW QL ?_ | refine QW QA ?_ | refine QW (rr_nilc rfl) ?_ | refine QW QlT ?_ | refine QW QlF ?_ | refine QW QgT ?_ | refine QW QgF ?_ | refine QW QhT ?_ | refine QW QhF ?_ | refine QW QnT ?_ | refine QW QnF ?_ | refine QW QaA ?_ | refine QW QaS ?_)
              | refine TW_done ?_)
            refine E_pick [0, 2, 3, 4, 5, 1] (by decide) rfl ?_
            exact E_mid (vs', vrows', vt') trivial (by repeat' (first | exact True.intro | refine And.intro rfl ?_)) (by dsimp only; rw [row_snocR]; rfl)
          · refine TL_litN (cs := (rowC r').toArray) [rowV r'] rfl rfl rfl (row_litn r') rfl (row_lit r') rfl fun g62 => (TW_on (sub_pick [] (by decide) rfl) ?_)
            refine TW_one rfl (TL_val (rr_load1 (v := vrows) TyC.ty rfl (at_blk (i := 2) rfl rfl)) rfl rfl rfl (TW_on (sub_pick [] (by decide) rfl) ?_))
            refine TW_one rfl (TL_appSl (i := 1) (e := 96) (size := 256) (bytes := 512) (m := R.length) (xs := R.flatMap rowC) (k := 1) (ys := rowC r') rfl (sl_blk (i := 6) rfl (fun j u h => by simpa using h) (Nat.le_refl 1) (by decide)) rfl rfl (by rw [rowC_len]) (fun u hu => row_one [r'] u (by simpa using hu)) (by omega) (by omega) rfl fun vrows' => (TW_on (sub_pick [] (by decide) rfl) ?_))
            repeat (first
              | ((first | refine TW_plain rfl rfl ?_ | refine TW_gmet rfl rfl rfl rfl ?_); first | refine QW QP ?_ | refine QW (rr_nilc rfl) ?_ | refine QW QL ?_ | refine QW QA ?_ | refine QW (rr_nilc rfl) ?_ | refine QW QlT ?_ | refine QW QlF ?_ | refine QW QgT ?_ | refine QW QgF ?_ | refine QW QhT ?_ | refine QW QhF ?_ | refine QW QnT ?_ | refine QW QnF ?_ | refine QW QaA ?_ | refine QW QaS ?_)
              | refine TW_done ?_)
            refine TW_one rfl (TL_slv (i := 1) rfl fun hv1 hv2 => TL_store1 (i := 2) rfl rfl rfl hv1 hv2 rfl (TW_on (sub_pick [] (by decide) rfl) ?_))
            repeat (first
              | ((first | refine TW_plain rfl rfl ?_ | refine TW_gmet rfl rfl rfl rfl ?_); first | refine QW QP ?_ | refine QW QL ?_ | refine QW QA ?_ | refine QW (rr_nilc rfl) ?_ | refine QW QlT ?_ | refine QW QlF ?_ | refine QW QgT ?_ | refine QW QgF ?_ | refine QW QhT ?_ | refine QW QhF ?_ | refine QW QnT ?_ | refine QW QnF ?_ | refine QW QaA ?_ | refine QW QaS ?_)
              | refine TW_done ?_)
            refine E_pick [0, 2, 3, 4, 5, 1] (by decide) rfl ?_
            exact E_mid (vs', vrows', vt') trivial (by repeat' (first | exact True.intro | refine And.intro rfl ?_)) (by dsimp only; rw [row_snocR]; rfl)
      clear hcall
      rintro ⟨vs', vrows', vt'⟩ _
      dsimp only
      refine T_know (i := 2) rfl row_slm fun hrow => ?_
      obtain ⟨ab', cs', rfl, hmS', -⟩ := hrow
      by_cases c2 : 200 < d'.S.length + 1
      · rw [if_pos c2] at i4
        have ho := outD_8 i4.symm
        unfold mkdSp
        rw [ho]
        repeat (first
          | refine QV QP ?_ | refine QZ ?_ | refine qcT rfl ?_ | refine qcF rfl ?_ | refine E_blockX ?_ | refine E_blockO rfl ?_ | refine QV (rr_nilc rfl) ?_
          | refine QV (rr_load1 (v := .slice ab' (d'.S.length + 1) cs') TyC.ty rfl (at_blk (i := 1) rfl rfl)) ?_
          | refine QV (rr_gtr (b := true) rfl rfl (decide_eq_true (by omega))) ?_ | refine QV (rr_build rfl hbz) ?_ | refine QV QL ?_ | refine QV QA ?_
          | refine QV (rr_nilc rfl) ?_ | refine QV QlT ?_ | refine QV QlF ?_ | refine QV QgT ?_ | refine QV QgF ?_ | refine QV QhT ?_ | refine QV QhF ?_
          | refine QV QnT ?_ | refine QV QnF ?_ | refine QV QaA ?_ | refine QV QaS ?_)
        refine TL_storeB (i := 0) rfl rfl rfl rfl rfl rfl ?_
        conv => arg 8; simp only [zA, zB, zC, zD, zE, zF, zG, zH, zI, rowS, ret, id_eq]
        repeat (first
          | refine QV QP ?_ | refine QZ ?_ | refine qcT rfl ?_ | refine qcF rfl ?_ | refine E_blockX ?_ | refine E_blockO rfl ?_ | refine QV QL ?_
          | refine QV QA ?_ | refine QV (rr_nilc rfl) ?_ | refine QV QlT ?_ | refine QV QlF ?_ | refine QV QgT ?_ | refine QV QgF ?_ | refine QV QhT ?_
          | refine QV QhF ?_ | refine QV QnT ?_ | refine QV QnF ?_ | refine QV QaA ?_ | refine QV QaS ?_)
        refine E_nilrow 96 256 (E_nilrow 3 1 ?_)
        exact E_retc2 (i := 0) rfl rfl rfl rfl rfl fun w hm => hm.meets (S := ⟨fun (_ : Value × Value) => True, fun x => .tuple #[dfaV x.1 x.2, .int .i64 8], fun x => [rowO 96 256 x.1 0 [], rowO 3 1 x.2 0 []]⟩) (.slice none 0 0, .slice none 0 0) trivial [6, 7] (by decide) rfl
      · rw [if_neg c2] at i4
        repeat (first
          | refine QV QP ?_ | refine QZ ?_ | refine qcT rfl ?_ | refine qcF rfl ?_ | refine E_blockX ?_ | refine E_blockO rfl ?_ | refine QV (rr_nilc rfl) ?_
          | refine QV (rr_load1 (v := .slice ab' (d'.S.length + 1) cs') TyC.ty rfl (at_blk (i := 1) rfl rfl)) ?_
          | refine QV (rr_gtr (b := false) rfl rfl (decide_eq_false (by omega))) ?_ | refine QV QL ?_ | refine QV QA ?_ | refine QV (rr_nilc rfl) ?_
          | refine QV QlT ?_ | refine QV QlF ?_ | refine QV QgT ?_ | refine QV QgF ?_ | refine QV QhT ?_ | refine QV QhF ?_ | refine QV QnT ?_ | refine QV QnF ?_
          | refine QV QaA ?_ | refine QV QaS ?_)
        exact E_round (n + 1, R ++ [r'], d', .slice ab' (d'.S.length + 1) cs', vrows', vt') ⟨by rw [List.length_append, i0]; rfl, by show n + 1 ≤ d'.S.length + 1; omega, s1, by show d'.S.length + 1 ≤ 200; omega, i4⟩ (by show 201 - (n + 1) < 201 - n; omega) (by repeat' (first | exact True.intro | refine And.intro rfl ?_)) rfl
    · have i5 : makeD m = some (R, d) := by
        rw [← i4, show 201 - n = (201 - (n + 1)) + 1 by omega, make_step, if_neg c1]
      have ho := outD_0 i5
      unfold mkdSp
      rw [ho]
      refine T_know (i := 4) rfl row_slm fun hrow => ?_
      obtain ⟨at', ct', rfl, -⟩ := hrow
      refine T_know (i := 5) rfl row_slm fun hrow => ?_
      obtain ⟨ar', cr', rfl, -⟩ := hrow
      repeat (first
        | refine QV QP ?_ | refine QZ ?_ | refine qcT rfl ?_ | refine qcF rfl ?_ | refine E_blockX ?_ | refine E_blockO rfl ?_ | refine QV (rr_nilc rfl) ?_
        | refine QV (rr_load1 (v := .slice ab (d.S.length + 1) cs) TyC.ty rfl (at_blk (i := 1) rfl rfl)) ?_
        | refine QV (rr_lss (b := false) rfl rfl (decide_eq_false (by omega))) ?_
        | refine QV (rr_loadN (cs := [.slice ar' R.length cr', .slice at' d.tags.length ct']) TyC.ty rfl rfl (fun j v hj => at_blk (i := 1) rfl (dmc_at hj))) ?_
        | refine QV QL ?_ | refine QV QA ?_ | refine QV (rr_nilc rfl) ?_ | refine QV QlT ?_ | refine QV QlF ?_ | refine QV QgT ?_ | refine QV QgF ?_
        | refine QV QhT ?_ | refine QV QhF ?_ | refine QV QnT ?_ | refine QV QnF ?_ | refine QV QaA ?_ | refine QV QaS ?_)
      refine TL_storeB (i := 0) (cs' := #[.slice ar' R.length cr', .slice at' d.tags.length ct']) rfl rfl rfl rfl rfl rfl ?_
      conv => arg 8; simp only [zA, zB, zC, zD, zE, zF, zG, zH, zI, rowS, ret, id_eq]
      repeat (first
        | refine QV QP ?_ | refine QZ ?_ | refine qcT rfl ?_ | refine qcF rfl ?_ | refine E_blockX ?_ | refine E_blockO rfl ?_ | refine QV QL ?_
        | refine QV QA ?_ | refine QV (rr_nilc rfl) ?_ | refine QV QlT ?_ | refine QV QlF ?_ | refine QV QgT ?_ | refine QV QgF ?_ | refine QV QhT ?_
        | refine QV QhF ?_ | refine QV QnT ?_ | refine QV QnF ?_ | refine QV QaA ?_ | refine QV QaS ?_)
      exact E_retc2 (i := 0) rfl rfl rfl rfl rfl fun w hm => hm.meets (S := ⟨fun (_ : Value × Value) => True, fun x => .tuple #[dfaV x.1 x.2, .int .i64 0], fun x => [rowO 96 256 x.1 R.length (R.flatMap rowC), intR x.2 d.tags]⟩) (.slice ar' R.length cr', .slice at' d.tags.length ct') trivial [5, 4] (by decide) rfl
end Go.Proofs.Ytkmemlnkijinlaa.eng

/- Made -/
namespace Go.Proofs.Ytkmemlnkijinlaa.eng
open Go.RowKit kit mix classL rexL placesL dfaP smallL
def mdSp (x : List Row × List Int × Bool) : Spec (Value × Value) := ⟨fun _ => True, fun v => .tuple #[dfaV v.1 v.2, .bool x.2.2], fun v => [rowO 96 256 v.1 x.1.length (x.1.flatMap rowC), intR v.2 x.2.1]⟩
/-- what rules are made into -/
def MadeR (rs : List Rx) (x : List Row × List Int × Bool) : Prop :=
  (∃ k : Int, k ≠ 0 ∧ MakeR rs (k, .zero) ∧ x = ([], [], false)) ∨ ∃ (es : List Re) (m : MS), rs = es.map emb ∧ (∀ e ∈ es, Fit e 1 0) ∧ 0 < es.length ∧ es.length ≤ 20 ∧ loopM 0 .zero es = (0, m) ∧ MakeR rs (0, m) ∧ x = ((outD m).1, (outD m).2.1, decide ((outD m).2.2 = 0))
set_option maxHeartbeats 4000000 in
theorem made_calls (v : Value) (rs : List Rx) (x : List Row × List Int × Bool) (w : World) (hv : SlF rexS (Low w) w v rs) (hx : MadeR rs x) :
    Calls Try.prog 19 #[v] w (Meets (mdSp x) w) := by
  have hvg := fun w' (hg : Gr w w') => slr_gr hv hg
  obtain ⟨bk, ck, rfl, -⟩ := hv
  have hbz := build_dfaz
  rcases hx with ⟨k, hk, hR, rfl⟩ | ⟨es, m, rfl, hfit, h0, h20, hlp, hR, rfl⟩
  · have hmk := fun w' (hg : Gr w w') => make_calls (.slice bk rs.length ck) rs (k, .zero) w' (hvg w' hg) hR
    refine enter (args := [.slice bk rs.length ck]) (n := 23) Try.func19 rfl rfl rfl ?_
    refine T_seq (T_region (TL_new rfl fun g2 => ?_))
    conv => arg 8; simp only [zA, zB, zC, zD, zE, zF, zG, zH, zI, rowS, ret, id_eq]
    repeat (first
      | refine QV QP ?_ | refine QZ ?_ | refine qcT rfl ?_ | refine qcF rfl ?_ | refine QV QeT ?_ | refine QV QeF ?_ | refine QV QnT ?_ | refine QV QnF ?_)
    refine TL_call (he1 EntersC.en rfl rfl) (fun w hm => hmk _ hm.below) rfl rfl rfl ?_
    rintro ⟨vc1, vr1, vf1, vfol1, vl1, ve1, vs1, F1⟩ hx1
    conv => arg 8; simp only [zA, zB, zC, zD, zE, zF, zG, zH, zI, rowS, ret, id_eq, makeSp, posL, posC]
    conv => arg 7; simp only [makeSp, posC]
    refine TL_slv (i := 1) rfl fun _ a1 => TL_slv (i := 2) rfl fun _ a2 => TL_slv (i := 3) rfl fun _ a3 => TL_slv (i := 4) rfl fun _ a4 => TL_slv (i := 6) rfl fun _ a5 => TL_slv (i := 7) rfl fun _ a6 => ?_
    repeat (first
      | refine QV QP ?_ | refine QZ ?_ | refine qcT rfl ?_ | refine qcF rfl ?_ | refine QV QeT ?_ | refine QV QeF ?_ | refine QV QnT ?_ | refine QV QnF ?_)
    refine TL_new rfl fun g4 => ?_
    conv => arg 8; simp only [zA, zB, zC, zD, zE, zF, zG, zH, zI, rowS, ret, id_eq]
    refine TL_storeB (i := 8) (cs' := #[vc1, vr1, vf1, vfol1, vl1, ve1]) rfl rfl rfl rfl (by simp only [List.all_cons, List.all_nil, a1, a2, a3, a4, a5, a6]; rfl) rfl ?_
    conv => arg 8; simp only [zA, zB, zC, zD, zE, zF, zG, zH, zI, rowS, ret, id_eq]
    repeat (first
      | refine QV QP ?_ | refine QZ ?_ | refine qcT rfl ?_ | refine qcF rfl ?_ | refine QV (rr_neq (b := true) rfl rfl (decide_eq_true hk)) ?_
      | refine QV (rr_build rfl hbz) ?_ | refine QV QeT ?_ | refine QV QeF ?_ | refine QV QnT ?_ | refine QV QnF ?_)
    refine TL_storeB (i := 0) rfl rfl rfl rfl rfl rfl ?_
    conv => arg 8; simp only [zA, zB, zC, zD, zE, zF, zG, zH, zI, rowS, ret, id_eq]
    repeat (first
      | refine QV QP ?_ | refine QZ ?_ | refine qcT rfl ?_ | refine qcF rfl ?_ | refine QV QeT ?_ | refine QV QeF ?_ | refine QV QnT ?_ | refine QV QnF ?_)
    refine E_nilrow 96 256 (E_nilrow 3 1 ?_)
    exact E_retc2 (i := 0) rfl rfl rfl rfl rfl fun w hm => hm.meets (S := mdSp ([], [], false)) (.slice none 0 0, .slice none 0 0) trivial [9, 10] (by decide) rfl
  · have hmk := fun w' (hg : Gr w w') => make_calls (.slice bk (es.map emb).length ck) (es.map emb) (0, m) w' (hvg w' hg) hR
    have hok := make_ok h0 h20 hlp
    have hdm := fun v' w' h => dfaMake_calls v' m w' h hok
    unfold mkdSp at hdm
    generalize outD m = D at *
    obtain ⟨R, T, e⟩ := D
    dsimp only at hdm ⊢
    refine enter (args := [.slice bk (es.map emb).length ck]) (n := 23) Try.func19 rfl rfl rfl ?_
    refine T_seq (T_region (TL_new rfl fun g2 => ?_))
    conv => arg 8; simp only [zA, zB, zC, zD, zE, zF, zG, zH, zI, rowS, ret, id_eq]
    repeat (first
      | refine QV QP ?_ | refine QZ ?_ | refine qcT rfl ?_ | refine qcF rfl ?_ | refine QV QeT ?_ | refine QV QeF ?_ | refine QV QnT ?_ | refine QV QnF ?_)
    refine TL_call (he1 EntersC.en rfl rfl) (fun w hm => hmk _ hm.below) rfl rfl rfl ?_
    rintro ⟨vc1, vr1, vf1, vfol1, vl1, ve1, vs1, F1⟩ hx1
    have hx1 : vs1.length = m.ps.follow.length := hx1
    conv => arg 8; simp only [zA, zB, zC, zD, zE, zF, zG, zH, zI, rowS, ret, id_eq, makeSp, posL, posC]
    conv => arg 7; simp only [makeSp, posC]
    refine TL_slv (i := 1) rfl fun _ a1 => TL_slv (i := 2) rfl fun _ a2 => TL_slv (i := 3) rfl fun _ a3 => TL_slv (i := 4) rfl fun _ a4 => TL_slv (i := 6) rfl fun _ a5 => TL_slv (i := 7) rfl fun _ a6 => ?_
    repeat (first
      | refine QV QP ?_ | refine QZ ?_ | refine qcT rfl ?_ | refine qcF rfl ?_ | refine QV QeT ?_ | refine QV QeF ?_ | refine QV QnT ?_ | refine QV QnF ?_)
    refine TL_new rfl fun g4 => ?_
    conv => arg 8; simp only [zA, zB, zC, zD, zE, zF, zG, zH, zI, rowS, ret, id_eq]
    refine TL_storeB (i := 8) (cs' := #[vc1, vr1, vf1, vfol1, vl1, ve1]) rfl rfl rfl rfl (by simp only [List.all_cons, List.all_nil, a1, a2, a3, a4, a5, a6]; rfl) rfl ?_
    conv => arg 8; simp only [zA, zB, zC, zD, zE, zF, zG, zH, zI, rowS, ret, id_eq]
    clear a1 a2 a3 a4 a5 a6
    repeat (first
      | refine QV QP ?_ | refine QZ ?_ | refine qcT rfl ?_ | refine qcF rfl ?_ | refine QV (rr_neq (b := false) rfl rfl (decide_eq_false (by simp))) ?_
      | refine QV (rr_loadB (i := 8) TyC.ty rfl rfl rfl) ?_ | refine QV QeT ?_ | refine QV QeF ?_ | refine QV QnT ?_ | refine QV QnF ?_)
    refine TL_call (he1 EntersC.en rfl rfl) (fun w hm => hdm _ w (hm.posR (x := ⟨vc1, vr1, vf1, vfol1, vl1, ve1, vs1, F1⟩) 1 hx1 rfl (by simp))) rfl rfl rfl ?_
    rintro ⟨vrr, vtt⟩ _
    conv => arg 8; simp only [zA, zB, zC, zD, zE, zF, zG, zH, zI, rowS, ret, id_eq, dfaV]
    conv => arg 7; simp only [dfaV]
    refine TL_slv (i := 9) rfl fun _ a1 => TL_slv (i := 10) rfl fun _ a2 => ?_
    repeat (first
      | refine QV QP ?_ | refine QZ ?_ | refine qcT rfl ?_ | refine qcF rfl ?_ | refine QV QeT ?_ | refine QV QeF ?_ | refine QV QnT ?_ | refine QV QnF ?_)
    refine TL_new rfl fun g6 => ?_
    conv => arg 8; simp only [zA, zB, zC, zD, zE, zF, zG, zH, zI, rowS, ret, id_eq]
    refine TL_storeB (i := 11) (cs' := #[vrr, vtt]) rfl rfl rfl rfl (by simp only [List.all_cons, List.all_nil, a1, a2]; rfl) rfl ?_
    conv => arg 8; simp only [zA, zB, zC, zD, zE, zF, zG, zH, zI, rowS, ret, id_eq]
    repeat (first
      | refine QV QP ?_ | refine QZ ?_ | refine qcT rfl ?_ | refine qcF rfl ?_ | refine QV (rr_loadB (i := 11) TyC.ty rfl rfl rfl) ?_
      | refine QV (rr_eql (b := decide (e = 0)) rfl rfl rfl) ?_ | refine QV QeT ?_ | refine QV QeF ?_ | refine QV QnT ?_ | refine QV QnF ?_)
    refine TL_storeB (i := 0) (cs' := #[vrr, vtt]) rfl rfl rfl rfl (by simp only [List.all_cons, List.all_nil, a1, a2]; rfl) rfl ?_
    conv => arg 8; simp only [zA, zB, zC, zD, zE, zF, zG, zH, zI, rowS, ret, id_eq]
    repeat (first
      | refine QV QP ?_ | refine QZ ?_ | refine qcT rfl ?_ | refine qcF rfl ?_ | refine QV QeT ?_ | refine QV QeF ?_ | refine QV QnT ?_ | refine QV QnF ?_)
    exact E_retc2 (i := 0) rfl rfl rfl rfl rfl fun w hm => hm.meets (S := mdSp (R, T, decide (e = 0))) (vrr, vtt) trivial [9, 10] (by decide) rfl
end Go.Proofs.Ytkmemlnkijinlaa.eng

/- AbcL -/
namespace Go.Proofs.Ytkmemlnkijinlaa.dfaP
open classL rexL placesL smallL
theorem uni_eq {a b c : List Int} (h1 : c.Pairwise (· < ·)) (h2 : ∀ x, (x ∈ a ∨ x ∈ b) ↔ x ∈ c) : uni a b = c :=
  rising_ext (uni_law _ _).1 h1 fun x => by rw [(uni_law _ _).2, h2]
/-- a, ab, blanks -/
def abcE (a b c : C4) : List Re := [.byte a, .cat (.byte a) (.byte b), .cat (.byte c) (.star (.byte c))]
def abcM (a b c : C4) : MS := ⟨⟨[a, a, b, c, c], [0, 1, 1, 2, 2], [[], [2], [], [4], [4]], [true, false, true, true, true]⟩, [0, 1, 3], [false, false, false]⟩
theorem abc_loop (a b c : C4) : loopM 0 .zero (abcE a b c) = (0, abcM a b c) := by
  have u0 : uni [] [0] = [0] := uni_eq (by simp) (by simp)
  have u1 : uni [0] [1] = [0, 1] := uni_eq (by simp) (by simp)
  have u2 : uni [] [2] = [2] := uni_eq (by simp) (by simp)
  have u3 : uni [] [4] = [4] := uni_eq (by simp) (by simp)
  have u4 : uni [3] [4] = [3, 4] := uni_eq (by simp) (by simp)
  have u5 : uni [0, 1] [3] = [0, 1, 3] := uni_eq (by simp) (by simp [or_assoc])
  have s0 : stepM 0 .zero (.byte a) = ⟨⟨[a], [0], [[]], [true]⟩, [0], [false]⟩ := by simp [stepM, nodeF, MS.zero, markF, u0]
  have s1 : stepM 1 ⟨⟨[a], [0], [[]], [true]⟩, [0], [false]⟩ (.cat (.byte a) (.byte b)) = ⟨⟨[a, a, b], [0, 1, 1], [[], [2], []], [true, false, true]⟩, [0, 1], [false, false]⟩ := by
    simp [stepM, nodeF, markF, behindF, u1, u2]
  have s2 : stepM 2 ⟨⟨[a, a, b], [0, 1, 1], [[], [2], []], [true, false, true]⟩, [0, 1], [false, false]⟩ (.cat (.byte c) (.star (.byte c))) = abcM a b c := by
    simp [stepM, nodeF, markF, behindF, u3, u4, u5, abcM]
  unfold abcE
  rw [loopM, s0, if_neg (by simp), loopM, s1, if_neg (by simp), loopM, s2, if_neg (by simp [abcM]), loopM]
def rowB (f : Nat → Int) : Row := Vector.ofFn fun b : Fin 256 => f b
def abcR : List Row := [rowB fun b => if b = 32 then 1 else if b = 97 then 2 else -1, rowB fun b => if b = 32 then 3 else -1, rowB fun b => if b = 98 then 4 else -1, rowB fun b => if b = 32 then 3 else -1, rowB fun _ => -1]
set_option maxRecDepth 1000000 in
theorem abc_make : (makeD (abcM (rangeF 97 97) (rangeF 98 98) (rangeF 32 32))).map (fun x => (x.1, x.2.tags)) = some (abcR, [-1, 2, 0, 2, 1]) := by kernel_rfl
end Go.Proofs.Ytkmemlnkijinlaa.dfaP

/- RexMany -/
namespace Go.Proofs.Ytkmemlnkijinlaa.eng
open Go.RowKit kit mix classL rexL classSets
theorem rexs_of {w : World} {g : Nat} (l : List (Int × C4 × Value × Rx)) (h : (kidO g (l.map fun x => rexC x.1 x.2.1 x.2.2.1)).holds w) (hl : l.length ≤ 100) (hr : ∀ x ∈ l, RexIs (Low w) w (rexC x.1 x.2.1 x.2.2.1) x.2.2.2) :
    SlF rexS (Low w) w (.slice (some ⟨g, 0, none⟩) l.length l.length) (l.map fun x => x.2.2.2) := by
  have hb : w.heap[g]? = some (.cells (l.map fun x => rexC x.1 x.2.1 x.2.2.1).flatten.toArray 63 (0, 0)) := h
  have hm : (l.map fun x => x.2.2.2).length = l.length := List.length_map ..
  refine ⟨some ⟨g, 0, none⟩, l.length, by rw [hm], by rw [hm]; exact Nat.le_refl _, by unfold maxLen; omega, fun _ => ⟨g, 0, rfl, (Array.getElem?_eq_some_iff.1 hb).1, fun i hi => ?_⟩⟩
  have hi' : i < l.length := by omega
  refine ⟨rexC l[i].1 l[i].2.1 l[i].2.2.1, ?_, fun j u hj => ?_⟩
  · have e : (l.map fun x => x.2.2.2)[i] = l[i].2.2.2 := List.getElem_map ..
    rw [e]
    exact hr l[i] (List.getElem_mem hi')
  · rw [cell_of_row w g _ _ _ _ hb, List.getElem?_toArray, Nat.zero_add]
    have hj6 : j < 6 := by have := (List.getElem?_eq_some_iff.1 hj).1; simpa [rexC, clsL] using this
    have := flatten_get (c := 6) (l.map fun x => rexC x.1 x.2.1 x.2.2.1) (fun x hx => by obtain ⟨y, _, rfl⟩ := List.mem_map.1 hx; rfl) i j (by simpa using hi') hj6
    show (l.map fun x => rexC x.1 x.2.1 x.2.2.1).flatten[i * 6 + j]? = some u
    rw [this, List.getElem_map]; exact hj
/-- three -/
theorem rexs_3 {w : World} {g : Nat} {k1 k2 k3 : Int} {c1 c2 c3 : C4} {l1 l2 l3 : List Rx} {v1 v2 v3 : Value} (h : (kidO g [rexC k1 c1 v1, rexC k2 c2 v2, rexC k3 c3 v3]).holds w) (h1 : RexR (Low w) w (rexV k1 c1 v1) (.mk k1 c1 l1)) (h2 : RexR (Low w) w (rexV k2 c2 v2) (.mk k2 c2 l2)) (h3 : RexR (Low w) w (rexV k3 c3 v3) (.mk k3 c3 l3)) :
    SlF rexS (Low w) w (.slice (some ⟨g, 0, none⟩) 3 3) [.mk k1 c1 l1, .mk k2 c2 l2, .mk k3 c3 l3] :=
  rexs_of [(k1, c1, v1, .mk k1 c1 l1), (k2, c2, v2, .mk k2 c2 l2), (k3, c3, v3, .mk k3 c3 l3)] h (by simp) fun x hx => by
    simp only [List.mem_cons, List.not_mem_nil, or_false] at hx
    rcases hx with rfl | rfl | rfl
    · exact rex_cs (r := .mk k1 c1 l1) h1
    · exact rex_cs (r := .mk k2 c2 l2) h2
    · exact rex_cs (r := .mk k3 c3 l3) h3
end Go.Proofs.Ytkmemlnkijinlaa.eng

/- Abc -/
namespace Go.Proofs.Ytkmemlnkijinlaa.eng
open Go.RowKit kit mix classL rexL placesL dfaP smallL classSets
def abcT : List Int := [-1, 2, 0, 2, 1]
theorem abc_chk : chk abcR abcT = 0 := by kernel_rfl
theorem abc_out : outD (abcM (rangeF 97 97) (rangeF 98 98) (rangeF 32 32)) = (abcR, abcT, 0) := by
  have h := abc_make
  cases hd : makeD (abcM (rangeF 97 97) (rangeF 98 98) (rangeF 32 32)) with
  | none => rw [hd] at h; cases h
  | some x =>
    rw [hd] at h
    simp only [Option.map_some, Option.some.injEq, Prod.mk.injEq] at h
    obtain ⟨R, d⟩ := x
    have h1 : R = abcR := h.1
    have h2 : d.tags = [-1, 2, 0, 2, 1] := h.2
    rw [outD_0 hd, h1, h2]; rfl
theorem abc_fit (a b c : C4) (ha : a ≠ C4.zero) (hb : b ≠ C4.zero) (hc : c ≠ C4.zero) : ∀ e ∈ abcE a b c, Fit e 1 0 := by
  intro e he
  simp only [abcE, List.mem_cons, List.not_mem_nil, or_false] at he
  rcases he with rfl | rfl | rfl
  · exact ⟨ha, by simp [Re.size], by simp [Re.hgt]⟩
  · exact ⟨⟨ha, hb⟩, by simp [Re.size], by simp [Re.hgt]⟩
  · exact ⟨⟨hc, hc⟩, by simp [Re.size], by simp [Re.hgt]⟩
theorem abc_made : MadeR ((abcE (rangeF 97 97) (rangeF 98 98) (rangeF 32 32)).map emb) (abcR, abcT, true) := by
  have hf := abc_fit (rangeF 97 97) (rangeF 98 98) (rangeF 32 32) (letter_nz (b := 97) (by decide)) (letter_nz (b := 98) (by decide)) (letter_nz (b := 32) (by decide))
  refine .inr ⟨_, _, rfl, hf, by simp [abcE], by simp [abcE], abc_loop _ _ _, ?_, by rw [abc_out]; rfl⟩
  rw [← abc_loop]
  exact make_fit (by simp [abcE]) (by simp [abcE]) hf
def abcS : Spec (Nat × (Nat → Value) × Value) := ⟨fun _ => True, fun x => pkV (ofS abcR 256) (.slice (some ⟨x.1, 0, none⟩) abcR.length abcR.length) x.2.2,
  fun x => [rowA 24 valV x.1 abcR.length x.2.1, nxO abcR.length (pkD abcR 256) x.2.1, rowO 3 1 x.2.2 abcT.length (abcT.flatMap kit.intC)]⟩
set_option maxRecDepth 100000 in
set_option maxHeartbeats 8000000 in
theorem abc_calls (w : World) : Calls Try.prog 6 #[] w (Meets abcS w) := by
  have la := fun w => letter_calls 97 w ⟨by decide, by decide⟩
  have lb := fun w => letter_calls 98 w ⟨by decide, by decide⟩
  have lc := fun w => letter_calls 32 w ⟨by decide, by decide⟩
  have ok3 : kit.okI64 3 := ⟨by decide, by decide⟩
  have ok4 : kit.okI64 4 := ⟨by decide, by decide⟩
  have hmd := fun g w' h => made_calls (.slice (some ⟨g, 0, none⟩) 3 3) _ _ w' h abc_made
  have hpk := fun vr vt w' h => pack_calls vr vt abcR abcT w' h abc_chk
  unfold packS at hpk
  unfold abcS
  have hR5 : abcR.length = 5 := rfl
  have hck := abc_chk
  generalize abcR = R at *
  generalize abcT = T at *
  unfold abcE at hmd
  generalize classL.rangeF 97 97 = ca at *
  generalize classL.rangeF 98 98 = cb at *
  generalize classL.rangeF 32 32 = cc at *
  have hmd : ∀ (g : Nat) (w' : World), SlF rexS (Low w') w' (.slice (some ⟨g, 0, none⟩) 3 3) [.mk 3 ca [], .mk 4 C4.zero [.mk 3 ca [], .mk 3 cb []], .mk 4 C4.zero [.mk 3 cc [], .mk 6 C4.zero [.mk 3 cc []]]] → Calls Try.prog 19 #[.slice (some ⟨g, 0, none⟩) 3 3] w' (Meets (mdSp (R, T, true)) w') := hmd
  refine enter (args := []) (n := 24) Try.func6 rfl rfl rfl ?_
  refine T_seq (T_region (TL_new rfl fun g0 => ?_))
  rw [zero_pk]
  conv => arg 8; simp only [zA, zB, zC, zD, zE, zF, zG, zH, zI, rowS, ret, id_eq]
  repeat (first
    | refine QV QP ?_ | refine QZ ?_)
  refine TL_call (he1 EntersC.en rfl rfl) (fun w hm => la _) rfl rfl rfl ?_
  intro _ _
  conv => arg 8; simp only [zA, zB, zC, zD, zE, zF, zG, zH, zI, rowS, ret, id_eq]
  repeat (first
    | refine QV QP ?_ | refine QZ ?_)
  refine TL_call (he1 EntersC.en rfl rfl) (fun w hm => la _) rfl rfl rfl ?_
  intro _ _
  conv => arg 8; simp only [zA, zB, zC, zD, zE, zF, zG, zH, zI, rowS, ret, id_eq]
  repeat (first
    | refine QV QP ?_ | refine QZ ?_)
  refine TL_call (he1 EntersC.en rfl rfl) (fun w hm => lb _) rfl rfl rfl ?_
  intro _ _
  conv => arg 8; simp only [zA, zB, zC, zD, zE, zF, zG, zH, zI, rowS, ret, id_eq]
  repeat (first
    | refine QV QP ?_ | refine QZ ?_)
  refine TL_call (he3 EntersC.en rfl rfl rfl rfl) (fun w hm => two_calls 4 3 3 ca cb none none 0 0 0 0 w) rfl rfl rfl ?_
  intro g9 _
  conv => arg 8; simp only [zA, zB, zC, zD, zE, zF, zG, zH, zI, rowS, ret, id_eq, twoS]
  repeat (first
    | refine QV QP ?_ | refine QZ ?_)
  refine TL_call (he1 EntersC.en rfl rfl) (fun w hm => lc _) rfl rfl rfl ?_
  intro _ _
  conv => arg 8; simp only [zA, zB, zC, zD, zE, zF, zG, zH, zI, rowS, ret, id_eq]
  repeat (first
    | refine QV QP ?_ | refine QZ ?_)
  refine TL_call (he1 EntersC.en rfl rfl) (fun w hm => lc _) rfl rfl rfl ?_
  intro _ _
  conv => arg 8; simp only [zA, zB, zC, zD, zE, zF, zG, zH, zI, rowS, ret, id_eq]
  repeat (first
    | refine QV QP ?_ | refine QZ ?_)
  refine TL_call (he1 EntersC.en rfl rfl) (fun w hm => star_calls 3 cc none 0 0 w) rfl rfl rfl ?_
  intro g12 _
  conv => arg 8; simp only [zA, zB, zC, zD, zE, zF, zG, zH, zI, rowS, ret, id_eq, starS]
  repeat (first
    | refine QV QP ?_ | refine QZ ?_)
  refine TL_call (he3 EntersC.en rfl rfl rfl rfl) (fun w hm => two_calls 4 3 6 cc C4.zero none (some ⟨g12, 0, none⟩) 0 1 0 1 w) rfl rfl rfl ?_
  intro g13 _
  conv => arg 8; simp only [zA, zB, zC, zD, zE, zF, zG, zH, zI, rowS, ret, id_eq, twoS]
  repeat (first
    | refine QV QP ?_ | refine QZ ?_)
  refine TL_litN (cs := [rexC 3 ca (.slice none 0 0), rexC 4 C4.zero (.slice (some ⟨g9, 0, none⟩) 2 2), rexC 4 C4.zero (.slice (some ⟨g13, 0, none⟩) 2 2)].flatten.toArray) [rexV 3 ca (.slice none 0 0), rexV 4 C4.zero (.slice (some ⟨g9, 0, none⟩) 2 2), rexV 4 C4.zero (.slice (some ⟨g13, 0, none⟩) 2 2)] rfl rfl rfl (by intro v hv; simp only [List.mem_cons, List.not_mem_nil, or_false] at hv; rcases hv with rfl | rfl | rfl <;> rfl) rfl rfl rfl fun g14 => ?_
  conv => arg 8; simp only [zA, zB, zC, zD, zE, zF, zG, zH, zI, rowS, ret, id_eq]
  refine TL_call (he1 EntersC.en rfl rfl) (fun w hm => hmd g14 w (rexs_3 (hm.get (i := 4) rfl) (leaf_rex ok3) (two_rexK ok4 (hm.get (i := 1) rfl) (leaf_rex ok3) (leaf_rex ok3)) (two_rexK ok4 (hm.get (i := 3) rfl) (leaf_rex ok3) (star_rexK (hm.get (i := 2) rfl) (leaf_rex ok3))))) rfl rfl rfl ?_
  rintro ⟨vrr, vtt⟩ _
  conv => arg 8; simp only [zA, zB, zC, zD, zE, zF, zG, zH, zI, rowS, ret, id_eq, mdSp, dfaV]
  conv => arg 7; simp only [mdSp, dfaV]
  refine TL_pick [0, 5, 6] (by decide) rfl ?_
  refine TL_slv (i := 1) rfl fun _ a1 => TL_slv (i := 2) rfl fun _ a2 => ?_
  repeat (first
    | refine QV QP ?_ | refine QZ ?_)
  refine TL_new rfl fun g1 => ?_
  conv => arg 8; simp only [zA, zB, zC, zD, zE, zF, zG, zH, zI, rowS, ret, id_eq]
  refine TL_storeB (i := 3) (cs' := #[vrr, vtt]) rfl rfl rfl rfl (by simp only [List.all_cons, List.all_nil, a1, a2]; rfl) rfl ?_
  conv => arg 8; simp only [zA, zB, zC, zD, zE, zF, zG, zH, zI, rowS, ret, id_eq]
  clear hmd
  repeat (first
    | refine QV QP ?_ | refine QZ ?_ | refine QV (rr_loadB (i := 3) TyC.ty rfl rfl rfl) ?_)
  refine TL_call (he1 EntersC.en rfl rfl) (fun w hm => hpk _ _ w (hm.dfaM (i := 1) (j := 2) rfl (by rw [int_flat]; rfl) hck)) rfl rfl rfl ?_
  rintro ⟨gN, vs, vT⟩ _
  conv => arg 8; simp only [zA, zB, zC, zD, zE, zF, zG, zH, zI, rowS, ret, id_eq]
  refine TL_slv (i := 6) rfl fun _ a3 => ?_
  repeat (first
    | refine QV QP ?_ | refine QZ ?_)
  refine TL_new rfl fun g3 => ?_
  rw [zero_pk]
  conv => arg 8; simp only [zA, zB, zC, zD, zE, zF, zG, zH, zI, rowS, ret, id_eq]
  refine TL_storeB (i := 7) (cs' := (pkC (ofS R 256) (.slice (some ⟨gN, 0, none⟩) R.length R.length) vT).toArray) rfl rfl rfl (pk_size _ _ _) (pk_one _ rfl a3) (pk_size _ _ _) ?_
  conv => arg 8; simp only [zA, zB, zC, zD, zE, zF, zG, zH, zI, rowS, ret, id_eq]
  repeat (first
    | refine QV QP ?_ | refine QZ ?_ | refine QV (rr_loadB (i := 7) TyC.ty rfl rfl (pk_size _ _ _)) ?_)
  refine TL_storeB (i := 0) (cs' := (pkC (ofS R 256) (.slice (some ⟨gN, 0, none⟩) R.length R.length) vT).toArray) rfl rfl rfl (pk_size _ _ _) (pk_one _ rfl a3) (pk_size _ _ _) ?_
  conv => arg 8; simp only [zA, zB, zC, zD, zE, zF, zG, zH, zI, rowS, ret, id_eq]
  repeat (first
    | refine QV QP ?_ | refine QZ ?_)
  exact E_retc1 (i := 0) rfl rfl rfl (pk_size _ _ _) fun w hm => hm.meets (S := ⟨fun (_ : Nat × (Nat → Value) × Value) => True, fun x => pkV (ofS R 256) (.slice (some ⟨x.1, 0, none⟩) R.length R.length) x.2.2, fun x => [rowA 24 valV x.1 R.length x.2.1, nxO R.length (pkD R 256) x.2.1, rowO 3 1 x.2.2 T.length (T.flatMap kit.intC)]⟩) (gN, vs, vT) trivial [4, 5, 6] (by decide) rfl
end Go.Proofs.Ytkmemlnkijinlaa.eng

/- FeedD -/
namespace Go.Proofs.Ytkmemlnkijinlaa.lexL
open Go.RowKit kit mix eng smallL dfaP
end Go.Proofs.Ytkmemlnkijinlaa.lexL
namespace Go.Proofs.Ytkmemlnkijinlaa.eng
open Go.RowKit kit mix smallL lexL
set_option maxHeartbeats 4000000 in
theorem feedErr_calls (o : Of) (vn vt : Value) (N : List (List Int)) (tags : List Int) (a : Int) (u : List UInt8) (e : Int) (s : List UInt8) (c : Int) (w : World) (h : PkI w vn vt N tags) (ho : ∀ b (h : b < 256), o[b] < 256) (hu : u.length ≤ 9223372036854775807) (hc : (chkH (chkP o N tags) a u e ≠ 0 ∧ c = chkH (chkP o N tags) a u e) ∨ (chkH (chkP o N tags) a u e = 0 ∧ 2000 < s.length ∧ c = 2)) (hs : s.length ≤ 9223372036854775807) :
    Calls Try.prog 11 #[pkV o vn vt, .agg (heldC a u e).toArray, str s] w (Meets (ret (.tuple #[.agg (heldC a u e).toArray, .slice none 0 0, .int .i64 c])) w) := by
  have hck := fun w' (hg : Gr w w') => feedCheck_calls o vn vt N tags a u e w' (h.gr hg) ho hu
  obtain ⟨⟨an, cn, rfl, -⟩, at', ct, rfl, -⟩ := h
  generalize chkH (chkP o N tags) a u e = x at *
  refine enter (args := [pkV o (.slice an N.length cn) (.slice at' tags.length ct), .agg (heldC a u e).toArray, str s]) (n := 79) Try.func11 rfl rfl rfl ?_
  refine T_seq (T_region (TL_box rfl rfl rfl fun g3 => TL_box rfl rfl rfl fun g4 => TL_new rfl fun g6 => ?_))
  conv => arg 8; simp only [zA, zB, zC, zD, zE, zF, zG, zH, zI, rowS, ret, id_eq]
  repeat (first
    | refine qv rfl (qp rfl) rfl rfl ?_ | refine TL_nil ?_ | refine T_seq ?_ | refine T_region ?_ | refine qcT rfl ?_ | refine qcF rfl ?_ | refine T_skip ?_
    | refine T_exit ?_ | refine T_ret ?_ | refine T_block ?_ | refine E_then ?_ | refine E_thenX ?_ | refine E_thenR ?_ | refine E_blockN ?_
    | refine E_blockR ?_ | refine E_blockX ?_ | refine E_blockO rfl ?_ | refine qv rfl (rr_loadB (i := 0) TyC.ty rfl rfl (pk_size _ _ _)) rfl rfl ?_
    | refine qv rfl (rr_loadB (i := 1) TyC.ty rfl rfl rfl) rfl rfl ?_ | refine qv rfl (rr_strlen Und.eq rfl) rfl rfl ?_
    | refine qv rfl (qfld FldC.fld rfl rfl) rfl rfl ?_ | refine qv rfl (rr_not rfl rfl) rfl rfl ?_
    | refine qv rfl (rr_lss rfl rfl (qT (by omega))) rfl rfl ?_ | refine qv rfl (rr_lss rfl rfl (qF (by omega))) rfl rfl ?_
    | refine qv rfl (rr_gtr rfl rfl (qT (by omega))) rfl rfl ?_ | refine qv rfl (rr_gtr rfl rfl (qF (by omega))) rfl rfl ?_
    | refine qv rfl (rr_eql rfl rfl (qT (by omega))) rfl rfl ?_ | refine qv rfl (rr_eql rfl rfl (qF (by omega))) rfl rfl ?_
    | refine qv rfl (rr_neq rfl rfl (qT (by omega))) rfl rfl ?_ | refine qv rfl (rr_neq rfl rfl (qF (by omega))) rfl rfl ?_
    | refine qv rfl (rr_add64 rfl rfl (by omega) (by omega) rfl) rfl rfl ?_)
  refine TL_call (he2 EntersC.en rfl rfl rfl) (fun w hm => hck _ hm.below) rfl rfl rfl ?_
  intro _ _
  conv => arg 8; simp only [zA, zB, zC, zD, zE, zF, zG, zH, zI, rowS, ret, id_eq]
  clear hck
  rcases hc with ⟨h1, rfl⟩ | ⟨rfl, h2, rfl⟩
  · repeat (first
      | refine qv rfl (qp rfl) rfl rfl ?_ | refine TL_nil ?_ | refine T_seq ?_ | refine T_region ?_ | refine qcT rfl ?_ | refine qcF rfl ?_ | refine T_skip ?_
      | refine T_exit ?_ | refine T_ret ?_ | refine T_block ?_ | refine E_then ?_ | refine E_thenX ?_ | refine E_thenR ?_ | refine E_blockN ?_
      | refine E_blockR ?_ | refine E_blockX ?_ | refine E_blockO rfl ?_ | refine qv rfl (rr_neq (b := true) rfl rfl (decide_eq_true h1)) rfl rfl ?_
      | refine qv rfl (rr_loadB (i := 1) TyC.ty rfl rfl rfl) rfl rfl ?_ | refine qv rfl (rr_strlen Und.eq rfl) rfl rfl ?_
      | refine qv rfl (qfld FldC.fld rfl rfl) rfl rfl ?_ | refine qv rfl (rr_not rfl rfl) rfl rfl ?_
      | refine qv rfl (rr_lss rfl rfl (qT (by omega))) rfl rfl ?_ | refine qv rfl (rr_lss rfl rfl (qF (by omega))) rfl rfl ?_
      | refine qv rfl (rr_gtr rfl rfl (qT (by omega))) rfl rfl ?_ | refine qv rfl (rr_gtr rfl rfl (qF (by omega))) rfl rfl ?_
      | refine qv rfl (rr_eql rfl rfl (qT (by omega))) rfl rfl ?_ | refine qv rfl (rr_eql rfl rfl (qF (by omega))) rfl rfl ?_
      | refine qv rfl (rr_neq rfl rfl (qT (by omega))) rfl rfl ?_ | refine qv rfl (rr_neq rfl rfl (qF (by omega))) rfl rfl ?_
      | refine qv rfl (rr_add64 rfl rfl (by omega) (by omega) rfl) rfl rfl ?_)
    refine TL_storeB (i := 2) (cs' := (heldC a u e).toArray) rfl rfl rfl rfl rfl rfl ?_
    conv => arg 8; simp only [zA, zB, zC, zD, zE, zF, zG, zH, zI, rowS, ret, id_eq]
    repeat (first
      | refine qv rfl (qp rfl) rfl rfl ?_ | refine TL_nil ?_ | refine T_seq ?_ | refine T_region ?_ | refine qcT rfl ?_ | refine qcF rfl ?_ | refine T_skip ?_
      | refine T_exit ?_ | refine T_ret ?_ | refine T_block ?_ | refine E_then ?_ | refine E_thenX ?_ | refine E_thenR ?_ | refine E_blockN ?_
      | refine E_blockR ?_ | refine E_blockX ?_ | refine E_blockO rfl ?_ | refine qv rfl (rr_strlen Und.eq rfl) rfl rfl ?_
      | refine qv rfl (qfld FldC.fld rfl rfl) rfl rfl ?_ | refine qv rfl (rr_not rfl rfl) rfl rfl ?_
      | refine qv rfl (rr_lss rfl rfl (qT (by omega))) rfl rfl ?_ | refine qv rfl (rr_lss rfl rfl (qF (by omega))) rfl rfl ?_
      | refine qv rfl (rr_gtr rfl rfl (qT (by omega))) rfl rfl ?_ | refine qv rfl (rr_gtr rfl rfl (qF (by omega))) rfl rfl ?_
      | refine qv rfl (rr_eql rfl rfl (qT (by omega))) rfl rfl ?_ | refine qv rfl (rr_eql rfl rfl (qF (by omega))) rfl rfl ?_
      | refine qv rfl (rr_neq rfl rfl (qT (by omega))) rfl rfl ?_ | refine qv rfl (rr_neq rfl rfl (qF (by omega))) rfl rfl ?_
      | refine qv rfl (rr_add64 rfl rfl (by omega) (by omega) rfl) rfl rfl ?_)
    exact E_retc3 (i := 2) rfl rfl rfl rfl rfl rfl fun w hm => hm.ret
  · repeat (first
      | refine qv rfl (qp rfl) rfl rfl ?_ | refine TL_nil ?_ | refine T_seq ?_ | refine T_region ?_ | refine qcT rfl ?_ | refine qcF rfl ?_ | refine T_skip ?_
      | refine T_exit ?_ | refine T_ret ?_ | refine T_block ?_ | refine E_then ?_ | refine E_thenX ?_ | refine E_thenR ?_ | refine E_blockN ?_
      | refine E_blockR ?_ | refine E_blockX ?_ | refine E_blockO rfl ?_ | refine qv rfl (rr_neq (b := false) rfl rfl (decide_eq_false (by decide))) rfl rfl ?_
      | refine qv rfl (rr_gtr (b := true) rfl rfl (decide_eq_true (by omega))) rfl rfl ?_ | refine qv rfl (rr_loadB (i := 1) TyC.ty rfl rfl rfl) rfl rfl ?_
      | refine qv rfl (rr_strlen Und.eq rfl) rfl rfl ?_ | refine qv rfl (qfld FldC.fld rfl rfl) rfl rfl ?_ | refine qv rfl (rr_not rfl rfl) rfl rfl ?_
      | refine qv rfl (rr_lss rfl rfl (qT (by omega))) rfl rfl ?_ | refine qv rfl (rr_lss rfl rfl (qF (by omega))) rfl rfl ?_
      | refine qv rfl (rr_gtr rfl rfl (qT (by omega))) rfl rfl ?_ | refine qv rfl (rr_gtr rfl rfl (qF (by omega))) rfl rfl ?_
      | refine qv rfl (rr_eql rfl rfl (qT (by omega))) rfl rfl ?_ | refine qv rfl (rr_eql rfl rfl (qF (by omega))) rfl rfl ?_
      | refine qv rfl (rr_neq rfl rfl (qT (by omega))) rfl rfl ?_ | refine qv rfl (rr_neq rfl rfl (qF (by omega))) rfl rfl ?_
      | refine qv rfl (rr_add64 rfl rfl (by omega) (by omega) rfl) rfl rfl ?_)
    refine TL_storeB (i := 2) (cs' := (heldC a u e).toArray) rfl rfl rfl rfl rfl rfl ?_
    conv => arg 8; simp only [zA, zB, zC, zD, zE, zF, zG, zH, zI, rowS, ret, id_eq]
    repeat (first
      | refine qv rfl (qp rfl) rfl rfl ?_ | refine TL_nil ?_ | refine T_seq ?_ | refine T_region ?_ | refine qcT rfl ?_ | refine qcF rfl ?_ | refine T_skip ?_
      | refine T_exit ?_ | refine T_ret ?_ | refine T_block ?_ | refine E_then ?_ | refine E_thenX ?_ | refine E_thenR ?_ | refine E_blockN ?_
      | refine E_blockR ?_ | refine E_blockX ?_ | refine E_blockO rfl ?_ | refine qv rfl (rr_strlen Und.eq rfl) rfl rfl ?_
      | refine qv rfl (qfld FldC.fld rfl rfl) rfl rfl ?_ | refine qv rfl (rr_not rfl rfl) rfl rfl ?_
      | refine qv rfl (rr_lss rfl rfl (qT (by omega))) rfl rfl ?_ | refine qv rfl (rr_lss rfl rfl (qF (by omega))) rfl rfl ?_
      | refine qv rfl (rr_gtr rfl rfl (qT (by omega))) rfl rfl ?_ | refine qv rfl (rr_gtr rfl rfl (qF (by omega))) rfl rfl ?_
      | refine qv rfl (rr_eql rfl rfl (qT (by omega))) rfl rfl ?_ | refine qv rfl (rr_eql rfl rfl (qF (by omega))) rfl rfl ?_
      | refine qv rfl (rr_neq rfl rfl (qT (by omega))) rfl rfl ?_ | refine qv rfl (rr_neq rfl rfl (qF (by omega))) rfl rfl ?_
      | refine qv rfl (rr_add64 rfl rfl (by omega) (by omega) rfl) rfl rfl ?_)
    exact E_retc3 (i := 2) rfl rfl rfl rfl rfl rfl fun w hm => hm.ret
end Go.Proofs.Ytkmemlnkijinlaa.eng

/- FeedE -/
namespace Go.Proofs.Ytkmemlnkijinlaa.lexL
open Go.RowKit kit mix eng smallL dfaP
theorem feed_small {o : Of} {N : List (List Int)} {tags : List Int} : ∀ (s : List UInt8) (a : Nat) (u : List UInt8), u.length ≤ 64 → (feedGo o N tags s a u).2.2.1.length ≤ 64 ∧ ((feedGo o N tags s a u).2.2.2 = 0 ∨ (feedGo o N tags s a u).2.2.2 = 9 ∨ (feedGo o N tags s a u).2.2.2 = 10)
  | [], _, _, h => ⟨h, .inl rfl⟩
  | b :: s, a, u, h => by
    rw [feedGo_cons]
    generalize drainF o N tags (u.length + 2) a (u ++ [b]) = D at *
    by_cases c1 : D.2.2.2 ≠ 0
    · rw [if_pos c1]; exact ⟨Nat.zero_le _, .inr (.inl rfl)⟩
    · rw [if_neg c1]
      by_cases c2 : 64 < D.2.2.1.length
      · rw [if_pos c2]; exact ⟨Nat.zero_le _, .inr (.inr rfl)⟩
      · rw [if_neg c2]; exact feed_small s _ _ (by omega)
end Go.Proofs.Ytkmemlnkijinlaa.lexL

/- FeedP -/
namespace Go.Proofs.Ytkmemlnkijinlaa.lexL
open Go.RowKit kit mix eng smallL
/-! ### bounds -/
theorem drain_cnt {o : Of} {N : List (List Int)} {tags : List Int} : ∀ (f a : Nat) (u : List UInt8), (drainF o N tags f a u).1.length + a ≤ (drainF o N tags f a u).2.1
  | 0, a, _ => by show 0 + a ≤ a; omega
  | f + 1, a, u => by
    rw [drain_succ]
    by_cases c : (lookF o N tags u).2 = true
    · rw [if_pos c]
      by_cases c2 : (lookF o N tags u).1.2 = 0
      · rw [if_pos c2]; show 0 + a ≤ a; omega
      · rw [if_neg c2]
        have ih := drain_cnt (o := o) (N := N) (tags := tags) f (a + (lookF o N tags u).1.2) (u.drop (lookF o N tags u).1.2)
        dsimp only [List.length_cons]
        omega
    · rw [if_neg c]; show 0 + a ≤ a; omega
theorem feed_cnt {o : Of} {N : List (List Int)} {tags : List Int} : ∀ (s : List UInt8) (a : Nat) (u : List UInt8), (feedGo o N tags s a u).1.length + a ≤ (feedGo o N tags s a u).2.1 ∧ (feedGo o N tags s a u).2.1 + (feedGo o N tags s a u).2.2.1.length ≤ a + u.length + s.length
  | [], a, u => ⟨by show 0 + a ≤ a; omega, by show a + u.length ≤ a + u.length + 0; omega⟩
  | b :: s, a, u => by
    have h1 := drain_cnt (o := o) (N := N) (tags := tags) (u.length + 2) a (u ++ [b])
    have hk := drain_keep (o := o) (N := N) (tags := tags) (u.length + 2) a (u ++ [b]) (by rw [List.length_append]; exact Nat.lt_succ_self _)
    have hl : (u ++ [b]).length = u.length + 1 := by rw [List.length_append]; rfl
    rw [feedGo_cons]
    generalize drainF o N tags (u.length + 2) a (u ++ [b]) = D at *
    obtain ⟨d1, d2, d3, d4⟩ := D
    dsimp only at h1 hk ⊢
    rw [List.length_cons]
    rw [hl] at hk
    by_cases c1 : d4 ≠ 0
    · rw [if_pos c1]
      exact ⟨h1, by show d2 + 0 ≤ _; omega⟩
    · rw [if_neg c1]
      by_cases c2 : 64 < d3.length
      · rw [if_pos c2]
        exact ⟨h1, by show d2 + 0 ≤ _; omega⟩
      · rw [if_neg c2]
        have ih := feed_cnt (o := o) (N := N) (tags := tags) s d2 d3
        have h3 : d3.length = u.length + 1 - (d2 - a) := by rw [hk.2.2.1, List.length_drop, hl]
        dsimp only
        rw [List.length_append]
        omega
end Go.Proofs.Ytkmemlnkijinlaa.lexL

/- TkE -/
namespace Go.Proofs.Ytkmemlnkijinlaa.eng
open Go.RowKit kit mix lexL
theorem TkE_len (a : lexL.Tok) : (tokC a).length = 3 := rfl
theorem eq_tok (a b : Tok) (w : World) : (Op.equalIn 10000 36 (.agg (tokC a).toArray) (.agg (tokC b).toArray)).run Try.prog w = .ok (decide (a = b)) w := by
  obtain ⟨a1, a2, a3⟩ := a
  obtain ⟨b1, b2, b3⟩ := b
  unfold tokC
  go_simp
  have i2 : ((a2 : Int) = (b2 : Int)) ↔ a2 = b2 := by omega
  have i3 : ((a3 : Int) = (b3 : Int)) ↔ a3 = b3 := by omega
  by_cases e1 : a1 = b1 <;> by_cases e2 : a2 = b2 <;> by_cases e3 : a3 = b3 <;> simp [e1, i2, i3, e2, e3]
set_option maxHeartbeats 2000000 in
theorem equalTkE_calls (v v' : Value) (l l' : List lexL.Tok) (w : World) (hs : Sl w v l.length (l.flatMap tokC)) (hs' : Sl w v' l'.length (l'.flatMap tokC)) :
    Calls Try.prog 9 #[v, v'] w (Meets (ret (.bool (decide (l = l')))) w) := by
  obtain ⟨base, cap, rfl, hcap, hmax, hrd⟩ := hs
  obtain ⟨base', cap', rfl, hcap', hmax', hrd'⟩ := hs'
  unfold maxLen at hmax hmax'
  refine enter (args := [.slice base l.length cap, .slice base' l'.length cap']) (n := 26) Try.func9 rfl rfl rfl ?_
  by_cases c1 : l.length = l'.length
  · repeat (first
      | refine qv rfl (qp rfl) rfl rfl ?_ | refine TL_nil ?_ | refine T_seq ?_ | refine T_region ?_ | refine qcT rfl ?_ | refine qcF rfl ?_ | refine T_skip ?_
      | refine T_exit ?_ | refine T_ret ?_ | refine T_block ?_ | refine E_then ?_ | refine E_thenX ?_ | refine E_thenR ?_ | refine E_blockN ?_
      | refine E_blockR ?_ | refine E_blockX ?_ | refine E_blockO rfl ?_ | refine qv rfl (qlen Und.eq rfl) rfl rfl ?_
      | refine qv rfl (rr_lss rfl rfl (qT (by omega))) rfl rfl ?_ | refine qv rfl (rr_lss rfl rfl (qF (by omega))) rfl rfl ?_
      | refine qv rfl (rr_neq rfl rfl (qT (by omega))) rfl rfl ?_ | refine qv rfl (rr_neq rfl rfl (qF (by omega))) rfl rfl ?_
      | refine qv rfl (rr_add64 rfl rfl (by omega) (by omega) rfl) rfl rfl ?_)
    refine T_loop (ι := Nat) (fun k => k ≤ l.length ∧ l.take k = l'.take k) (fun k => [(0, .slice base l.length cap), (1, .slice base' l'.length cap'), (12, .int .i64 l.length), (13, .int .i64 (k : Int))]) (fun _ => []) (fun k => l.length - k) 0 ⟨by omega, rfl⟩ ⟨rfl, rfl, rfl, rfl, trivial⟩ rfl ?_
    rintro k ⟨h1, h2⟩
    by_cases c2 : k < l.length
    · obtain ⟨b, off, rfl, hr⟩ := hrd (by omega)
      obtain ⟨b', off', rfl, hr'⟩ := hrd' (by omega)
      have c2' : k < l'.length := by omega
      have hat := at_el (L := ([] : List Own)) TkE_len hr c2
      have hat' := at_el (L := ([] : List Own)) TkE_len hr' c2'
      have heq := eq_tok l[k] l'[k]
      by_cases c3 : l[k] = l'[k]
      · rw [decide_eq_true c3] at heq
        repeat (first
          | refine qv rfl (qp rfl) rfl rfl ?_ | refine TL_nil ?_ | refine T_seq ?_ | refine T_region ?_ | refine qcT rfl ?_ | refine qcF rfl ?_ | refine T_skip ?_
          | refine T_exit ?_ | refine T_ret ?_ | refine T_block ?_ | refine E_then ?_ | refine E_thenX ?_ | refine E_thenR ?_ | refine E_blockN ?_
          | refine E_blockR ?_ | refine E_blockX ?_ | refine E_blockO rfl ?_ | refine qv rfl (qlen Und.eq rfl) rfl rfl ?_
          | refine qv rfl (rr_lss rfl rfl (qT (by omega))) rfl rfl ?_ | refine qv rfl (rr_lss rfl rfl (qF (by omega))) rfl rfl ?_
          | refine qv rfl (rr_neq rfl rfl (qT (by omega))) rfl rfl ?_ | refine qv rfl (rr_neq rfl rfl (qF (by omega))) rfl rfl ?_
          | refine qv rfl (rr_add64 rfl rfl (by omega) (by omega) rfl) rfl rfl ?_)
        refine T_draw 8 (List.replicate 8 true) rfl (by kernel_rfl) (by kernel_rfl) (by intro c a d v w h; cases d <;> exact h) ?_
        repeat (first
          | refine TM_valg rfl (qp rfl) rfl rfl ?_ | refine TM_valg rfl (rr_idxc Und.eq TyC.ty rfl rfl c2) rfl rfl ?_
          | refine TM_valg rfl (rr_idxc Und.eq TyC.ty rfl rfl c2') rfl rfl ?_ | refine TM_valg rfl (rr_loadN TyC.ty rfl rfl hat) rfl rfl ?_
          | refine TM_valg rfl (rr_loadN TyC.ty rfl rfl hat') rfl rfl ?_ | refine TM_valg rfl (qlen Und.eq rfl) rfl rfl ?_
          | refine TM_valg rfl (rr_lss rfl rfl (qT (by omega))) rfl rfl ?_ | refine TM_valg rfl (rr_lss rfl rfl (qF (by omega))) rfl rfl ?_
          | refine TM_valg rfl (rr_neq rfl rfl (qT (by omega))) rfl rfl ?_ | refine TM_valg rfl (rr_neq rfl rfl (qF (by omega))) rfl rfl ?_
          | refine TM_valg rfl (rr_add64 rfl rfl (by omega) (by omega) rfl) rfl rfl ?_ | refine TM_end ?_)
        repeat (first
          | refine qv rfl (qp rfl) rfl rfl ?_ | refine TL_nil ?_ | refine T_seq ?_ | refine T_region ?_ | refine qcT rfl ?_ | refine qcF rfl ?_ | refine T_skip ?_
          | refine T_exit ?_ | refine T_ret ?_ | refine T_block ?_ | refine E_then ?_ | refine E_thenX ?_ | refine E_thenR ?_ | refine E_blockN ?_
          | refine E_blockR ?_ | refine E_blockX ?_ | refine E_blockO rfl ?_ | refine qv rfl (rr_aggne rfl rfl (by kernel_rfl) heq rfl) rfl rfl ?_
          | refine qv rfl (qlen Und.eq rfl) rfl rfl ?_ | refine qv rfl (rr_lss rfl rfl (qT (by omega))) rfl rfl ?_
          | refine qv rfl (rr_lss rfl rfl (qF (by omega))) rfl rfl ?_ | refine qv rfl (rr_neq rfl rfl (qT (by omega))) rfl rfl ?_
          | refine qv rfl (rr_neq rfl rfl (qF (by omega))) rfl rfl ?_ | refine qv rfl (rr_add64 rfl rfl (by omega) (by omega) rfl) rfl rfl ?_)
        exact E_round (k + 1) ⟨by omega, by rw [List.take_succ_eq_append_getElem c2, List.take_succ_eq_append_getElem c2', h2, c3]⟩ (by show l.length - (k + 1) < l.length - k; omega) ⟨rfl, rfl, rfl, rfl, trivial⟩ rfl
      · rw [decide_eq_false c3] at heq
        rw [decide_eq_false (fun h => c3 (by subst h; rfl))]
        repeat (first
          | refine qv rfl (qp rfl) rfl rfl ?_ | refine TL_nil ?_ | refine T_seq ?_ | refine T_region ?_ | refine qcT rfl ?_ | refine qcF rfl ?_ | refine T_skip ?_
          | refine T_exit ?_ | refine T_ret ?_ | refine T_block ?_ | refine E_then ?_ | refine E_thenX ?_ | refine E_thenR ?_ | refine E_blockN ?_
          | refine E_blockR ?_ | refine E_blockX ?_ | refine E_blockO rfl ?_ | refine qv rfl (qlen Und.eq rfl) rfl rfl ?_
          | refine qv rfl (rr_lss rfl rfl (qT (by omega))) rfl rfl ?_ | refine qv rfl (rr_lss rfl rfl (qF (by omega))) rfl rfl ?_
          | refine qv rfl (rr_neq rfl rfl (qT (by omega))) rfl rfl ?_ | refine qv rfl (rr_neq rfl rfl (qF (by omega))) rfl rfl ?_
          | refine qv rfl (rr_add64 rfl rfl (by omega) (by omega) rfl) rfl rfl ?_)
        refine T_draw 8 (List.replicate 8 true) rfl (by kernel_rfl) (by kernel_rfl) (by intro c a d v w h; cases d <;> exact h) ?_
        repeat (first
          | refine TM_valg rfl (qp rfl) rfl rfl ?_ | refine TM_valg rfl (rr_idxc Und.eq TyC.ty rfl rfl c2) rfl rfl ?_
          | refine TM_valg rfl (rr_idxc Und.eq TyC.ty rfl rfl c2') rfl rfl ?_ | refine TM_valg rfl (rr_loadN TyC.ty rfl rfl hat) rfl rfl ?_
          | refine TM_valg rfl (rr_loadN TyC.ty rfl rfl hat') rfl rfl ?_ | refine TM_valg rfl (qlen Und.eq rfl) rfl rfl ?_
          | refine TM_valg rfl (rr_lss rfl rfl (qT (by omega))) rfl rfl ?_ | refine TM_valg rfl (rr_lss rfl rfl (qF (by omega))) rfl rfl ?_
          | refine TM_valg rfl (rr_neq rfl rfl (qT (by omega))) rfl rfl ?_ | refine TM_valg rfl (rr_neq rfl rfl (qF (by omega))) rfl rfl ?_
          | refine TM_valg rfl (rr_add64 rfl rfl (by omega) (by omega) rfl) rfl rfl ?_ | refine TM_end ?_)
        repeat (first
          | refine qv rfl (qp rfl) rfl rfl ?_ | refine TL_nil ?_ | refine T_seq ?_ | refine T_region ?_ | refine qcT rfl ?_ | refine qcF rfl ?_ | refine T_skip ?_
          | refine T_exit ?_ | refine T_ret ?_ | refine T_block ?_ | refine E_then ?_ | refine E_thenX ?_ | refine E_thenR ?_ | refine E_blockN ?_
          | refine E_blockR ?_ | refine E_blockX ?_ | refine E_blockO rfl ?_ | refine qv rfl (rr_aggne rfl rfl (by kernel_rfl) heq rfl) rfl rfl ?_
          | refine qv rfl (qlen Und.eq rfl) rfl rfl ?_ | refine qv rfl (rr_lss rfl rfl (qT (by omega))) rfl rfl ?_
          | refine qv rfl (rr_lss rfl rfl (qF (by omega))) rfl rfl ?_ | refine qv rfl (rr_neq rfl rfl (qT (by omega))) rfl rfl ?_
          | refine qv rfl (rr_neq rfl rfl (qF (by omega))) rfl rfl ?_ | refine qv rfl (rr_add64 rfl rfl (by omega) (by omega) rfl) rfl rfl ?_)
        exact E_ret1 rfl rfl fun w hm => hm.ret
    · have e : l = l' := by
        rw [List.take_of_length_le (by omega), List.take_of_length_le (by omega)] at h2; exact h2
      rw [decide_eq_true e]
      repeat (first
        | refine qv rfl (qp rfl) rfl rfl ?_ | refine TL_nil ?_ | refine T_seq ?_ | refine T_region ?_ | refine qcT rfl ?_ | refine qcF rfl ?_ | refine T_skip ?_
        | refine T_exit ?_ | refine T_ret ?_ | refine T_block ?_ | refine E_then ?_ | refine E_thenX ?_ | refine E_thenR ?_ | refine E_blockN ?_
        | refine E_blockR ?_ | refine E_blockX ?_ | refine E_blockO rfl ?_ | refine qv rfl (qlen Und.eq rfl) rfl rfl ?_
        | refine qv rfl (rr_lss rfl rfl (qT (by omega))) rfl rfl ?_ | refine qv rfl (rr_lss rfl rfl (qF (by omega))) rfl rfl ?_
        | refine qv rfl (rr_neq rfl rfl (qT (by omega))) rfl rfl ?_ | refine qv rfl (rr_neq rfl rfl (qF (by omega))) rfl rfl ?_
        | refine qv rfl (rr_add64 rfl rfl (by omega) (by omega) rfl) rfl rfl ?_)
      exact E_ret1 rfl rfl fun w hm => hm.ret
  · rw [decide_eq_false (fun h => c1 (by rw [h]))]
    repeat (first
      | refine qv rfl (qp rfl) rfl rfl ?_ | refine TL_nil ?_ | refine T_seq ?_ | refine T_region ?_ | refine qcT rfl ?_ | refine qcF rfl ?_ | refine T_skip ?_
      | refine T_exit ?_ | refine T_ret ?_ | refine T_block ?_ | refine E_then ?_ | refine E_thenX ?_ | refine E_thenR ?_ | refine E_blockN ?_
      | refine E_blockR ?_ | refine E_blockX ?_ | refine E_blockO rfl ?_ | refine qv rfl (qlen Und.eq rfl) rfl rfl ?_
      | refine qv rfl (rr_lss rfl rfl (qT (by omega))) rfl rfl ?_ | refine qv rfl (rr_lss rfl rfl (qF (by omega))) rfl rfl ?_
      | refine qv rfl (rr_neq rfl rfl (qT (by omega))) rfl rfl ?_ | refine qv rfl (rr_neq rfl rfl (qF (by omega))) rfl rfl ?_
      | refine qv rfl (rr_add64 rfl rfl (by omega) (by omega) rfl) rfl rfl ?_)
    exact E_ret1 rfl rfl fun w hm => hm.ret
end Go.Proofs.Ytkmemlnkijinlaa.eng

/- TkC -/
namespace Go.Proofs.Ytkmemlnkijinlaa.eng
open Go.RowKit kit mix lexL
theorem toks_oneC (l : List Tok) : ∀ u ∈ l.flatMap tokC, u.oneCell' = true := by
  intro u hu
  obtain ⟨t, _, h⟩ := List.mem_flatMap.1 hu
  exact tok_one t u h
theorem TkC_len (a : lexL.Tok) : (tokC a).length = 3 := rfl
set_option maxHeartbeats 2000000 in
theorem cloneTkC_calls (v : Value) (l : List lexL.Tok) (w : World) (hs : Sl w v l.length (l.flatMap tokC)) (hl : l.length * 24 ≤ 140737488355328) :
    Calls Try.prog 16 #[v] w (Meets (rowS 36 3 l.length (l.flatMap tokC) id) w) := by
  obtain ⟨base, cap, rfl, hcap, hmax, hrd⟩ := hs
  unfold maxLen at hmax
  refine enter (args := [.slice base l.length cap]) (n := 8) Try.func16 rfl rfl rfl ?_
  have hsl : ∀ w', Gr w w' → Sl w' (.slice base l.length cap) l.length (l.flatMap tokC) := fun w' hg => Sl.gr ⟨base, cap, rfl, hcap, hmax, hrd⟩ hg
  clear hrd
  cases base with
  | none =>
    repeat (first
      | refine QV QP ?_ | refine QZ ?_ | refine qcT rfl ?_ | refine qcF rfl ?_ | refine QV (rr_slnil Und.eq rfl rfl rfl) ?_)
    have h0 : l = [] := by
      cases l with
      | nil => rfl
      | cons x l => obtain ⟨_, _, h, _, _, h2⟩ := hsl w (Gr.refl w); simp only [Value.slice.injEq] at h; obtain ⟨rfl, _⟩ := h; obtain ⟨b, off, h, _⟩ := h2 (by simp); cases h
    subst h0
    refine E_nilrow 36 3 ?_
    exact E_ret1 rfl rfl fun w hm => hm.meets (S := rowS 36 3 0 [] id) _ trivial [0] (by decide) rfl
  | some p =>
    repeat (first
      | refine QV QP ?_ | refine QZ ?_ | refine qcT rfl ?_ | refine qcF rfl ?_ | refine QV (rr_slnil Und.eq rfl rfl rfl) ?_)
    refine TL_lit0 rfl fun g => ?_
    repeat (first
      | refine QV QP ?_ | refine QZ ?_ | refine qcT rfl ?_ | refine qcF rfl ?_)
    refine TL_appSl (i := 0) rfl (fun w' hm => hsl w' hm.below) rfl rfl (len_el TkC_len l) (toks_oneC l) (by omega) (by omega) rfl fun v' => ?_
    rw [List.nil_append]
    repeat (first
      | refine QV QP ?_ | refine QZ ?_ | refine qcT rfl ?_ | refine qcF rfl ?_)
    refine E_ret1 rfl rfl fun w hm => ?_
    exact hm.meets (S := rowS 36 3 l.length (l.flatMap tokC) id) v' trivial [0] (by decide) (by simp [rowS])
end Go.Proofs.Ytkmemlnkijinlaa.eng

/- PlO -/
namespace Go.Proofs.Ytkmemlnkijinlaa.eng
open Go.RowKit kit mix classL placesL
/-- none, or a slice of a block of its own -/
def StrI (p : Nat → Nat → Prop) (v : Value) : Prop := v = .slice none 0 0 ∨ ∃ g n cap, v = .slice (some ⟨g, 0, none⟩) n cap ∧ n ≤ cap ∧ cap ≤ 9223372036854775807 ∧ p g cap
theorem StrI.imp {p q : Nat → Nat → Prop} {v : Value} (h : StrI p v) (hpq : ∀ g cap, p g cap → q g cap) : StrI q v :=
  h.elim .inl fun ⟨g, n, cap, h1, h2, h3, h4⟩ => .inr ⟨g, n, cap, h1, h2, h3, hpq _ _ h4⟩
def strP (F : Nat → Prop) (w : World) (g cap : Nat) : Prop := F g ∧ ∃ cs : Array Value, w.heap[g]? = some (.cells cs 3 (0, 0)) ∧ cs.size = cap
theorem strP.stay {F : Nat → Prop} {w w' : World} {g cap : Nat} (h : strP F w g cap) (hk : w'.heap[g]? = w.heap[g]?) : strP F w' g cap :=
  let ⟨h1, cs, h2, h3⟩ := h; ⟨h1, cs, by rw [hk]; exact h2, h3⟩
def strO (F : Nat → Prop) (vs : List Value) : Own where
  blk := none
  more := F
  holds := fun w => (∀ v ∈ vs, StrI (strP F w) v) ∧ ∀ k, F k → k < w.heap.size
  lt := fun w h k hk => h.2 k (hk.elim (fun h => by cases h) id)
  stay := fun w w' h hs hb => ⟨fun v hv => (h.1 v hv).imp fun g cap hp => hp.stay (hb g (.inr hp.1)), fun k hk => Nat.lt_of_lt_of_le (h.2 k hk) hs⟩
/-- all but one block -/
def strX (F : Nat → Prop) (vs : List Value) (g sz : Nat) : Own where
  blk := none
  more := fun k => F k ∧ k ≠ g
  holds := fun w => (F g ∧ ∀ v ∈ vs, StrI (fun g' cap => (g' = g ∧ cap = sz) ∨ (g' ≠ g ∧ strP F w g' cap)) v) ∧ ∀ k, F k → k ≠ g → k < w.heap.size
  lt := fun w h k hk => by
    rcases hk with hk | hk
    · cases hk
    · exact h.2 k hk.1 hk.2
  stay := fun w w' h hs hb => ⟨⟨h.1.1, fun v hv => (h.1.2 v hv).imp fun g' cap hp => hp.imp id fun ⟨a, b⟩ => ⟨a, b.stay (hb g' (.inr ⟨b.1, a⟩))⟩⟩, fun k hk hk' => Nat.lt_of_lt_of_le (h.2 k hk hk') hs⟩
section
variable {P : Program} {n : Nat} {W : Base} {fr : Fr} {L : List Own} {Q : Exit → Act → World → Prop} {ops : Array Oper} {rest : List Oper} {d : Nat}
theorem Mem.openStr {w : World} {i : Nat} {F : Nat → Prop} {vs : List Value} {v : Value} (h : Mem W L w) (hi : L[i]? = some (strO F vs)) (hv : v ∈ vs) : v = .slice none 0 0 ∨ ∃ g m cap cs, v = .slice (some ⟨g, 0, none⟩) m cap ∧ m ≤ cap ∧ cap ≤ 9223372036854775807 ∧ cs.size = cap * 1 ∧ Mem W (L.set i (strX F vs g cap) ++ [blkO g cs 3]) w := by
  have h1 : (strO F vs).holds w := h.get hi
  rcases h1.1 v hv with hv0 | ⟨g, m, cap, hv0, hm, hc, hF, cs, hg, hsz⟩
  · exact .inl hv0
  · refine .inr ⟨g, m, cap, cs, hv0, hm, hc, by omega, ?_⟩
    have hr : Mem W (L.set i (strX F vs g cap)) w := by
      refine h.reown (strX F vs g cap) hi (fun w' hw => ?_) fun k hk => hk.elim (fun h => by cases h) fun h => .inr h.1
      subst hv0
      have hv' := hw.1 _ hv
      rcases hv' with hv' | ⟨g0, m0, cap0, hv', _, _, _, cs0, hg0, hsz0⟩
      · cases hv'
      · cases hv'
        refine ⟨⟨hF, fun u hu => (hw.1 u hu).imp fun g' cap' hp => ?_⟩, fun k hk _ => hw.2 k hk⟩
        by_cases e : g' = g
        · subst e
          obtain ⟨_, cs', hg', hs'⟩ := hp
          rw [hg0] at hg'
          cases hg'
          exact .inl ⟨rfl, by omega⟩
        · exact .inr ⟨e, hp⟩
    have hoq := h.owns.all i _ hi
    have hlen : i < L.length := (List.getElem?_eq_some_iff.1 hi).1
    refine ⟨h.low, OwnsP.both hr.owns (OwnsP.one hg fun k hk => hoq.2 k (.inr (by
      rcases hk with hk | hk
      · simp only [blkO, Option.some.injEq] at hk; subst hk; exact hF
      · exact hk.elim))) fun a b oa ob ha hb k hk hk' => ?_⟩
    match b, hb with
    | 0, hb =>
      simp only [List.getElem?_cons_zero, Option.some.injEq] at hb; subst hb
      have hkg : k = g := by
        rcases hk' with hk' | hk'
        · simp only [blkO, Option.some.injEq] at hk'; exact hk'.symm
        · exact hk'.elim
      by_cases e : i = a
      · subst e
        rw [List.getElem?_set_self hlen] at ha
        simp only [Option.some.injEq] at ha; subst ha
        rcases hk with hk | hk
        · cases hk
        · exact hk.2 hkg
      · rw [List.getElem?_set_ne e] at ha
        exact h.owns.apart a i oa _ (Ne.symm e) ha hi k hk (.inr (by subst hkg; exact hF))
    | b + 1, hb => simp at hb
theorem TL_openStr {i : Nat} {F : Nat → Prop} {vs : List Value} {v : Value} (hi : L[i]? = some (strO F vs)) (hv : v ∈ vs) (h0 : v = .slice none 0 0 → TL P n W ops Q rest fr L)
    (h : ∀ g m cap cs, v = .slice (some ⟨g, 0, none⟩) m cap → m ≤ cap → cap ≤ 9223372036854775807 → cs.size = cap * 1 → TL P n W ops Q rest fr (L.set i (strX F vs g cap) ++ [blkO g cs 3])) : TL P n W ops Q rest fr L := ⟨fun a w hr hm => by
  rcases hm.openStr hi hv with a1 | ⟨g, m, cap, cs, a1, a2, a3, a4, a5⟩
  · exact (h0 a1).go a w hr hm
  · exact (h g m cap cs a1 a2 a3 a4).go a w hr a5⟩
end
theorem str_close {F : Nat → Prop} {vs : List Value} {g sz : Nat} {cs : Array Value} {w : World} (h : (strX F vs g sz).holds w) (hb : (blkO g cs 3).holds w) (hs : cs.size = sz) : (strO F vs).holds w := by
  refine ⟨fun v hv => (h.1.2 v hv).imp fun g' cap hp => ?_, fun k hk => ?_⟩
  · rcases hp with ⟨rfl, rfl⟩ | ⟨_, hp⟩
    · exact ⟨h.1.1, cs, hb, hs⟩
    · exact hp
  · by_cases e : k = g
    · subst e; exact (Array.getElem?_eq_some_iff.1 (show w.heap[k]? = some (.cells cs 3 (0, 0)) from hb)).1
    · exact h.2 k hk e
theorem str_foot {F : Nat → Prop} {vs : List Value} {g sz : Nat} {cs : Array Value} (k : Nat) (h : (strO F vs).foot k) : (strX F vs g sz).foot k ∨ (blkO g cs 3).foot k := by
  rcases h with h | h
  · cases h
  · by_cases e : k = g
    · subst e; exact .inr (.inl rfl)
    · exact .inl (.inr ⟨h, e⟩)
end Go.Proofs.Ytkmemlnkijinlaa.eng

/- SmIr -/
namespace Go.Proofs.Ytkmemlnkijinlaa.eng
open Go.RowKit kit mix
theorem SmIr_len (a : Int) : (kit.intC a).length = 1 := rfl
theorem roomASmIr (l : List Int) : ((madeCells #[Value.int .i64 0] ((l.length + 3) * 1)).toList.take (0 * 1) ++ l.flatMap kit.intC ++ (madeCells #[Value.int .i64 0] ((l.length + 3) * 1)).toList.drop (0 * 1 + (l.flatMap kit.intC).length)).toArray = (l.flatMap kit.intC ++ (List.replicate 3 [Value.int .i64 0]).flatten).toArray := by
  rw [madeC (k := 1) rfl (by decide), len_el SmIr_len]
  congr 1
  simp only [Nat.zero_mul, List.take_zero, List.nil_append, Nat.zero_add]
  congr 1
  rw [← List.replicate_append_replicate, List.flatten_append, List.drop_left' (by simp)]
theorem roomBSmIr (l : List Int) (b : List Value) (hb : b.length = 2 * 1) : ((l.flatMap kit.intC ++ (List.replicate 3 [Value.int .i64 0]).flatten).toArray.toList.take (l.length * 1) ++ b ++ (l.flatMap kit.intC ++ (List.replicate 3 [Value.int .i64 0]).flatten).toArray.toList.drop (l.length * 1 + b.length)).toArray = (l.flatMap kit.intC ++ b ++ [Value.int .i64 0]).toArray := by
  congr 1
  have h := len_el SmIr_len l
  rw [List.take_left' h, ← List.drop_drop, List.drop_left' h, hb]
  rfl
set_option maxHeartbeats 2000000 in
theorem roomySmIr_calls (v : Value) (l : List Int) (a : Int) (w : World) (hs : Sl w v l.length (l.flatMap kit.intC)) (hl : 8 * (l.length + 3) ≤ 281474976710656) :
    Calls Try.prog 10 #[v, .int .i64 a] w (Meets ⟨fun _ => True, fun (g : Nat) => .slice (some ⟨g, 0, none⟩) l.length (l.length + 3), fun g => [blkO g (l.flatMap kit.intC ++ (kit.intC a ++ kit.intC a) ++ [Value.int .i64 0]).toArray 3]⟩ w) := by
  have hsl : ∀ L, SlL w L v l.length (l.flatMap kit.intC) := fun L w' hm => hs.gr hm.below
  obtain ⟨base, cap, rfl, hcap, hmax, _⟩ := hs
  unfold maxLen at hmax
  refine enter (args := [.slice base l.length cap, .int .i64 a]) (n := 20) Try.func10 rfl rfl rfl ?_
  repeat (first
    | refine qv rfl (qp rfl) rfl rfl ?_ | refine TL_nil ?_ | refine T_seq ?_ | refine T_region ?_ | refine T_ret ?_ | refine E_then ?_ | refine E_thenR ?_
    | refine qv rfl (qlen Und.eq rfl) rfl rfl ?_ | refine qv rfl (rr_add64 rfl rfl (by omega) (by omega) rfl) rfl rfl ?_)
  refine TL_makeB (m := 0) (cap := l.length + 3) rfl rfl (by omega) (by omega) (by omega) rfl fun g => ?_
  conv => arg 8; simp only [zA, zB, zC, zD, zE, zF, zG, zH, zI, rowS, ret, id_eq]
  repeat (first
    | refine qv rfl (qp rfl) rfl rfl ?_ | refine TL_nil ?_ | refine T_seq ?_ | refine T_region ?_ | refine T_ret ?_ | refine E_then ?_ | refine E_thenR ?_
    | refine qv rfl (qlen Und.eq rfl) rfl rfl ?_ | refine qv rfl (rr_add64 rfl rfl (by omega) (by omega) rfl) rfl rfl ?_)
  refine TL_appBs (i := 0) (k := l.length) (cs' := (l.flatMap kit.intC ++ (List.replicate 3 [Value.int .i64 0]).flatten).toArray) rfl rfl rfl (hsl _) (len_el SmIr_len l) (one_int l) (by omega) (by rw [size_madeCells, len_el SmIr_len]; omega) (roomASmIr l).symm rfl ?_
  conv => arg 8; simp only [zA, zB, zC, zD, zE, zF, zG, zH, zI, rowS, ret, id_eq]
  repeat (first
    | refine qv rfl (qp rfl) rfl rfl ?_ | refine TL_nil ?_ | refine T_seq ?_ | refine T_region ?_ | refine T_ret ?_ | refine E_then ?_ | refine E_thenR ?_
    | refine qv rfl (qlen Und.eq rfl) rfl rfl ?_ | refine qv rfl (rr_add64 rfl rfl (by omega) (by omega) rfl) rfl rfl ?_)
  refine TL_litN (cs := (kit.intC a ++ kit.intC a).toArray) [.int .i64 a, .int .i64 a] rfl rfl rfl (by intro v hv; simp only [List.mem_cons, List.not_mem_nil, or_false, or_self] at hv; subst hv; rfl) rfl rfl rfl fun g8 => ?_
  refine TL_appB (i := 0) (k := 2) (ys := kit.intC a ++ kit.intC a) (cs' := (l.flatMap kit.intC ++ (kit.intC a ++ kit.intC a) ++ [Value.int .i64 0]).toArray) rfl rfl rfl (fun w hm j u hj => by rw [addr_add, Nat.zero_add]; exact at_blk (i := 1) rfl (by simpa using hj) w hm) rfl (by intro u hu; simp only [kit.intC, List.cons_append, List.nil_append, List.mem_cons, List.not_mem_nil, or_false, or_self] at hu; subst hu; rfl) (by omega) (by rw [List.size_toArray, List.length_append, List.length_append, len_el SmIr_len]; show (0 + l.length) * 1 + 2 ≤ l.length * 1 + 3; omega) (by rw [show 0 + l.length = l.length by omega]; exact (roomBSmIr l (kit.intC a ++ kit.intC a) rfl).symm) rfl ?_
  conv => arg 8; simp only [zA, zB, zC, zD, zE, zF, zG, zH, zI, rowS, ret, id_eq]
  repeat (first
    | refine qv rfl (qp rfl) rfl rfl ?_ | refine TL_nil ?_ | refine T_seq ?_ | refine T_region ?_ | refine T_ret ?_ | refine E_then ?_ | refine E_thenR ?_
    | refine qv rfl (rr_slpre Und.eq TyC.ty rfl rfl (by omega)) rfl rfl ?_ | refine qv rfl (qlen Und.eq rfl) rfl rfl ?_
    | refine qv rfl (rr_add64 rfl rfl (by omega) (by omega) rfl) rfl rfl ?_)
  exact E_ret1 rfl rfl fun w hm => hm.meets (S := ⟨fun _ => True, fun (g : Nat) => .slice (some ⟨g, 0, none⟩) l.length (l.length + 3), fun g => [blkO g (l.flatMap kit.intC ++ (kit.intC a ++ kit.intC a) ++ [Value.int .i64 0]).toArray 3]⟩) g trivial [0] (by decide) rfl
set_option maxHeartbeats 2000000 in
theorem filledSmIr_calls (g cap : Nat) (l : List Int) (a : Int) (w : World) (hcap : l.length + 2 ≤ cap) (hmax : cap ≤ 9223372036854775807) (h : ∀ (j : Nat) (u : Value), (l.flatMap kit.intC ++ (kit.intC a ++ kit.intC a))[j]? = some u → w.cell? ⟨g, j, none⟩ = some u) :
    Calls Try.prog 13 #[.slice (some ⟨g, 0, none⟩) l.length cap, .int .i64 a] w (Meets (ret (.bool true)) w) := by
  have hl2 : (l ++ [a, a]).flatMap kit.intC = l.flatMap kit.intC ++ (kit.intC a ++ kit.intC a) := by simp
  have hat : ∀ (L : List Own) (k : Nat) (hk : k < (l ++ [a, a]).length) (j : Nat) (u : Value), (kit.intC (l ++ [a, a])[k])[j]? = some u → At w L ⟨g, 0 + k * 1 + j, none⟩ u := fun L k hk => at_elL SmIr_len (off := 0) (fun j u hj => by rw [Nat.zero_add]; exact at_old (h j u (by rw [← hl2]; exact hj))) hk
  have h0 := fun L => hat L l.length (by simp) 0 _ rfl
  have h1 := fun L => hat L (l.length + 1) (by simp) 0 _ rfl
  have e0 : (l ++ [a, a])[l.length]'(by simp) = a := by simp
  have e1 : (l ++ [a, a])[l.length + 1]'(by simp) = a := by simp
  rw [e0] at h0
  rw [e1] at h1
  clear hat e0 e1 hl2 h
  refine enter (args := [.slice (some ⟨g, 0, none⟩) l.length cap, .int .i64 a]) (n := 28) Try.func13 rfl rfl rfl ?_
  repeat (first
    | refine qv rfl (qp rfl) rfl rfl ?_ | refine TL_nil ?_ | refine T_seq ?_ | refine T_region ?_ | refine T_ret ?_ | refine E_then ?_ | refine E_thenR ?_
    | refine qs rfl rfl rfl rfl rfl rfl ?_
    | ((try refine qg rfl rfl rfl ?_); first | refine qv rfl (qp rfl) rfl rfl ?_ | refine qv rfl (rr_slpre (j := l.length + 2) Und.eq TyC.ty rfl rfl hcap) rfl rfl ?_ | refine qv rfl (rr_idxc (j := l.length) Und.eq TyC.ty rfl rfl (by omega)) rfl rfl ?_ | refine qv rfl (rr_idxc (j := l.length + 1) Und.eq TyC.ty rfl rfl (by omega)) rfl rfl ?_ | refine qv rfl (rr_load1 TyC.ty rfl (h0 _)) rfl rfl ?_ | refine qv rfl (rr_load1 TyC.ty rfl (h1 _)) rfl rfl ?_ | refine qv rfl (rr_eql (b := true) rfl rfl (decide_eq_true rfl)) rfl rfl ?_ | refine qv rfl (qlen Und.eq rfl) rfl rfl ?_ | refine qv rfl (rr_eql rfl rfl (qT (by omega))) rfl rfl ?_ | refine qv rfl (rr_eql rfl rfl (qF (by omega))) rfl rfl ?_ | refine qv rfl (rr_add64 rfl rfl (by omega) (by omega) rfl) rfl rfl ?_))
  exact E_ret1 rfl rfl fun w hm => hm.ret
theorem spoilASmIr (k cap : Nat) (a : Int) (cs : Array Value) (hc : cs.size = cap * 1) (hk : k < cap) : (((List.replicate k (kit.intC a)).flatten ++ cs.toList.drop (k * 1)).toArray.toList.take (k * 1) ++ (kit.intC a).toArray.toList ++ ((List.replicate k (kit.intC a)).flatten ++ cs.toList.drop (k * 1)).toArray.toList.drop (k * 1 + 1)).toArray = ((List.replicate (k + 1) (kit.intC a)).flatten ++ cs.toList.drop ((k + 1) * 1)).toArray := by
  congr 1
  have h : ((List.replicate k (kit.intC a)).flatten).length = k * 1 := by simp [kit.intC]
  simp only []
  rw [List.take_left' h, ← List.drop_drop, List.drop_left' h, List.replicate_succ', List.flatten_append, List.drop_drop]
  simp [Nat.add_mul]
set_option maxHeartbeats 2000000 in
theorem spoilSmIr_calls (g n cap : Nat) (cs : Array Value) (a : Int) (w : World) (B : Base) (hn : n ≤ cap) (hmax : cap ≤ 9223372036854775807) (hc : cs.size = cap * 1) (h1 : (kit.intC a).all Value.oneCell' = true) (hm : Mem B [blkO g cs 3] w) :
    Calls Try.prog 17 #[.slice (some ⟨g, 0, none⟩) n cap, .int .i64 a] w (MeetsB ⟨fun (_ : Unit) => True, fun _ => .tuple #[], fun _ => [blkO g ((List.replicate cap (kit.intC a)).flatten).toArray 3]⟩ B) := by
  refine enterB hm (args := [.slice (some ⟨g, 0, none⟩) n cap, .int .i64 a]) (n := 19) Try.func17 rfl rfl rfl ?_
  repeat (first
    | refine qv rfl (qp rfl) rfl rfl ?_ | refine TL_nil ?_ | refine T_seq ?_ | refine T_region ?_ | refine qcT rfl ?_ | refine qcF rfl ?_ | refine T_skip ?_
    | refine T_exit ?_ | refine T_block ?_ | refine E_then ?_ | refine E_thenX ?_ | refine E_thenR ?_ | refine E_blockN ?_ | refine E_blockR ?_
    | refine E_blockX ?_ | refine E_blockO rfl ?_ | refine qv rfl (rr_cap Und.eq rfl) rfl rfl ?_
    | refine qv rfl (rr_slpre Und.eq TyC.ty rfl rfl (Nat.le_refl cap)) rfl rfl ?_ | refine qv rfl (qlen Und.eq rfl) rfl rfl ?_
    | refine qv rfl (rr_lss rfl rfl (qT (by omega))) rfl rfl ?_ | refine qv rfl (rr_lss rfl rfl (qF (by omega))) rfl rfl ?_
    | refine qv rfl (rr_add64 rfl rfl (by omega) (by omega) rfl) rfl rfl ?_)
  refine T_loop (ι := Nat) (fun k => k ≤ cap) (fun k => [(0, .slice (some ⟨g, 0, none⟩) cap cap), (1, .int .i64 a), (10, .int .i64 cap), (11, .int .i64 (k : Int))]) (fun k => [blkO g ((List.replicate k (kit.intC a)).flatten ++ cs.toList.drop (k * 1)).toArray 3]) (fun k => cap - k) 0 (Nat.zero_le _) (by repeat' (first | exact True.intro | refine And.intro rfl ?_)) (by simp) ?_
  intro k hk
  by_cases c1 : k < cap
  · have hsz : ((List.replicate k (kit.intC a)).flatten ++ cs.toList.drop (k * 1)).toArray.size = cap * 1 := by simp [hc, kit.intC]; omega
    repeat (first
      | refine qv rfl (qp rfl) rfl rfl ?_ | refine TL_nil ?_ | refine T_seq ?_ | refine T_region ?_ | refine qcT rfl ?_ | refine qcF rfl ?_ | refine T_skip ?_
      | refine T_exit ?_ | refine T_block ?_ | refine E_then ?_ | refine E_thenX ?_ | refine E_thenR ?_ | refine E_blockN ?_ | refine E_blockR ?_
      | refine E_blockX ?_ | refine E_blockO rfl ?_ | refine qv rfl (rr_idxc Und.eq TyC.ty rfl rfl c1) rfl rfl ?_ | refine qv rfl (qlen Und.eq rfl) rfl rfl ?_
      | refine qv rfl (rr_lss rfl rfl (qT (by omega))) rfl rfl ?_ | refine qv rfl (rr_lss rfl rfl (qF (by omega))) rfl rfl ?_
      | refine qv rfl (rr_add64 rfl rfl (by omega) (by omega) rfl) rfl rfl ?_)
    refine TL_store (i := 0) (cs' := ((List.replicate (k + 1) (kit.intC a)).flatten ++ cs.toList.drop ((k + 1) * 1)).toArray) TyC.ty rfl rfl rfl rfl (show ((kit.intC a).toArray.toList.all Value.oneCell') = true by simpa using h1) (by rw [hsz]; omega) (by rw [Nat.zero_add]; exact (spoilASmIr k cap a cs hc c1).symm) ?_
    repeat (first
      | refine qv rfl (qp rfl) rfl rfl ?_ | refine TL_nil ?_ | refine T_seq ?_ | refine T_region ?_ | refine qcT rfl ?_ | refine qcF rfl ?_ | refine T_skip ?_
      | refine T_exit ?_ | refine T_block ?_ | refine E_then ?_ | refine E_thenX ?_ | refine E_thenR ?_ | refine E_blockN ?_ | refine E_blockR ?_
      | refine E_blockX ?_ | refine E_blockO rfl ?_ | refine qv rfl (qlen Und.eq rfl) rfl rfl ?_ | refine qv rfl (rr_lss rfl rfl (qT (by omega))) rfl rfl ?_
      | refine qv rfl (rr_lss rfl rfl (qF (by omega))) rfl rfl ?_ | refine qv rfl (rr_add64 rfl rfl (by omega) (by omega) rfl) rfl rfl ?_)
    exact E_round (k + 1) (by omega) (by show cap - (k + 1) < cap - k; omega) (by repeat' (first | exact True.intro | refine And.intro rfl ?_)) rfl
  · obtain rfl : k = cap := by omega
    repeat (first
      | refine qv rfl (qp rfl) rfl rfl ?_ | refine TL_nil ?_ | refine T_seq ?_ | refine T_region ?_ | refine qcT rfl ?_ | refine qcF rfl ?_ | refine T_skip ?_
      | refine T_exit ?_ | refine T_block ?_ | refine E_then ?_ | refine E_thenX ?_ | refine E_thenR ?_ | refine E_blockN ?_ | refine E_blockR ?_
      | refine E_blockX ?_ | refine E_blockO rfl ?_ | refine qv rfl (qlen Und.eq rfl) rfl rfl ?_ | refine qv rfl (rr_lss rfl rfl (qT (by omega))) rfl rfl ?_
      | refine qv rfl (rr_lss rfl rfl (qF (by omega))) rfl rfl ?_ | refine qv rfl (rr_add64 rfl rfl (by omega) (by omega) rfl) rfl rfl ?_)
    refine E_end0 rfl fun w hm => hm.meetsB (S := ⟨fun (_ : Unit) => True, fun _ => .tuple #[], fun _ => [blkO g ((List.replicate k (kit.intC a)).flatten).toArray 3]⟩) () trivial [0] (by decide) (by simp only [List.drop_of_length_le (show cs.toList.length ≤ k * 1 by simp [hc]), List.append_nil]; rfl)
theorem spoilNilSmIr_calls (a : Int) (w : World) : Calls Try.prog 17 #[.slice none 0 0, .int .i64 a] w (Meets (ret (.tuple #[])) w) := by
  refine enter (args := [.slice none 0 0, .int .i64 a]) (n := 19) Try.func17 rfl rfl rfl ?_
  repeat (first
    | refine qv rfl (qp rfl) rfl rfl ?_ | refine TL_nil ?_ | refine T_seq ?_ | refine T_region ?_ | refine qcT rfl ?_ | refine qcF rfl ?_ | refine T_skip ?_
    | refine T_exit ?_ | refine T_block ?_ | refine E_then ?_ | refine E_thenX ?_ | refine E_thenR ?_ | refine E_blockN ?_ | refine E_blockR ?_
    | refine E_blockX ?_ | refine E_blockO rfl ?_ | refine qv rfl (rr_cap Und.eq rfl) rfl rfl ?_
    | refine qv rfl (rr_slpre (j := 0) Und.eq TyC.ty rfl rfl (Nat.le_refl 0)) rfl rfl ?_ | refine qv rfl (qlen Und.eq rfl) rfl rfl ?_
    | refine qv rfl (rr_lss rfl rfl (qT (by omega))) rfl rfl ?_ | refine qv rfl (rr_lss rfl rfl (qF (by omega))) rfl rfl ?_
    | refine qv rfl (rr_add64 rfl rfl (by omega) (by omega) rfl) rfl rfl ?_)
  refine T_loop (ι := Unit) (fun _ => True) (fun _ => [(10, .int .i64 0), (11, .int .i64 0)]) (fun _ => []) (fun _ => 0) () trivial (by repeat' (first | exact True.intro | refine And.intro rfl ?_)) rfl ?_
  intro _ _
  repeat (first
    | refine qv rfl (qp rfl) rfl rfl ?_ | refine TL_nil ?_ | refine T_seq ?_ | refine T_region ?_ | refine qcT rfl ?_ | refine qcF rfl ?_ | refine T_skip ?_
    | refine T_exit ?_ | refine T_block ?_ | refine E_then ?_ | refine E_thenX ?_ | refine E_thenR ?_ | refine E_blockN ?_ | refine E_blockR ?_
    | refine E_blockX ?_ | refine E_blockO rfl ?_ | refine qv rfl (qlen Und.eq rfl) rfl rfl ?_ | refine qv rfl (rr_lss rfl rfl (qT (by omega))) rfl rfl ?_
    | refine qv rfl (rr_lss rfl rfl (qF (by omega))) rfl rfl ?_ | refine qv rfl (rr_add64 rfl rfl (by omega) (by omega) rfl) rfl rfl ?_)
  exact E_end0 rfl fun w hm => hm.ret
end Go.Proofs.Ytkmemlnkijinlaa.eng

/- RomI -/
namespace Go.Proofs.Ytkmemlnkijinlaa.eng
open Go.RowKit kit mix placesL smallL
def romC (l : List Int) : Array Value := (l.flatMap kit.intC ++ (kit.intC 99 ++ kit.intC 99) ++ [Value.int .i64 0]).toArray
theorem romC_size (l : List Int) : (romC l).size = (l.length + 3) * 1 := by
  unfold romC
  rw [List.size_toArray, List.length_append, List.length_append, len_el (c := 1) (fun _ => rfl)]
  show l.length * 1 + 2 + 1 = _
  omega
theorem romC_get2 {l : List Int} {j : Nat} {u : Value} (h : (l.flatMap kit.intC ++ (kit.intC 99 ++ kit.intC 99))[j]? = some u) : (romC l)[j]? = some u := by
  unfold romC
  rw [List.getElem?_toArray, List.getElem?_append_left (List.getElem?_eq_some_iff.1 h).1]; exact h
theorem romC_get {l : List Int} {j : Nat} {u : Value} (h : (l.flatMap kit.intC)[j]? = some u) : (romC l)[j]? = some u :=
  romC_get2 (by rw [List.getElem?_append_left (List.getElem?_eq_some_iff.1 h).1]; exact h)
theorem rom_cell {w : World} {g off : Nat} {cs : Array Value} {T : TypeId} {v : Value} (h : w.heap[g]? = some (.cells cs T (0, 0))) (hv : cs[off]? = some v) : w.cell? ⟨g, off, none⟩ = some v := by
  rw [cell_of_row w g off cs T (0, 0) h]; exact hv
abbrev romV (g : Nat) (l : List Int) : Value := .slice (some ⟨g, 0, none⟩) l.length (l.length + 3)
/-- rows, each a block of its own with room behind it -/
def romO (F : Nat → Prop) (vs : List Value) (N : List (List Int)) : Own where
  blk := none
  more := F
  holds := fun w => (vs.length = N.length ∧ ∀ i (h : i < N.length) (h' : i < vs.length), ∃ g, vs[i] = romV g N[i] ∧ F g ∧ w.heap[g]? = some (.cells (romC N[i]) 3 (0, 0))) ∧ ∀ k, F k → k < w.heap.size
  lt := fun w h k hk => h.2 k (hk.elim (fun h => by cases h) id)
  stay := fun w w' h hs hb => ⟨⟨h.1.1, fun i hi hi' => by
    obtain ⟨g, h1, h2, h3⟩ := h.1.2 i hi hi'
    exact ⟨g, h1, h2, by rw [hb g (.inr h2)]; exact h3⟩⟩, fun k hk => Nat.lt_of_lt_of_le (h.2 k hk) hs⟩
theorem rom_nil (w : World) : (romO (fun _ => False) [] []).holds w := ⟨⟨rfl, fun i h => absurd h (by simp)⟩, fun k hk => hk.elim⟩
theorem rom_snoc {F : Nat → Prop} {vs : List Value} {N : List (List Int)} {g : Nat} {l : List Int} {w : World} (h : (romO F vs N).holds w) (hb : (blkO g (romC l) 3).holds w) : (romO (fun k => F k ∨ k = g) (vs ++ [romV g l]) (N ++ [l])).holds w := by
  have hb : w.heap[g]? = some (.cells (romC l) 3 (0, 0)) := hb
  refine ⟨⟨by rw [List.length_append, List.length_append, h.1.1]; rfl, fun i hi hi' => ?_⟩, fun k hk => hk.elim (h.2 k) fun e => by subst e; exact (Array.getElem?_eq_some_iff.1 hb).1⟩
  have hl := h.1.1
  by_cases c : i < N.length
  · obtain ⟨g', h1, h2, h3⟩ := h.1.2 i c (by omega)
    refine ⟨g', ?_, .inl h2, ?_⟩
    · rw [List.getElem_append_left (by omega), List.getElem_append_left c]; exact h1
    · rw [List.getElem_append_left c]; exact h3
  · have hi2 : i = N.length := by simp at hi; omega
    subst hi2
    refine ⟨g, ?_, .inr rfl, ?_⟩
    · rw [List.getElem_append_right (by omega), List.getElem_append_right (by omega)]; simp [hl]
    · rw [List.getElem_append_right (by omega)]; simpa using hb
theorem rom_foot {F : Nat → Prop} {vs vs' : List Value} {N N' : List (List Int)} {g : Nat} {cs : Array Value} {T : TypeId} (k : Nat) (h : (romO (fun k => F k ∨ k = g) vs' N').foot k) : (romO F vs N).foot k ∨ (blkO g cs T).foot k := by
  rcases h with h | h | h
  · cases h
  · exact .inl (.inr h)
  · exact .inr (.inl (by rw [h]; rfl))
/-- they may be written over -/
theorem rom_str {F : Nat → Prop} {vs : List Value} {N : List (List Int)} {w : World} (hl : ∀ l ∈ N, l.length + 3 ≤ 9223372036854775807) (h : (romO F vs N).holds w) : (strO F vs).holds w := by
  refine ⟨fun v hv => ?_, h.2⟩
  obtain ⟨i, hi, rfl⟩ := List.mem_iff_getElem.1 hv
  have hi2 : i < N.length := by rw [← h.1.1]; exact hi
  obtain ⟨g, h1, h2, h3⟩ := h.1.2 i hi2 hi
  exact .inr ⟨g, _, _, h1, by omega, hl _ (List.getElem_mem hi2), h2, _, h3, by rw [romC_size]; omega⟩
/-- they read as the list of lists -/
theorem rom_slf {F : Nat → Prop} {vs : List Value} {N : List (List Int)} {v : Value} {w : World} (hl : ∀ l ∈ N, l.length + 3 ≤ 9223372036854775807) (hok : ∀ l ∈ N, ∀ x ∈ l, kit.okI64 x) (hr : (folR v vs).holds w) (h : (romO F vs N).holds w) : SlF (sliceS intS) (Low w) w v N := by
  have hr' : (rowO 24 (sliceS intS).c v N.length (vs.map one1).flatten).holds w := by rw [← h.1.1]; exact hr
  have he : (elsO (sliceS intS) F (vs.map one1) N).holds w := by
    refine ⟨⟨by rw [List.length_map]; exact h.1.1, fun i hi hi' => ?_⟩, h.2⟩
    have hi2 : i < vs.length := by simpa using hi'
    obtain ⟨g, h1, h2, h3⟩ := h.1.2 i hi hi2
    refine ⟨vs[i], by rw [List.getElem_map]; rfl, ?_⟩
    rw [h1]
    have hlen := hl _ (List.getElem_mem hi)
    refine SlF.of_flat (p := kit.okI64) ?_ (hok _ (List.getElem_mem hi)) (fun b hb => ?_) (fun a n cp e => by cases e; exact h2)
    · refine ⟨_, _, rfl, by omega, by unfold maxLen; omega, fun _ => ⟨g, 0, rfl, fun j u hj => ?_⟩⟩
      rw [Nat.zero_add]
      exact rom_cell h3 (romC_get hj)
    · simp [Value.ownBlock] at hb
      rw [← hb]; exact h2
  exact (slf_of hr' he (by decide)).mono fun k hk => slO_lt hr' he k hk
/-- the room is as it was made -/
theorem rom_fill {F : Nat → Prop} {vs : List Value} {N : List (List Int)} {w w' : World} (hl : ∀ l ∈ N, l.length + 3 ≤ 9223372036854775807) (h : (romO F vs N).holds w) (hg : Gr w w') {u : Value} (hu : u ∈ vs) : Calls Try.prog 13 #[u, .int .i64 99] w' (Meets (ret (.bool true)) w') := by
  obtain ⟨i, hi, rfl⟩ := List.mem_iff_getElem.1 hu
  have hi2 : i < N.length := by rw [← h.1.1]; exact hi
  obtain ⟨g, h1, h2, h3⟩ := h.1.2 i hi2 hi
  rw [h1]
  have hlen := hl _ (List.getElem_mem hi2)
  refine filledSmIr_calls g _ _ 99 w' (by omega) (by omega) fun j u hj => ?_
  exact rom_cell (by rw [hg.block g (h.2 g h2)]; exact h3) (romC_get2 hj)
end Go.Proofs.Ytkmemlnkijinlaa.eng

/- RomK -/
namespace Go.Proofs.Ytkmemlnkijinlaa.eng
open Go.RowKit kit mix placesL smallL
set_option maxHeartbeats 2000000 in
theorem indexNone_calls (v : Value) (l : List Value) (w : World) (hs : Sl w v l.length (l.flatMap one1)) (fid : FuncId) (first cp : Array Value) (hen : Enters Try.prog fid)
    (hp : ∀ a ∈ l, ∀ w', Gr w w' → Calls Try.prog fid (first ++ #[a] ++ cp) w' (Meets (ret (.bool false)) w')) :
    Calls Try.prog 32 #[v, .func (.func fid) first cp] w (Meets (ret (.int .i64 (-1))) w) := by
  obtain ⟨base, cap, rfl, hcap, hmax, hrd⟩ := hs
  unfold maxLen at hmax
  refine enter (args := [.slice base l.length cap, .func (.func fid) first cp]) (n := 19) Try.func32 rfl rfl rfl ?_
  repeat (first
    | refine QV QP ?_ | refine QZ ?_ | refine qcT rfl ?_ | refine qcF rfl ?_ | refine E_blockX ?_ | refine E_blockO rfl ?_ | refine QV QL ?_
    | refine QV QlT ?_ | refine QV QlF ?_ | refine QV QaA ?_)
  refine T_loop (ι := Nat) (fun k => k ≤ l.length) (fun k => [(0, .slice base l.length cap), (1, .func (.func fid) first cp), (7, .int .i64 l.length), (8, .int .i64 (k : Int))]) (fun _ => []) (fun k => l.length - k) 0 (Nat.zero_le _) (by repeat' (first | exact True.intro | refine And.intro rfl ?_)) rfl ?_
  intro k h1
  by_cases c2 : k < l.length
  · obtain ⟨b, off, rfl, hr⟩ := hrd (by omega)
    have hat := at_el (L := ([] : List Own)) one1_len hr c2 0 _ rfl
    have hcl := hp l[k] (List.getElem_mem c2)
    clear hp hrd
    generalize l[k] = u at *
    repeat (first
      | refine QV QP ?_ | refine QZ ?_ | refine qcT rfl ?_ | refine qcF rfl ?_ | refine E_blockX ?_ | refine E_blockO rfl ?_
      | refine QV (rr_idxc Und.eq TyC.ty rfl rfl c2) ?_ | refine QV (rr_load1 (v := u) TyC.ty rfl hat) ?_ | refine QV QL ?_ | refine QV QlT ?_
      | refine QV QlF ?_ | refine QV QaA ?_)
    refine TL_call (he1c hen rfl rfl) (fun w hm => hcl w hm.below) rfl rfl rfl ?_
    intro _ _
    repeat (first
      | refine QV QP ?_ | refine QZ ?_ | refine qcT rfl ?_ | refine qcF rfl ?_ | refine E_blockX ?_ | refine E_blockO rfl ?_ | refine QV QL ?_
      | refine QV QlT ?_ | refine QV QlF ?_ | refine QV QaA ?_)
    exact E_round (k + 1) (by omega) (by show l.length - (k + 1) < l.length - k; omega) (by repeat' (first | exact True.intro | refine And.intro rfl ?_)) rfl
  · clear hp hrd
    repeat (first
      | refine QV QP ?_ | refine QZ ?_ | refine qcT rfl ?_ | refine qcF rfl ?_ | refine E_blockX ?_ | refine E_blockO rfl ?_ | refine QV QL ?_
      | refine QV QlT ?_ | refine QV QlF ?_ | refine QV QaA ?_)
    exact E_ret1 rfl rfl fun w hm => hm.ret
theorem containsNone_calls (v : Value) (l : List Value) (w : World) (hs : Sl w v l.length (l.flatMap one1)) (fid : FuncId) (first cp : Array Value) (hen : Enters Try.prog fid)
    (hp : ∀ a ∈ l, ∀ w', Gr w w' → Calls Try.prog fid (first ++ #[a] ++ cp) w' (Meets (ret (.bool false)) w')) :
    Calls Try.prog 14 #[v, .func (.func fid) first cp] w (Meets (ret (.bool false)) w) := by
  refine enter (args := [v, .func (.func fid) first cp]) (n := 9) Try.func14 rfl rfl rfl ?_
  have hh := fun w' (hg : Gr w w') => indexNone_calls v l w' (hs.gr hg) fid first cp hen fun a ha w'' hg' => hp a ha w'' (hg.trans hg')
  repeat (first
    | refine QV QP ?_ | refine QZ ?_ | refine QV QhT ?_ | refine QV QhF ?_)
  refine TL_call (he2 EntersC.en rfl rfl rfl) (fun w hm => hh _ hm.below) rfl rfl rfl ?_
  intro _ _
  repeat (first
    | refine QV QP ?_ | refine QZ ?_ | refine QV QhT ?_ | refine QV QhF ?_)
  exact E_ret1 rfl rfl fun w hm => hm.ret
set_option maxHeartbeats 2000000 in
theorem romLook_calls (u : Value) (w : World) (h : ∀ w', Gr w w' → Calls Try.prog 13 #[u, .int .i64 99] w' (Meets (ret (.bool true)) w')) : Calls Try.prog 15 #[u] w (Meets (ret (.bool false)) w) := by
  refine enter (args := [u]) (n := 6) Try.func15 rfl rfl rfl ?_
  repeat (first
    | refine QV QP ?_ | refine QZ ?_ | refine QV (rr_not rfl rfl) ?_)
  refine TL_call (he2 EntersC.en rfl rfl rfl) (fun w hm => h _ hm.below) rfl rfl rfl ?_
  intro _ _
  repeat (first
    | refine QV QP ?_ | refine QZ ?_ | refine QV (rr_not rfl rfl) ?_)
  exact E_ret1 rfl rfl fun w hm => hm.ret
/-- all rooms are as they were made -/
theorem romAll_calls {F : Nat → Prop} {vs : List Value} {N : List (List Int)} {v : Value} {w : World} (hl : ∀ l ∈ N, l.length + 3 ≤ 9223372036854775807) (hr : (folR v vs).holds w) (h : (romO F vs N).holds w) :
    Calls Try.prog 14 #[v, .func (.func 15) #[] #[]] w (Meets (ret (.bool false)) w) :=
  containsNone_calls v vs w (Sl.of_own hr) _ #[] #[] EntersC.en fun a ha w' hg => romLook_calls a w' fun w'' hg' => rom_fill hl h (hg.trans hg') ha
theorem eq_ofG (o : Of) (w : World) : ∀ is : List Nat, (∀ i ∈ is, i < 256) → (Op.eqItems 9999 5 1 (ofC o).toArray (ofC o).toArray is).run Try.prog w = .ok true w
  | [], _ => by simp [Op.eqItems]
  | i :: is, h => by
    have hi := h i (by simp)
    have hx : (ofC o).toArray[i * 1]? = some (.int .u8 (o[i] : Int)) := by
      rw [Nat.mul_one, List.getElem?_toArray]
      unfold ofC
      rw [List.getElem?_map, List.getElem?_eq_getElem (by simpa using hi), Vector.getElem_toList]; rfl
    have hp := run_part_plain (P := Try.prog) (w := w) (e := 5) (by kernel_rfl) hx
    have he : (Op.equalIn 9999 5 (.int .u8 (o[i] : Int)) (.int .u8 (o[i] : Int))).run Try.prog w = .ok true w := by
      simp [go_sem]
    rw [Op.eqItems]
    simp only [Sem.run_bind, hp, he, Result.andThen_ok, Bool.not_true, Bool.false_eq_true, if_false]
    exact eq_ofG o w is fun j hj => h j (by simp [hj])
set_option maxRecDepth 100000 in
theorem eq_of256 (o : Of) (w : World) : (Op.equalIn 10000 22 (.agg (ofC o).toArray) (.agg (ofC o).toArray)).run Try.prog w = .ok true w := by
  rw [run_equalIn_array (P := Try.prog) w 9999 (n := 256) (e := 5) _ _ rfl rfl]
  exact eq_ofG o w _ fun i hi => by simpa using hi
set_option maxRecDepth 100000 in
set_option maxHeartbeats 2000000 in
theorem samePk_calls (o : Of) (vn vt vn' vt' : Value) (N : List (List Int)) (tags : List Int) (w : World) (h : PkI w vn vt N tags) (h' : PkI w vn' vt' N tags) :
    Calls Try.prog 12 #[pkV o vn vt, pkV o vn' vt'] w (Meets (ret (.bool true)) w) := by
  have q1 := fun w' (hg : Gr w w') => equalFol_calls vn vn' N w' (slii_gr h.hN hg) (slii_gr h'.hN hg)
  have q2 := fun w' (hg : Gr w w') => equalSmIn_calls vt vt' tags tags w' (h.hT.gr hg) (h'.hT.gr hg)
  simp only [decide_true] at q2
  have heq := eq_of256 o
  clear h h'
  refine enter (args := [pkV o vn vt, pkV o vn' vt']) (n := 24) Try.func12 rfl rfl rfl ?_
  refine T_seq (T_region (TL_box rfl rfl rfl fun g2 => TL_box rfl rfl rfl fun g3 => ?_))
  conv => arg 8; simp only [zA, zB, zC, zD, zE, zF, zG, zH, zI, rowS, ret, id_eq]
  repeat (first
    | refine QV QP ?_ | refine QZ ?_ | refine qs rfl rfl rfl rfl rfl rfl ?_
    | ((try refine qg rfl rfl rfl ?_); first | refine QV QP ?_ | refine QV (rr_loadN (cs := ofC o) TyC.ty rfl (ofC_len o) (fun j v hj => at_blk (i := 0) rfl (pk_ofC _ _ _ hj))) ?_ | refine QV (rr_loadN (cs := ofC o) TyC.ty rfl (ofC_len o) (fun j v hj => at_blk (i := 1) rfl (pk_ofC _ _ _ hj))) ?_ | refine QV (rr_aggeq rfl rfl (by kernel_rfl) heq) ?_ | refine QV (rr_load1 (v := vn) TyC.ty rfl (at_blk (i := 0) rfl (pk_next _ _ _))) ?_ | refine QV (rr_load1 (v := vn') TyC.ty rfl (at_blk (i := 1) rfl (pk_next _ _ _))) ?_ | refine QV QA ?_))
  refine TL_gcall (he3 EntersC.en rfl rfl rfl rfl) (fun w hm => q1 _ hm.below) rfl rfl rfl rfl rfl ?_
  intro _ _
  conv => arg 8; simp only [zA, zB, zC, zD, zE, zF, zG, zH, zI, rowS, ret, id_eq]
  repeat (first
    | refine QV QP ?_ | refine QZ ?_ | refine qs rfl rfl rfl rfl rfl rfl ?_
    | ((try refine qg rfl rfl rfl ?_); first | refine QV QP ?_ | refine QV (rr_load1 (v := vt) TyC.ty rfl (at_blk (i := 0) rfl (pk_tags _ _ _))) ?_ | refine QV (rr_load1 (v := vt') TyC.ty rfl (at_blk (i := 1) rfl (pk_tags _ _ _))) ?_ | refine QV QA ?_))
  refine TL_gcall (he2 EntersC.en rfl rfl rfl) (fun w hm => q2 _ hm.below) rfl rfl rfl rfl rfl ?_
  intro _ _
  conv => arg 8; simp only [zA, zB, zC, zD, zE, zF, zG, zH, zI, rowS, ret, id_eq]
  repeat (first
    | refine QV QP ?_ | refine QZ ?_ | refine qs rfl rfl rfl rfl rfl rfl ?_ | ((try refine qg rfl rfl rfl ?_); first | refine QV QP ?_ | refine QV QA ?_))
  exact E_ret1 rfl rfl fun w hm => hm.ret
end Go.Proofs.Ytkmemlnkijinlaa.eng


/- How rfc.Split parts a text, in lists' words. -/
import Derived.Test.YtiihgddpejmehaaStr
import Derived.Test.YtiihgddpejmehaaZA2
import Derived.Test.YtiihgddpejmehaaZA3
namespace Go.Proofs.Ytiihgddpejmehaa.Rf
open Go.RowKit Go.Proofs.YtiihgddpejmehaaW.PrintWords Go.Proofs.Ytiihgddpejmehaa.L Go.Proofs.Ytiihgddpejmehaa.Str Go.Proofs.Ytiihgddpejmehaa.ZA

/-- Are all bytes of a text ASCII? -/
theorem rfc_anyAt_eq (l m : List UInt8) (hm : (m.all fun x => decide (x.toNat < 128)) = true) : rfc_anyAt.f (S l) (S m) = some (if (l.any fun c => m.contains c) = true then (fi (fun c => m.contains c) l : Int) else -1) := by
 have h : rfc_anyAt.f (S l) (S m) = if (m.all fun x => decide (x.toNat < 128)) = true then some (Runes.anyIdx l m) else none := rfl
 rw [h, if_pos hm, anyIdx_eq]
theorem rfc_upTo_eq (l m : List UInt8) (hm : (m.all fun x => decide (x.toNat < 128)) = true) : rfc_upTo.f (S l) (S m) = some (S (l.takeWhile fun c => !m.contains c), S (l.dropWhile fun c => !m.contains c)) := by
 unfold rfc_upTo.f
 rw [rfc_anyAt_eq l m hm]
 simp only [Option.bind_some]
 by_cases h : (l.any fun c => m.contains c) = true
 ·have hlt : fi (fun c => m.contains c) l < l.length := by
   rw [fi_lt]; obtain ⟨x, hx, hp⟩ := List.any_eq_true.1 h; exact ⟨x, hx, hp⟩
  rw [if_pos h, if_neg (by omega), if_pos (by omega), if_pos (by rw [S_size]; omega), Int.toNat_natCast, S_upto, S_from, take_fi, drop_fi]
 ·have hn : fi (fun c => m.contains c) l = l.length := by
   apply List.findIdx_eq_length.2
   intro x hx
   have h2 : (l.any fun c => m.contains c) = false := Bool.eq_false_iff.2 h
   exact List.any_eq_false.1 h2 x hx |> Bool.eq_false_iff.2
  rw [if_neg h, if_pos (by omega)]
  have h1 : (l.takeWhile fun c => !m.contains c) = l := by rw [← take_fi, hn, List.take_length]
  have h2 : (l.dropWhile fun c => !m.contains c) = [] := by rw [← drop_fi, hn, List.drop_length]
  rw [h1, h2]
  rfl


def no1 (c : UInt8) : Bool := !([58, 47, 63, 35] : List UInt8).contains c
def no2 (c : UInt8) : Bool := !([47, 63, 35] : List UInt8).contains c
/-- scheme, what is behind it, is there one? -/
def schemeL (w : List UInt8) : List UInt8 × List UInt8 × Bool :=
 if w.takeWhile no1 ≠ [] ∧ ([58] : List UInt8).isPrefixOf (w.dropWhile no1) = true then (w.takeWhile no1, (w.dropWhile no1).drop 1, true) else ([], w, false)
def authL (w : List UInt8) : List UInt8 × List UInt8 × Bool :=
 if ([47, 47] : List UInt8).isPrefixOf w = true then ((w.drop 2).takeWhile no2, (w.drop 2).dropWhile no2, true) else ([], w, false)
def tailL (w : List UInt8) : List UInt8 := (authL (schemeL w).2.1).2.1
structure Parts where
 a : List UInt8
 b : List UInt8
 c : List UInt8
 d : List UInt8
 e : List UInt8
 h0 : Bool
 h1 : Bool
 h2 : Bool
 h3 : Bool
def splitL (w : List UInt8) : Parts :=
 ⟨(schemeL w).1, (authL (schemeL w).2.1).1, (cutL (cutL (tailL w) 35).1 63).1, (cutL (cutL (tailL w) 35).1 63).2.1, (cutL (tailL w) 35).2.1, (schemeL w).2.2, (authL (schemeL w).2.1).2.2, (cutL (cutL (tailL w) 35).1 63).2.2, (cutL (tailL w) 35).2.2⟩
def toP (p : Parts) : ByteArray × ByteArray × ByteArray × ByteArray × ByteArray × Bool × Bool × Bool × Bool := (S p.a, S p.b, S p.c, S p.d, S p.e, p.h0, p.h1, p.h2, p.h3)
theorem take_len (p : UInt8 → Bool) (l : List UInt8) : (l.takeWhile p).length ≤ l.length := (List.takeWhile_prefix _).length_le
theorem drop_len (p : UInt8 → Bool) (l : List UInt8) : (l.dropWhile p).length ≤ l.length := (List.dropWhile_suffix _).length_le
theorem cut1_len (l : List UInt8) (c : UInt8) : (cutL l c).1.length ≤ l.length := take_len _ _
theorem split_j1 (x : List UInt8) (hx : Sm x) (a : List UInt8) (h0 : Bool) (k : Nat) :
  rfc_Split.j1 (k + 1) (S x) (S a) (S []) h0 false false false = some (S a, S (authL x).1, S (cutL (cutL (authL x).2.1 35).1 63).1, S (cutL (cutL (authL x).2.1 35).1 63).2.1, S (cutL (authL x).2.1 35).2.1, h0, (authL x).2.2, (cutL (cutL (authL x).2.1 35).1 63).2.2, (cutL (authL x).2.1 35).2.2) := by
 rw [rfc_Split.j1]
 refine Option.bind_eq_some_iff.2 ⟨_, CutPrefix_eq x [47, 47], ?_⟩
 unfold authL
 by_cases h : ([47, 47] : List UInt8).isPrefixOf x = true
 ·rw [if_pos h, if_pos rfl, if_pos h]
  refine Option.bind_eq_some_iff.2 ⟨_, rfc_upTo_eq (x.drop 2) [47, 63, 35] (by decide), ?_⟩
  have hl := drop_len no2 (x.drop 2)
  have hd : Sm ((x.drop 2).dropWhile no2) := by
   unfold Sm at *
   rw [List.length_drop] at hl
   omega
  refine Option.bind_eq_some_iff.2 ⟨_, Cut_eq ((x.drop 2).dropWhile no2) hd 35, ?_⟩
  refine Option.bind_eq_some_iff.2 ⟨_, Cut_eq _ (by have := cut1_len ((x.drop 2).dropWhile no2) 35; unfold Sm at *; omega) 63, ?_⟩
  rfl
 ·rw [if_neg h, if_neg (show ¬ (false = true) by decide), if_neg h]
  refine Option.bind_eq_some_iff.2 ⟨_, Cut_eq x hx 35, ?_⟩
  refine Option.bind_eq_some_iff.2 ⟨_, Cut_eq _ (by have := cut1_len x 35; unfold Sm at *; omega) 63, ?_⟩
  rfl
theorem Split_ev (w : List UInt8) (hw : Sm w) (k : Nat) (hk : 2 ≤ k) : rfc_Split.f k (S w) = some (toP (splitL w)) := by
 obtain ⟨k, rfl⟩ : ∃ m, k = m + 2 := ⟨k - 2, by omega⟩
 unfold rfc_Split.f
 refine Option.bind_eq_some_iff.2 ⟨_, rfc_upTo_eq w [58, 47, 63, 35] (by decide), ?_⟩
 have hl := drop_len no1 w
 have key : ∀ b : Bool, b = decide (w.takeWhile no1 ≠ [] ∧ ([58] : List UInt8).isPrefixOf (w.dropWhile no1) = true) → rfc_Split.j0 (k + 2) (S w) (S []) (S []) (S (w.takeWhile no1)) (S (w.dropWhile no1)) b false false false false = some (toP (splitL w)) := by
  intro b hb
  rw [rfc_Split.j0]
  unfold splitL tailL schemeL toP
  by_cases h : w.takeWhile no1 ≠ [] ∧ ([58] : List UInt8).isPrefixOf (w.dropWhile no1) = true
  ·have hlen : 1 ≤ (w.dropWhile no1).length := (List.isPrefixOf_iff_prefix.1 h.2).length_le
   rw [if_pos (by rw [hb, decide_eq_true h]), if_pos (by rw [S_size]; omega), S_from, if_pos h]
   exact split_j1 _ (by unfold Sm at *; rw [List.length_drop]; omega) _ true k
  ·rw [if_neg (by rw [hb, decide_eq_false h]; decide), if_neg h]
   exact split_j1 w hw [] false k
 by_cases h0 : w.takeWhile no1 = []
 ·rw [if_pos (by show (S (w.takeWhile no1)).toList = _; rw [S_toList, h0])]
  exact key false (by rw [decide_eq_false (fun h => h.1 h0)])
 ·rw [if_neg (by show ¬ (S (w.takeWhile no1)).toList = _; rw [S_toList]; exact h0)]
  refine Option.bind_eq_some_iff.2 ⟨_, HasPrefix_eq (w.dropWhile no1) [58], ?_⟩
  refine key _ ?_
  by_cases hp : ([58] : List UInt8).isPrefixOf (w.dropWhile no1) = true
  ·rw [hp, decide_eq_true ⟨h0, rfl⟩]
  ·rw [Bool.eq_false_iff.2 hp, decide_eq_false (fun h => absurd h.2 (by decide))]
end Go.Proofs.Ytiihgddpejmehaa.Rf
-- shrunk

/- What the printed functions of package strings tell, in lists' words. -/
import Derived.Test.YtiihgddpejmehaaGreatDoorLists
import Derived.Test.YtiihgddpejmehaaGreatDoorZA2
import Derived.Test.YtiihgddpejmehaaGreatDoorZA3
import Derived.Test.YtiihgddpejmehaaGreatDoorZA5
import Derived.Test.YtiihgddpejmehaaGreatDoorZA8
namespace Go.Proofs.YtiihgddpejmehaaGreatDoor.Str
open Go.RowKit Go.Proofs.YtiihgddpejmehaaGreatDoorW.PrintWords Go.Proofs.YtiihgddpejmehaaGreatDoor.L Go.Proofs.YtiihgddpejmehaaGreatDoor.ZA

theorem lit (l : List UInt8) : (⟨l.toArray⟩ : ByteArray) = S l := rfl
theorem wrap_succ (i : Nat) (h : i ≤ 140737488355328) : wrap64 ((i : Int) + 1) = ((i + 1 : Nat) : Int) := by rw [wrap_id (by omega) (by omega)]; omega
/-- A text's bound that all laws keep to. -/
abbrev Sm (l : List UInt8) : Prop := l.length ≤ 140737488351232

theorem Index_eq (l : List UInt8) (c : UInt8) : stringslite_Index.f (S l) (S [c]) = some (if l.contains c = true then (fi (fun x => x == c) l : Int) else -1) := by
  show some (Lib.indexByte l c) = _
  rw [indexByte_eq]
theorem fi_contains {l : List UInt8} {c : UInt8} (h : l.contains c = true) : fi (fun x => x == c) l < l.length := by
  rw [fi_lt]; exact ⟨c, by simpa using h, by simp⟩
theorem fi_none {l : List UInt8} {c : UInt8} (h : ¬ l.contains c = true) : fi (fun x => x == c) l = l.length := by
  apply List.findIdx_eq_length.2
  intro x hx
  have : c ∉ l := by simpa using h
  simp
  intro e; subst e; exact this hx
/-- Ahead of the first c; behind it; is there one? -/
def cutL (l : List UInt8) (c : UInt8) : List UInt8 × List UInt8 × Bool := (l.takeWhile (fun x => !(x == c)), (l.dropWhile (fun x => !(x == c))).drop 1, l.contains c)
theorem Cut_eq (l : List UInt8) (hl : Sm l) (c : UInt8) : strings_Cut.f (S l) (S [c]) = some (S (cutL l c).1, S (cutL l c).2.1, (cutL l c).2.2) := by
  unfold strings_Cut.f stringslite_Cut.f cutL
  rw [Index_eq]
  simp only [Option.bind_some]
  by_cases h : l.contains c = true
  · have hlt := fi_contains h
    rw [if_pos h, if_pos (by omega), if_pos (by omega), if_pos (by rw [S_size]; omega)]
    have hw : wrap64 ((fi (fun x => x == c) l : Int) + ((S [c]).size : Int)) = ((fi (fun x => x == c) l + 1 : Nat) : Int) := by
      rw [S_size, List.length_singleton]; exact wrap_succ _ (by unfold Sm at hl; omega)
    rw [hw, if_pos (by omega), if_pos (by rw [S_size]; omega)]
    simp only [Option.bind_some, Int.toNat_natCast]
    rw [S_upto, S_from, take_fi, ← List.drop_drop, drop_fi, h]
  · have hn := fi_none h
    rw [if_neg h, if_neg (by omega)]
    simp only [Option.bind_some]
    have h1 : l.takeWhile (fun x => !(x == c)) = l := by rw [← take_fi, hn, List.take_length]
    have h2 : l.dropWhile (fun x => !(x == c)) = [] := by rw [← drop_fi, hn, List.drop_length]
    have h3 : l.contains c = false := by simpa using h
    rw [h1, h2, h3]
    rfl
theorem HasPrefix_eq (l p : List UInt8) : strings_HasPrefix.f (S l) (S p) = some (p.isPrefixOf l) := by
  unfold strings_HasPrefix.f stringslite_HasPrefix.f
  have key := Lib.hasPrefix_of_take l p
  unfold Lib.hasPrefix at key
  by_cases h : p.length ≤ l.length
  · rw [if_pos (by rw [S_size, S_size]; omega), if_pos (by rw [S_size]; omega), if_pos (by rw [S_size, S_size]; omega)]
    simp only [Option.bind_some, S_size, Int.toNat_natCast, S_upto, S_toList]
    rw [← key, decide_eq_true h, Bool.true_and]
  · rw [if_neg (by rw [S_size, S_size]; omega)]
    simp only [Option.bind_some]
    rw [← key, decide_eq_false h, Bool.false_and]
theorem IndexByte_eq (l : List UInt8) (c : UInt8) : strings_IndexByte.f (S l) (c.toNat : Int) = some (if l.contains c = true then (fi (fun x => x == c) l : Int) else -1) := by
  have h : strings_IndexByte.f (S l) (c.toNat : Int) = some (Lib.indexByte l ((c.toNat : Int).toNat.toUInt8)) := rfl
  rw [h, Int.toNat_natCast]
  have : c.toNat.toUInt8 = c := by simp
  rw [this, indexByte_eq]
/-- What is behind the last c; all, if there is none. -/
def behindLast (c : UInt8) (l : List UInt8) : List UInt8 := (l.reverse.takeWhile (fun x => !(x == c))).reverse
theorem behindLast_snoc (c : UInt8) (l : List UInt8) : behindLast c (l ++ [c]) = [] := by simp [behindLast]
theorem behindLast_other {c x : UInt8} (h : x ≠ c) (l : List UInt8) : behindLast c (l ++ [x]) = behindLast c l ++ [x] := by
  simp [behindLast, h]
/-- The place behind the last c among the first n bytes. -/
def lastAt (c : UInt8) (l : List UInt8) : Nat → Nat
  | 0 => 0
  | n + 1 => if l[n]? = some c then n + 1 else lastAt c l n
theorem lastAt_le (c : UInt8) (l : List UInt8) : ∀ n, lastAt c l n ≤ n
  | 0 => Nat.le_refl _
  | n + 1 => by
    have := lastAt_le c l n
    unfold lastAt
    split <;> omega
theorem lastAt_drop (c : UInt8) (l : List UInt8) : ∀ n, n ≤ l.length → (l.take n).drop (lastAt c l n) = behindLast c (l.take n)
  | 0, _ => rfl
  | n + 1, h => by
    have ih := lastAt_drop c l n (by omega)
    have hle := lastAt_le c l n
    have hlt : n < l.length := by omega
    have e : l.take (n + 1) = l.take n ++ [l[n]] := List.take_succ_eq_append_getElem hlt
    unfold lastAt
    by_cases hc : l[n]? = some c
    · rw [if_pos hc]
      have hc2 : l[n] = c := by rw [List.getElem?_eq_getElem hlt] at hc; exact Option.some.inj hc
      rw [e, hc2, behindLast_snoc]
      apply List.drop_of_length_le
      simp; omega
    · rw [if_neg hc]
      have hc2 : l[n] ≠ c := by rw [List.getElem?_eq_getElem hlt] at hc; exact fun e => hc (by rw [e])
      rw [e, behindLast_other hc2, ← ih, List.drop_append_of_le_length (by rw [List.length_take]; omega)]
theorem LastLoop (l : List UInt8) (hl : Sm l) (c : UInt8) : ∀ (n k : Nat), n ≤ l.length → n < k → bytealg_LastIndexByteString.l0 k (S l) (c.toNat : Int) ((n : Int) - 1) = some ((lastAt c l n : Int) - 1)
  | 0, k, _, hk => by
    obtain ⟨k, rfl⟩ : ∃ m, k = m + 1 := ⟨k - 1, by omega⟩
    simp only [bytealg_LastIndexByteString.l0]
    rw [if_neg (by omega)]
    rfl
  | n + 1, k, h, hk => by
    obtain ⟨k, rfl⟩ : ∃ m, k = m + 1 := ⟨k - 1, by omega⟩
    have ih := LastLoop l hl c n k (by omega) (by omega)
    have hlt : n < l.length := by omega
    have e : (((n + 1 : Nat) : Int) - 1) = (n : Int) := by omega
    simp only [bytealg_LastIndexByteString.l0]
    rw [e, if_pos (by omega), if_pos (by omega), if_pos (by rw [S_size]; omega), bt_S l n hlt]
    have hw : wrap64 ((n : Int) - 1) = (n : Int) - 1 := wrap_id (by omega) (by unfold Sm at hl; omega)
    unfold lastAt
    by_cases hc : l[n] = c
    · rw [if_pos (by rw [hc]), if_pos (by rw [List.getElem?_eq_getElem hlt, hc])]
      congr 1; omega
    · have hc2 : ¬ ((l[n].toNat : Int) = (c.toNat : Int)) := fun h => hc (UInt8.toNat_inj.1 (by omega))
      rw [if_neg hc2, hw, if_neg (by rw [List.getElem?_eq_getElem hlt]; exact fun h => hc (Option.some.inj h)), ih]
theorem LastIndexByte_ev (l : List UInt8) (hl : Sm l) (c : UInt8) : ∀ k, l.length < k → strings_LastIndexByte.f k (S l) (c.toNat : Int) = some ((lastAt c l l.length : Int) - 1) := by
  intro k hk
  unfold strings_LastIndexByte.f bytealg_LastIndexByteString.f
  have hw : wrap64 (((S l).size : Int) - 1) = (l.length : Int) - 1 := by rw [S_size]; exact wrap_id (by omega) (by unfold Sm at hl; omega)
  rw [hw, LastLoop l hl c l.length k (Nat.le_refl _) hk]
  rfl
theorem CutPrefix_eq (l p : List UInt8) : strings_CutPrefix.f (S l) (S p) = some (if p.isPrefixOf l = true then (S (l.drop p.length), true) else (S l, false)) := by
  have h := HasPrefix_eq l p
  unfold strings_HasPrefix.f at h
  unfold strings_CutPrefix.f stringslite_CutPrefix.f
  obtain ⟨b, hb⟩ : ∃ b, stringslite_HasPrefix.f (S l) (S p) = some b := by
    cases hh : stringslite_HasPrefix.f (S l) (S p) with
    | none => rw [hh] at h; exact absurd h (by simp)
    | some b => exact ⟨b, rfl⟩
  rw [hb] at h
  simp only [Option.bind_some, Option.some.injEq] at h
  rw [hb]
  simp only [Option.bind_some]
  subst h
  by_cases hp : p.isPrefixOf l = true
  · have hlen : p.length ≤ l.length := (List.isPrefixOf_iff_prefix.1 hp).length_le
    rw [hp]
    simp only [if_true]
    rw [if_pos (by rw [S_size]; omega), if_pos (by rw [S_size, S_size]; omega)]
    simp only [Option.bind_some, S_size, Int.toNat_natCast]
    rw [← S_size l, S_from]
  · rw [if_neg hp, if_neg hp]
    rfl
end Go.Proofs.YtiihgddpejmehaaGreatDoor.Str

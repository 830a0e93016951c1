/- What the printed functions of package strings tell, in lists' words. -/
import Derived.Test.YtpejenbhgfbjjaaLists
import Derived.Test.YtpejenbhgfbjjaaZA2
import Derived.Test.YtpejenbhgfbjjaaZA3
namespace Go.Proofs.Ytpejenbhgfbjjaa.Str
open Go.RowKit Go.Proofs.YtpejenbhgfbjjaaW.PrintWords Go.Proofs.Ytpejenbhgfbjjaa.L Go.Proofs.Ytpejenbhgfbjjaa.ZA

theorem lit (l : List UInt8) : (⟨l.toArray⟩ : ByteArray) = S l := rfl
theorem wrap_succ (i : Nat) (h : i ≤ 140737488355328) : wrap64 ((i : Int) + 1) = ((i + 1 : Nat) : Int) := by rw [wrap_id (by omega) (by omega)]; omega
/-- A text's bound that all laws keep to. -/
abbrev Sm (l : List UInt8) : Prop := l.length ≤ 140737488351232

theorem Index_eq (l : List UInt8) (c : UInt8) : stringslite_Index.f (S l) (S [c]) = some (if l.contains c = true then (fi (fun x => x == c) l : Int) else -1) := by
  show some (Lib.indexByte l c) = _
  rw [indexByte_eq]
theorem fi_contains {l : List UInt8} {c : UInt8} (h : l.contains c = true) : fi (fun x => x == c) l < l.length := by
  rw [fi_lt]; exact ⟨c, by simpa using h, by simp⟩
theorem fi_none {l : List UInt8} {c : UInt8} (h : ¬ l.contains c = true) : fi (fun x => x == c) l = l.length := by
  apply List.findIdx_eq_length.2
  intro x hx
  have : c ∉ l := by simpa using h
  simp
  intro e; subst e; exact this hx
/-- Ahead of the first c; behind it; is there one? -/
def cutL (l : List UInt8) (c : UInt8) : List UInt8 × List UInt8 × Bool := (l.takeWhile (fun x => !(x == c)), (l.dropWhile (fun x => !(x == c))).drop 1, l.contains c)
theorem Cut_eq (l : List UInt8) (hl : Sm l) (c : UInt8) : strings_Cut.f (S l) (S [c]) = some (S (cutL l c).1, S (cutL l c).2.1, (cutL l c).2.2) := by
  unfold strings_Cut.f stringslite_Cut.f cutL
  rw [Index_eq]
  simp only [Option.bind_some]
  by_cases h : l.contains c = true
  · have hlt := fi_contains h
    rw [if_pos h, if_pos (by omega), if_pos (by omega), if_pos (by rw [S_size]; omega)]
    have hw : wrap64 ((fi (fun x => x == c) l : Int) + ((S [c]).size : Int)) = ((fi (fun x => x == c) l + 1 : Nat) : Int) := by
      rw [S_size, List.length_singleton]; exact wrap_succ _ (by unfold Sm at hl; omega)
    rw [hw, if_pos (by omega), if_pos (by rw [S_size]; omega)]
    simp only [Option.bind_some, Int.toNat_natCast]
    rw [S_upto, S_from, take_fi, ← List.drop_drop, drop_fi, h]
  · have hn := fi_none h
    rw [if_neg h, if_neg (by omega)]
    simp only [Option.bind_some]
    have h1 : l.takeWhile (fun x => !(x == c)) = l := by rw [← take_fi, hn, List.take_length]
    have h2 : l.dropWhile (fun x => !(x == c)) = [] := by rw [← drop_fi, hn, List.drop_length]
    have h3 : l.contains c = false := by simpa using h
    rw [h1, h2, h3]
    rfl
theorem HasPrefix_eq (l p : List UInt8) : strings_HasPrefix.f (S l) (S p) = some (p.isPrefixOf l) := by
  unfold strings_HasPrefix.f stringslite_HasPrefix.f
  have key := Lib.hasPrefix_of_take l p
  unfold Lib.hasPrefix at key
  by_cases h : p.length ≤ l.length
  · rw [if_pos (by rw [S_size, S_size]; omega), if_pos (by rw [S_size]; omega), if_pos (by rw [S_size, S_size]; omega)]
    simp only [Option.bind_some, S_size, Int.toNat_natCast, S_upto, S_toList]
    rw [← key, decide_eq_true h, Bool.true_and]
  · rw [if_neg (by rw [S_size, S_size]; omega)]
    simp only [Option.bind_some]
    rw [← key, decide_eq_false h, Bool.false_and]
theorem IndexByte_eq (l : List UInt8) (c : UInt8) : strings_IndexByte.f (S l) (c.toNat : Int) = some (if l.contains c = true then (fi (fun x => x == c) l : Int) else -1) := by
  have h : strings_IndexByte.f (S l) (c.toNat : Int) = some (Lib.indexByte l ((c.toNat : Int).toNat.toUInt8)) := rfl
  rw [h, Int.toNat_natCast]
  have : c.toNat.toUInt8 = c := by simp
  rw [this, indexByte_eq]
theorem TrimPrefix_eq (l p : List UInt8) : strings_TrimPrefix.f (S l) (S p) = some (S (Lib.trimPrefix l p)) := by
  have h := HasPrefix_eq l p
  unfold strings_HasPrefix.f at h
  unfold strings_TrimPrefix.f stringslite_TrimPrefix.f Lib.trimPrefix Lib.hasPrefix
  obtain ⟨b, hb⟩ : ∃ b, stringslite_HasPrefix.f (S l) (S p) = some b := by
    cases hh : stringslite_HasPrefix.f (S l) (S p) with
    | none => rw [hh] at h; exact absurd h (by simp)
    | some b => exact ⟨b, rfl⟩
  rw [hb] at h
  simp only [Option.bind_some, Option.some.injEq] at h
  rw [hb]
  simp only [Option.bind_some]
  subst h
  by_cases hp : p.isPrefixOf l = true
  · have hlen : p.length ≤ l.length := (List.isPrefixOf_iff_prefix.1 hp).length_le
    rw [hp]
    simp only [if_true]
    rw [if_pos (by rw [S_size]; omega), if_pos (by rw [S_size, S_size]; omega)]
    simp only [Option.bind_some, S_size, Int.toNat_natCast]
    rw [← S_size l, S_from]
  · have hp2 : p.isPrefixOf l = false := Bool.eq_false_iff.2 hp
    rw [hp2]
    simp
end Go.Proofs.Ytpejenbhgfbjjaa.Str

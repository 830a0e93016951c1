/- Texts as lists of bytes: plain lemmas, no program. -/
import Derived.Test.YtiihgddpejmehaaGreatDoorWWords
import Derived.Test.YtiihgddpejmehaaGreatDoorRunes
import Derived.Lib.Bytealg
namespace Go.Proofs.YtiihgddpejmehaaGreatDoor.L
open Go.RowKit Go.Proofs.YtiihgddpejmehaaGreatDoorW.PrintWords

/-- A text out of its bytes. -/
def S (l : List UInt8) : ByteArray := ⟨l.toArray⟩
theorem S_surj (a : ByteArray) : ∃ l, a = S l := ⟨a.data.toList, by obtain ⟨⟨l⟩⟩ := a; rfl⟩
@[simp] theorem S_data (l : List UInt8) : (S l).data.toList = l := rfl
@[simp] theorem S_size (l : List UInt8) : (S l).size = l.length := rfl
@[simp] theorem S_toList (l : List UInt8) : (S l).toList = l := by rw [Lib.toList_data]; rfl
theorem S_inj {l m : List UInt8} (h : S l = S m) : l = m := by rw [← S_data l, h, S_data]
theorem S_extract (l : List UInt8) (a b : Nat) : (S l).extract a b = S ((l.drop a).take (b - a)) := by
  rw [Lib.extract_eq]; rfl
theorem S_from (l : List UInt8) (a : Nat) : (S l).extract a (S l).size = S (l.drop a) := by
  rw [S_extract, S_size, List.take_of_length_le (by simp)]
theorem S_upto (l : List UInt8) (b : Nat) : (S l).extract 0 b = S (l.take b) := by
  rw [S_extract]; simp
theorem S_append (l m : List UInt8) : S l ++ S m = S (l ++ m) := by
  apply ByteArray.ext
  show (S l ++ S m).data = (S (l ++ m)).data
  rw [ByteArray.data_append]
  simp [S]
theorem bt_S (l : List UInt8) (i : Nat) (h : i < l.length) : bt (S l) (i : Int) = (l[i].toNat : Int) := by
  exact (bt_at (S l) (i : Int) (by simpa using h)).symm
theorem wrap_id {x : Int} (h0 : -9223372036854775808 ≤ x) (h1 : x ≤ 9223372036854775807) : wrap64 x = x := IntWalk.wrap64_in x ⟨h0, h1⟩

/-- The first place of a byte with p; the length, if there is none. -/
abbrev fi (p : UInt8 → Bool) (l : List UInt8) : Nat := l.findIdx p
theorem take_fi (p : UInt8 → Bool) (l : List UInt8) : l.take (fi p l) = l.takeWhile (fun c => !p c) := by
  rw [List.takeWhile_eq_take_findIdx_not]; simp
theorem drop_fi (p : UInt8 → Bool) (l : List UInt8) : l.drop (fi p l) = l.dropWhile (fun c => !p c) := by
  rw [List.dropWhile_eq_drop_findIdx_not]; simp
theorem fi_le (p : UInt8 → Bool) (l : List UInt8) : fi p l ≤ l.length := List.findIdx_le_length
theorem fi_lt {p : UInt8 → Bool} {l : List UInt8} : fi p l < l.length ↔ ∃ x ∈ l, p x = true := List.findIdx_lt_length

theorem indexByte_eq (c : UInt8) : ∀ l, Lib.indexByte l c = if l.contains c = true then (fi (fun x => x == c) l : Int) else -1
  | [] => by simp [Lib.indexByte]
  | b :: l => by
    have ih := indexByte_eq c l
    unfold Lib.indexByte
    by_cases hb : (b == c) = true
    · have hb' : b = c := by simpa using hb
      rw [if_pos hb]
      simp [hb', fi, List.findIdx_cons]
    · have hb' : ¬ b = c := by simpa using hb
      have hcb : ¬ c = b := fun h => hb' h.symm
      rw [if_neg hb, ih]
      by_cases hm : l.contains c = true
      · have hm2 : c ∈ l := by simpa using hm
        rw [if_pos hm]
        have : ¬ ((fi (fun x => x == c) l : Int) == -1) = true := by rw [beq_iff_eq]; omega
        rw [if_neg this]
        have hbf : (b == c) = false := by simpa using hb
        simp [hm2, fi, List.findIdx_cons, hbf]
      · have hm2 : ¬ c ∈ l := by simpa using hm
        rw [if_neg hm]
        simp [hm2, hcb]
theorem anyIdx_eq (m : List UInt8) : ∀ l, Runes.anyIdx l m = if (l.any fun c => m.contains c) = true then (fi (fun c => m.contains c) l : Int) else -1
  | [] => by simp [Runes.anyIdx]
  | b :: l => by
    have ih := anyIdx_eq m l
    unfold Runes.anyIdx
    by_cases hb : m.contains b = true
    · rw [if_pos hb]
      simp only [List.any_cons, hb, Bool.true_or, if_true, fi, List.findIdx_cons, cond_true]
      rfl
    · rw [if_neg hb, ih]
      have hb2 : m.contains b = false := by simpa using hb
      simp only [List.any_cons, hb2, Bool.false_or]
      by_cases hm : (l.any fun c => m.contains c) = true
      · rw [if_pos hm, if_neg (by omega)]
        simp only [fi, List.findIdx_cons, hb2, cond_false]
        rw [if_pos hm]
        omega
      · rw [if_neg hm, if_neg hm, if_pos rfl]
end Go.Proofs.YtiihgddpejmehaaGreatDoor.L

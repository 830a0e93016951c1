/- A range over a string's runes, looked at for ASCII bytes alone: plain lemmas, no program. -/
import Derived.Laws.RangeAny
import Derived.Lib.OthersKept
import Derived.Lib.Strings
namespace Go.Proofs.YtiihgddpejmehaaGreatDoor.Runes

/-- The first place of one of some bytes, or -1. -/
def anyIdx : List UInt8 → List UInt8 → Int
  | [], _ => -1
  | b :: l, m => if m.contains b = true then 0 else if anyIdx l m = -1 then -1 else anyIdx l m + 1
theorem anyIdx_ge (m : List UInt8) : ∀ l, -1 ≤ anyIdx l m
  | [] => Int.le_refl _
  | b :: l => by
    have := anyIdx_ge m l
    unfold anyIdx
    split
    · omega
    · split <;> omega
theorem anyIdx_first (m : List UInt8) : ∀ (l : List UInt8) (i : Nat) (h : i < l.length), l[i] ∈ m → (∀ j (hj : j < i), l[j]'(by omega) ∉ m) → anyIdx l m = i
  | [], i, h, _, _ => absurd h (by simp)
  | b :: l, 0, h, hm, _ => by
    unfold anyIdx
    rw [if_pos (by simpa using hm)]
    rfl
  | b :: l, i + 1, h, hm, hn => by
    have h0 : b ∉ m := hn 0 (by omega)
    have ih := anyIdx_first m l i (by simpa using h) (by simpa using hm) (fun j hj => by simpa using hn (j + 1) (by omega))
    unfold anyIdx
    rw [if_neg (by simpa using h0), ih, if_neg (by omega)]
    omega
theorem anyIdx_none (m : List UInt8) : ∀ (l : List UInt8), (∀ x ∈ l, x ∉ m) → anyIdx l m = -1
  | [], _ => rfl
  | b :: l, hn => by
    have h0 : b ∉ m := hn b (List.mem_cons_self ..)
    have ih := anyIdx_none m l (fun x hx => hn x (List.mem_cons_of_mem _ hx))
    unfold anyIdx
    rw [if_neg (by simpa using h0), ih, if_pos rfl]

theorem get_bang (s : ByteArray) (j : Nat) (h : j < s.size) : s.get! j = s[j] := by
  have := get_at s j h
  simpa using this
theorem decode_high2 (s : ByteArray) (pos : Nat) (h : pos < s.size) (ha : 128 ≤ (s[pos]'h).toNat) :
    ∀ j (hj : j < s.size), pos ≤ j → j < pos + (Utf8.decode s pos).2 → 128 ≤ (s[j]'hj).toNat := by
  intro j hj h1 h2
  by_cases e : j = pos
  · subst e; exact ha
  have hn : ¬ (s.get! (pos + 0)).toNat < 0x80 := by rw [get_at s pos h]; omega
  have key : ∀ k, (decide (pos + k < s.size) && (s.get! (pos + k)).toNat / 64 == 2) = true → ∀ (hk : pos + k < s.size), 128 ≤ (s[pos + k]'hk).toNat := by
    intro k hk hlt
    simp only [Bool.and_eq_true, decide_eq_true_eq, beq_iff_eq] at hk
    rw [get_bang s (pos + k) hlt] at hk
    omega
  have hd : (∃ k, k < 4 ∧ j = pos + k ∧ (decide (pos + k < s.size) && (s.get! (pos + k)).toNat / 64 == 2) = true) := by
    revert h2
    unfold Utf8.decode
    simp only [hn, if_false]
    split
    · rename_i c
      simp only [Bool.and_eq_true] at c
      split
      · intro h2
        have : j = pos + 1 := by simp at h2; omega
        exact ⟨1, by omega, this, by simpa using c.2⟩
      · intro h2; exact absurd h2 (by simp; omega)
    · split
      · rename_i c
        simp only [Bool.and_eq_true] at c
        split
        · intro h2
          simp at h2
          rcases (show j = pos + 1 ∨ j = pos + 2 by omega) with e | e
          · exact ⟨1, by omega, e, by simpa using c.1.2⟩
          · exact ⟨2, by omega, e, by simpa using c.2⟩
        · intro h2; exact absurd h2 (by simp; omega)
      · split
        · rename_i c
          simp only [Bool.and_eq_true] at c
          split
          · intro h2
            simp at h2
            rcases (show j = pos + 1 ∨ j = pos + 2 ∨ j = pos + 3 by omega) with e | e | e
            · exact ⟨1, by omega, e, by simpa using c.1.1.2⟩
            · exact ⟨2, by omega, e, by simpa using c.1.2⟩
            · exact ⟨3, by omega, e, by simpa using c.2⟩
          · intro h2; exact absurd h2 (by simp; omega)
        · intro h2; exact absurd h2 (by simp; omega)
  obtain ⟨k, _, rfl, hk⟩ := hd
  exact key k hk hj

/-- What a round of the range sees of ASCII bytes: the byte itself, or none. -/
theorem decode_ascii_or (s : ByteArray) (pos : Nat) (h : pos < s.size) :
    ((s[pos]'h).toNat < 128 ∧ Utf8.decode s pos = ((s[pos]'h).toNat, 1)) ∨
    (128 ≤ (s[pos]'h).toNat ∧ 128 ≤ (Utf8.decode s pos).1 ∧ 1 ≤ (Utf8.decode s pos).2 ∧ ∀ j (hj : j < s.size), pos ≤ j → j < pos + (Utf8.decode s pos).2 → 128 ≤ (s[j]'hj).toNat) := by
  by_cases ha : (s[pos]'h).toNat < 128
  · exact .inl ⟨ha, decode_ascii s pos h ha⟩
  · have hh := decode_high s pos h (by omega)
    exact .inr ⟨by omega, hh.1, hh.2, decode_high2 s pos h (by omega)⟩
end Go.Proofs.YtiihgddpejmehaaGreatDoor.Runes

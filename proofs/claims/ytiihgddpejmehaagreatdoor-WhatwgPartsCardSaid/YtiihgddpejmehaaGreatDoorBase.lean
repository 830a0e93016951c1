/- Sets of bytes as four words: plain lemmas, no program. -/
import Derived.Laws.Bits64b
import Derived.Laws.BitsAllLaws
namespace Go.Proofs.YtiihgddpejmehaaGreatDoor.Base

/-- The number whose bit i (below n) is p (o + i). -/
def bitsUpto (p : Nat → Bool) (o : Nat) : Nat → Nat
  | 0 => 0
  | n + 1 => bitsUpto p o n ||| (if p (o + n) = true then 2 ^ n else 0)
theorem bitsUpto_bit (p : Nat → Bool) (o : Nat) : ∀ n i, (bitsUpto p o n).testBit i = (decide (i < n) && p (o + i))
  | 0, i => by simp [bitsUpto]
  | n + 1, i => by
    have ih := bitsUpto_bit p o n i
    unfold bitsUpto
    rw [Nat.testBit_or, ih]
    by_cases hp : p (o + n) = true
    · rw [if_pos hp, Nat.testBit_two_pow]
      by_cases h1 : i < n
      · have : ¬ n = i := by omega
        have h2 : i < n + 1 := by omega
        simp [h1, this, h2]
      · by_cases h3 : n = i
        · subst h3; simp [hp]
        · have h2 : ¬ i < n + 1 := by omega
          simp [h1, h3, h2]
    · rw [if_neg hp, Nat.zero_testBit]
      by_cases h1 : i < n
      · have h2 : i < n + 1 := by omega
        simp [h1, h2]
      · by_cases h3 : n = i
        · subst h3; simp [hp]
        · have h2 : ¬ i < n + 1 := by omega
          simp [h1, h2]
theorem bitsUpto_lt (p : Nat → Bool) (o n : Nat) : bitsUpto p o n < 2 ^ n :=
  Nat.lt_pow_two_of_testBit _ fun i hi => by rw [bitsUpto_bit]; have : ¬ i < n := by omega
                                             simp [this]
/-- Word j of the set of the bytes c with p c. -/
def wd (p : Nat → Bool) (j : Nat) : Int := (bitsUpto p (64 * j) 64 : Nat)
theorem wd_lt (p : Nat → Bool) (j : Nat) : bitsUpto p (64 * j) 64 < 18446744073709551616 := bitsUpto_lt p (64 * j) 64
theorem wd_nat {p : Nat → Bool} {j n : Nat} (h : ∀ i, n.testBit i = (decide (i < 64) && p (64 * j + i))) : ((n : Nat) : Int) = wd p j := by
  exact congrArg (fun x : Nat => (x : Int)) (Nat.eq_of_testBit_eq fun i => by rw [h, bitsUpto_bit])
theorem wd_congr {p q : Nat → Bool} {j : Nat} (h : ∀ i, i < 64 → p (64 * j + i) = q (64 * j + i)) : wd p j = wd q j :=
  wd_nat fun i => by
    rw [bitsUpto_bit]
    by_cases h1 : i < 64
    · simp [h1, h i h1]
    · simp [h1]
theorem wd_or (p q : Nat → Bool) (j : Nat) : bits .or .u64 (wd p j) (wd q j) = wd (fun n => p n || q n) j := by
  unfold wd
  rw [bits_or_u64_nat _ _ (wd_lt p j) (wd_lt q j)]
  refine wd_nat fun i => ?_
  rw [Nat.testBit_or, bitsUpto_bit, bitsUpto_bit]
  by_cases h1 : i < 64 <;> simp [h1]
theorem wd_and (p q : Nat → Bool) (j : Nat) : bits .and .u64 (wd p j) (wd q j) = wd (fun n => p n && q n) j := by
  unfold wd
  rw [bits_and_u64_nat _ _ (wd_lt p j) (wd_lt q j)]
  refine wd_nat fun i => ?_
  rw [Nat.testBit_and, bitsUpto_bit, bitsUpto_bit]
  by_cases h1 : i < 64 <;> simp [h1]
theorem pow_int (n : Nat) : (2 : Int) ^ n = ((2 ^ n : Nat) : Int) := by simp
theorem pow_lt (n : Nat) (h : n < 64) : 2 ^ n < 18446744073709551616 := Nat.pow_lt_pow_right (a := 2) (by decide) h
/-- One byte more. -/
theorem wd_add (p : Nat → Bool) (j : Nat) (c : Nat) (hj : c / 64 = j) :
    bits .or .u64 (wd p j) (2 ^ ((c : Int) % 64).toNat) = wd (fun n => p n || n == c) j := by
  have e : ((c : Int) % 64).toNat = c % 64 := by omega
  rw [e, pow_int]
  unfold wd
  rw [bits_or_u64_nat _ _ (wd_lt p j) (pow_lt _ (by omega))]
  refine wd_nat fun i => ?_
  rw [Nat.testBit_or, bitsUpto_bit, Nat.testBit_two_pow]
  by_cases h1 : i < 64
  · have : (decide (c % 64 = i)) = (64 * j + i == c) := by
      rw [Bool.eq_iff_iff, decide_eq_true_eq, beq_iff_eq]; omega
    simp [h1, this]
  · have : ¬ c % 64 = i := by omega
    simp [h1, this]
theorem wd_other (p : Nat → Bool) (j : Nat) (c : Nat) (hj : c / 64 ≠ j) : wd p j = wd (fun n => p n || n == c) j :=
  wd_congr fun i hi => by
    have : (64 * j + i == c) = false := by rw [beq_eq_false_iff_ne]; omega
    simp [this]
theorem wd_has (p : Nat → Bool) (j : Nat) (c : Nat) (hj : c / 64 = j) : (bits .and .u64 (wd p j) (2 ^ ((c : Int) % 64).toNat) != 0) = p c := by
  have e : ((c : Int) % 64).toNat = c % 64 := by omega
  rw [e, pow_int]
  unfold wd
  rw [bits_and_u64_nat _ _ (wd_lt p j) (pow_lt _ (by omega))]
  have ec : 64 * j + c % 64 = c := by omega
  have hb : bitsUpto p (64 * j) 64 &&& 2 ^ (c % 64) = if p c = true then 2 ^ (c % 64) else 0 := by
    apply Nat.eq_of_testBit_eq
    intro i
    rw [Nat.testBit_and, bitsUpto_bit, Nat.testBit_two_pow]
    by_cases h1 : c % 64 = i
    · subst h1
      have h2 : c % 64 < 64 := by omega
      rw [ec]
      by_cases hp : p c = true
      · simp [hp, h2]
      · simp [hp]
    · by_cases hp : p c = true
      · simp [h1, hp]
      · simp [h1, hp]
  rw [hb]
  by_cases hp : p c = true
  · rw [if_pos hp, hp, bne_iff_ne]
    have := Nat.two_pow_pos (c % 64)
    omega
  · rw [if_neg hp]
    simp at hp
    simp [hp]
theorem wd_none (j : Nat) : wd (fun _ => false) j = 0 := by
  rw [← wd_nat (n := 0) (by intro i; simp)]
  rfl
theorem xor_all (x : Int) (h : 0 ≤ x ∧ x ≤ 18446744073709551615) : Go.bits .xor .u64 (-1) x = 18446744073709551615 - x := by
  obtain ⟨n, rfl⟩ : ∃ n : Nat, x = n := ⟨x.toNat, by omega⟩
  have h2 : (BitVec.ofInt 64 (n : Int)).toNat = n := by
    rw [BitVec.ofInt_natCast, BitVec.toNat_ofNat]; exact Nat.mod_eq_of_lt (by omega)
  show IntKind.u64.wrap ((BitVec.ofInt 64 (-1) ^^^ BitVec.ofInt 64 (n : Int)).toNat : Int) = _
  have h3 : BitVec.ofInt 64 (-1) = BitVec.allOnes 64 := by decide
  rw [h3, BitVec.allOnes_xor, BitVec.toNat_not, h2, IntKind.wrap_u64]
  omega
theorem wd_not (p : Nat → Bool) (j : Nat) : 18446744073709551615 - wd p j = wd (fun n => !p n) j := by
  have h := wd_lt p j
  have e : (18446744073709551615 : Int) - wd p j = ((18446744073709551615 - bitsUpto p (64 * j) 64 : Nat) : Int) := by unfold wd; omega
  rw [e]
  refine wd_nat fun i => ?_
  have e2 : 18446744073709551615 - bitsUpto p (64 * j) 64 = 2 ^ 64 - (bitsUpto p (64 * j) 64 + 1) := by omega
  rw [e2, Nat.testBit_two_pow_sub_succ (by omega), bitsUpto_bit]
  by_cases h1 : i < 64 <;> simp [h1]
end Go.Proofs.YtiihgddpejmehaaGreatDoor.Base

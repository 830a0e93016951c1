/- What the reference of layer 19 tells of names, schemes, hosts: in lists' words. -/
import Derived.Test.YtiihgddpejmehaaRfcWay
import Derived.Test.YtiihgddpejmehaaZA10
import Derived.Test.YtiihgddpejmehaaZA11
import Derived.Test.YtiihgddpejmehaaZA12
import Derived.Test.YtiihgddpejmehaaZA9
namespace Go.Proofs.Ytiihgddpejmehaa.RR
open Go.RowKit Go.Proofs.YtiihgddpejmehaaW.PrintWords Go.Proofs.Ytiihgddpejmehaa.L Go.Proofs.Ytiihgddpejmehaa.Str Go.Proofs.Ytiihgddpejmehaa.Rf Go.Proofs.Ytiihgddpejmehaa.ZA

/-- With enough rounds. -/
def Enough {α : Type} (g : Nat → Option α) (r : α) : Prop := ∃ K, ∀ k, K ≤ k → g k = some r
theorem ValueR (c : UInt8) : Enough (fun k => (r03_Value.f k (c.toNat : Int)).map fun v => decide (v ≥ 0)) (hexB c) := by
 refine ⟨40, fun k hk => ?_⟩
 have h := all_bytes (p := fun n => (r03_Value.f 40 (n : Int)).map (fun v => decide (v ≥ 0)) == some ((decide (48 ≤ n) && decide (n ≤ 57)) || (decide (97 ≤ n) && decide (n ≤ 102)) || (decide (65 ≤ n) && decide (n ≤ 70)))) (by kernel_rfl) c
 have h2 := eq_of_beq h
 cases hv : r03_Value.f 40 (c.toNat : Int) with
 | none => rw [hv] at h2; exact absurd h2 (by simp)
 | some v =>
  rw [hv] at h2
  show (r03_Value.f k (c.toNat : Int)).map _ = _
  rw [at_rounds (g := fun k => r03_Value.f k (c.toNat : Int)) (fun k v h => r03_Value.mono _ k v h) hk hv]
  exact h2
theorem ValueE (c : UInt8) : ∃ v, (hexB c = decide (v ≥ 0)) ∧ ∀ k, 40 ≤ k → r03_Value.f k (c.toNat : Int) = some v := by
 obtain ⟨v, hv⟩ : ∃ v, r03_Value.f 40 (c.toNat : Int) = some v := by
  have h := all_bytes (p := fun n => (r03_Value.f 40 (n : Int)).isSome) (by kernel_rfl) c
  exact Option.isSome_iff_exists.1 h
 have h := all_bytes (p := fun n => (r03_Value.f 40 (n : Int)).map (fun v => decide (v ≥ 0)) == some ((decide (48 ≤ n) && decide (n ≤ 57)) || (decide (97 ≤ n) && decide (n ≤ 102)) || (decide (65 ≤ n) && decide (n ≤ 70)))) (by kernel_rfl) c
 have h2 := eq_of_beq h
 rw [hv] at h2
 exact ⟨v, (Option.some.inj h2).symm, fun k hk => at_rounds (g := fun k => r03_Value.f k (c.toNat : Int)) (fun k v h => r03_Value.mono _ k v h) hk hv⟩
theorem AtE (l : List UInt8) (hl : Sm l) (i : Nat) (hi : i < l.length) (k : Nat) (hk : 40 ≤ k) : r03_At.f k (S l) (i : Int) = some (escB (l.drop i)) := by
 unfold Sm at hl
 unfold r03_At.f
 have w1 : wrap64 ((i : Int) + 1) = ((i + 1 : Nat) : Int) := wrap_succ i (by omega)
 have w2 : wrap64 ((i : Int) + 2) = ((i + 2 : Nat) : Int) := by rw [wrap_id (by omega) (by omega)]; omega
 have hd : l.drop i = l[i] :: l.drop (i + 1) := List.drop_eq_getElem_cons hi
 rw [w2, w1]
 by_cases h2 : i + 2 < l.length
 ·have hd1 : l.drop (i + 1) = l[i + 1] :: l.drop (i + 2) := List.drop_eq_getElem_cons (by omega)
  have hd2 : l.drop (i + 2) = l[i + 2] :: l.drop (i + 3) := List.drop_eq_getElem_cons (by omega)
  have hesc : escB (l.drop i) = (l[i] == 37 && hexB l[i + 1] && hexB l[i + 2]) := by rw [hd, hd1, hd2]; rfl
  rw [if_pos (by rw [S_size]; omega), if_pos (by omega), if_pos (by rw [S_size]; omega), bt_S l i hi, hesc]
  have h37 : (37 : UInt8).toNat = 37 := rfl
  by_cases hc : l[i] = 37
  ·obtain ⟨v1, e1, f1⟩ := ValueE l[i + 1]
   obtain ⟨v2, e2, f2⟩ := ValueE l[i + 2]
   rw [if_pos (by rw [hc]; rfl), if_pos (by omega), if_pos (by rw [S_size]; omega), bt_S l (i + 1) (by omega), f1 k hk]
   simp only [Option.bind_some]
   rw [hc, beq_self_eq_true, Bool.true_and, e1, e2]
   by_cases h : v1 ≥ 0
   ·rw [if_pos h, if_pos (by omega), bt_S l (i + 2) h2, f2 k hk]
    simp [h]
   ·rw [if_neg h]
    simp [h]
  ·rw [if_neg (fun h => hc (UInt8.toNat_inj.1 (by omega))), beq_eq_false_iff_ne.2 hc]
   rfl
 ·rw [if_neg (by rw [S_size]; omega)]
  have hlen : (l.drop i).length ≤ 2 := by rw [List.length_drop]; omega
  match h : l.drop i, hlen with
  | [], _ => rfl
  | [_], _ => rfl
  | [_, _], _ => rfl
theorem InL (l : List UInt8) (hl : Sm l) (c : UInt8) : ∀ (d i k : Nat), i + d = l.length → d < k → r18_In.l0 k (S l) (c.toNat : Int) (i : Int) = some ((l.drop i).contains c)
 | 0, i, k, h, hk => by
  obtain ⟨k, rfl⟩ : ∃ m, k = m + 1 := ⟨k - 1, by omega⟩
  rw [r18_In.l0, if_neg (by rw [S_size]; omega), List.drop_of_length_le (by omega)]
  rfl
 | d + 1, i, k, h, hk => by
  obtain ⟨k, rfl⟩ : ∃ m, k = m + 1 := ⟨k - 1, by omega⟩
  have hi : i < l.length := by omega
  have ih := InL l hl c d (i + 1) k (by omega) (by omega)
  have hd : l.drop i = l[i] :: l.drop (i + 1) := List.drop_eq_getElem_cons hi
  rw [r18_In.l0, if_pos (by rw [S_size]; omega), if_pos (by omega), bt_S l i hi, hd, wrap_succ i (by unfold Sm at hl; omega), ih]
  by_cases hc : l[i] = c
  ·rw [if_pos (by rw [hc]), hc]
   simp
  ·rw [if_neg (fun h => hc (UInt8.toNat_inj.1 (by omega)))]
   have : ¬ c = l[i] := fun e => hc e.symm
   rw [List.contains_cons, beq_eq_false_iff_ne.2 this, Bool.false_or]
theorem InE (l : List UInt8) (hl : Sm l) (c : UInt8) (k : Nat) (hk : l.length < k) : r18_In.f k (S l) (c.toNat : Int) = some (l.contains c) := by
 have := InL l hl c l.length 0 k (by omega) hk
 rw [List.drop_zero] at this
 exact this
theorem plainE (c : UInt8) (k : Nat) (hk : 40 ≤ k) : r19_plain.f k (c.toNat : Int) = some (plainB c) := by
 have h := all_bytes (p := fun n => r19_plain.f 40 (n : Int) == some (plainB (UInt8.ofNat n))) (by kernel_rfl) c
 have h2 := eq_of_beq h
 rw [UInt8.ofNat_toNat] at h2
 exact at_rounds (g := fun k => r19_plain.f k (c.toNat : Int)) (fun k v h => r19_plain.mono _ k v h) hk h2
/-! names -/
theorem named_cons {m : List UInt8} (h37 : (37 : UInt8) ∉ m) (c : UInt8) (t : List UInt8) (he : escB (c :: t) = false) : namedL (c :: t) m = ((plainB c || m.contains c) && namedL t m) := by
 unfold namedL
 rw [validL, he, List.all_cons]
 by_cases hc : c = 37
 ·subst hc
  have h1 : plainB 37 = false := by decide
  have h2 : m.contains 37 = false := by simpa using h37
  rw [h1, h2]
  simp
 ·have h1 : (c == 37) = false := beq_eq_false_iff_ne.2 hc
  have h3 : (m ++ [37]).contains c = m.contains c := by
   rw [Bool.eq_iff_iff, List.contains_iff_mem, List.contains_iff_mem, List.mem_append, List.mem_singleton]
   exact ⟨fun h => h.elim id (fun e => absurd e hc), .inl⟩
  rw [h1, h3]
  cases plainB c <;> cases m.contains c <;> cases validL t <;> rfl
theorem named_esc {m : List UInt8} (c a b : UInt8) (t : List UInt8) (he : escB (c :: a :: b :: t) = true) : namedL (c :: a :: b :: t) m = namedL t m := by
 have he2 := he
 unfold escB at he2
 simp only [Bool.and_eq_true, beq_iff_eq] at he2
 obtain ⟨⟨hc, ha⟩, hb⟩ := he2
 have a37 : (a == 37) = false := by
  have := byte_imp2 (p := hexB) (q := fun x => !(x == 37)) (by kernel_rfl) a ha
  simpa using this
 have b37 : (b == 37) = false := by
  have := byte_imp2 (p := hexB) (q := fun x => !(x == 37)) (by kernel_rfl) b hb
  simpa using this
 have pa : plainB a = true := byte_imp2 (p := hexB) (q := plainB) (by kernel_rfl) a ha
 have pb : plainB b = true := byte_imp2 (p := hexB) (q := plainB) (by kernel_rfl) b hb
 unfold namedL
 rw [validL, he, validL, a37, validL, b37, List.all_cons, List.all_cons, List.all_cons, pa, pb, hc]
 have : (m ++ [37]).contains 37 = true := by simp
 rw [this]
 simp
theorem namedR (l m : List UInt8) (hl : Sm l) (hm : Sm m) (h37 : (37 : UInt8) ∉ m) : ∀ (d i k : Nat), l.length ≤ i + d → d + m.length + 41 < k → i ≤ l.length + 2 → r19_named.l0 k (S l) (S m) (i : Int) = some (namedL (l.drop i) m)
 | 0, i, k, h, hk, h9 => by
  obtain ⟨k, rfl⟩ : ∃ m, k = m + 1 := ⟨k - 1, by omega⟩
  rw [r19_named.l0, if_neg (by rw [S_size]; omega), List.drop_of_length_le (by omega)]
  rfl
 | d + 1, i, k, h, hk, h9 => by
  obtain ⟨k, rfl⟩ : ∃ m, k = m + 1 := ⟨k - 1, by omega⟩
  rw [r19_named.l0]
  by_cases hi : i < l.length
  ·have hd : l.drop i = l[i] :: l.drop (i + 1) := List.drop_eq_getElem_cons hi
   rw [if_pos (by rw [S_size]; omega), AtE l hl i hi k (by omega)]
   simp only [Option.bind_some]
   unfold Sm at hl
   by_cases he : escB (l.drop i) = true
   ·have w2 : wrap64 (wrap64 ((i : Int) + 2) + 1) = ((i + 3 : Nat) : Int) := by rw [wrap_id (x := (i : Int) + 2) (by omega) (by omega), wrap_id (by omega) (by omega)]; omega
    have hlen : i + 2 < l.length := by
     have : 2 < (l.drop i).length := by
      match hq : l.drop i with
      | [] => rw [hq] at he; exact absurd he (by decide)
      | [_] => rw [hq] at he; exact absurd he (by simp [escB])
      | [_, _] => rw [hq] at he; exact absurd he (by simp [escB])
      | _ :: _ :: _ :: _ => simp
     rw [List.length_drop] at this
     omega
    rw [if_pos he, w2, namedR l m hl hm h37 d (i + 3) k (by omega) (by omega) (by omega)]
    have hd1 : l.drop (i + 1) = l[i + 1] :: l.drop (i + 2) := List.drop_eq_getElem_cons (by omega)
    have hd2 : l.drop (i + 2) = l[i + 2] :: l.drop (i + 3) := List.drop_eq_getElem_cons (by omega)
    rw [hd, hd1, hd2] at he ⊢
    rw [named_esc _ _ _ _ he]
   ·have he2 := Bool.eq_false_iff.2 he
    rw [if_neg he, if_pos (by omega), bt_S l i hi, plainE _ k (by omega), InE m hm _ k (by omega), wrap_succ i (by omega), namedR l m hl hm h37 d (i + 1) k (by omega) (by omega) (by omega)]
    rw [hd] at he2 ⊢
    rw [named_cons h37 _ _ he2]
    simp only [Option.bind_some]
    cases plainB l[i] <;> cases m.contains l[i] <;> simp
  ·rw [if_neg (by rw [S_size]; omega), List.drop_of_length_le (by omega)]
   rfl
theorem namedE (l m : List UInt8) (hl : Sm l) (hm : Sm m) (h37 : (37 : UInt8) ∉ m) (k : Nat) (hk : l.length + m.length + 41 < k) : r19_named.f k (S l) (S m) = some (namedL l m) := by
 have := namedR l m hl hm h37 l.length 0 k (by omega) hk (by omega)
 rw [List.drop_zero] at this
 exact this
/-! schemes -/
def sch1 (c : UInt8) : Bool := (letterB c || digitB c) || ([43, 45, 46] : List UInt8).contains c
theorem LetterE (c : UInt8) : r18_Letter.f (c.toNat : Int) = some (letterB c) := by
 have h := all_bytes (p := fun n => r18_Letter.f (n : Int) == some (letterB (UInt8.ofNat n))) (by kernel_rfl) c
 have h2 := eq_of_beq h
 rwa [UInt8.ofNat_toNat] at h2
theorem DigitE (c : UInt8) : r18_Digit.f (c.toNat : Int) = some (digitB c) := by
 have h := all_bytes (p := fun n => r18_Digit.f (n : Int) == some (digitB (UInt8.ofNat n))) (by kernel_rfl) c
 have h2 := eq_of_beq h
 rwa [UInt8.ofNat_toNat] at h2
theorem byte_eq (c : UInt8) (n : UInt8) : ((c.toNat : Int) = (n.toNat : Int)) ↔ c = n := ⟨fun h => UInt8.toNat_inj.1 (by omega), fun h => by rw [h]⟩
theorem schR (l : List UInt8) (hl : Sm l) : ∀ (d i k : Nat), i + d = l.length → d < k → r19_isScheme.l0 k (S l) (i : Int) = some (decide (l.length > 0) && (if i = 0 then schemeOk l || l.isEmpty else (l.drop i).all sch1))
 | 0, i, k, h, hk => by
  obtain ⟨k, rfl⟩ : ∃ m, k = m + 1 := ⟨k - 1, by omega⟩
  rw [r19_isScheme.l0, if_neg (by rw [S_size]; omega), S_size]
  have hz : (if i = 0 then schemeOk l || l.isEmpty else (l.drop i).all sch1) = true := by
   by_cases h0 : i = 0
   ·rw [if_pos h0]
    have : l = [] := List.length_eq_zero_iff.1 (by omega)
    rw [this]; rfl
   ·rw [if_neg h0, List.drop_of_length_le (by omega)]
    rfl
  rw [hz, Bool.and_true]
  congr 1
  exact decide_eq_decide.2 (by omega)
 | d + 1, i, k, h, hk => by
  obtain ⟨k, rfl⟩ : ∃ m, k = m + 1 := ⟨k - 1, by omega⟩
  have hi : i < l.length := by omega
  have ih := schR l hl d (i + 1) k (by omega) (by omega)
  rw [if_neg (by omega)] at ih
  have hd : l.drop i = l[i] :: l.drop (i + 1) := List.drop_eq_getElem_cons hi
  rw [r19_isScheme.l0, if_pos (by rw [S_size]; omega), if_pos (by omega), bt_S l i hi, LetterE, DigitE, wrap_succ i (by unfold Sm at hl; omega), ih]
  simp only [Option.bind_some]
  have hpos : decide (l.length > 0) = true := decide_eq_true (by omega)
  rw [hpos, Bool.true_and, Bool.true_and]
  have e43 := byte_eq l[i] 43
  have e45 := byte_eq l[i] 45
  have e46 := byte_eq l[i] 46
  have h43 : ((43 : UInt8).toNat : Int) = 43 := rfl
  have h45 : ((45 : UInt8).toNat : Int) = 45 := rfl
  have h46 : ((46 : UInt8).toNat : Int) = 46 := rfl
  rw [h43] at e43
  rw [h45] at e45
  rw [h46] at e46
  simp only [e43, e45, e46]
  by_cases h0 : i = 0
  ·subst h0
   have hl0 : l = l[0] :: l.drop 1 := hd
   have hs : schemeOk l = (letterB l[0] && sch1 l[0] && (l.drop 1).all sch1) := by
    have e9 : ∀ (c : UInt8) (t : List UInt8), schemeOk (c :: t) = (letterB c && sch1 c && t.all sch1) := fun c t => by
     rw [Bool.and_assoc]
     exact congrArg (fun x => letterB c && x) List.all_cons
    conv => lhs; rw [hl0]
    exact e9 _ _
   have hne : l.isEmpty = false := by rw [List.isEmpty_eq_false_iff]; intro e; rw [e] at hi; exact absurd hi (by simp)
   rw [if_pos rfl, if_pos (show ((0 : Nat) : Int) = 0 from rfl), hs, hne, Bool.or_false]
   by_cases hL : letterB l[0] = true
   ·rw [if_pos hL, hL]
    have : sch1 l[0] = true := by unfold sch1; rw [hL]; rfl
    rw [this, Bool.true_and, Bool.true_and]
   ·rw [if_neg hL, Bool.eq_false_iff.2 hL]
    rfl
  ·rw [if_neg (show ¬ ((i : Int) = 0) by omega), if_neg h0, hd, List.all_cons]
   by_cases hL : letterB l[i] = true
   ·rw [if_pos hL]
    have : sch1 l[i] = true := by unfold sch1; rw [hL]; rfl
    rw [this, Bool.true_and]
   ·rw [if_neg hL]
    by_cases hD : digitB l[i] = true
    ·rw [if_pos hD]
     have : sch1 l[i] = true := by unfold sch1; rw [hD, Bool.or_true]; rfl
     rw [this, Bool.true_and]
    ·rw [if_neg hD]
     have hs : sch1 l[i] = ([43, 45, 46] : List UInt8).contains l[i] := by unfold sch1; rw [Bool.eq_false_iff.2 hL, Bool.eq_false_iff.2 hD]; rfl
     rw [hs]
     by_cases h1 : l[i] = 43
     ·rw [if_pos h1, h1]; rfl
     ·rw [if_neg h1]
      by_cases h2 : l[i] = 45
      ·rw [if_pos h2, h2]; rfl
      ·rw [if_neg h2]
       by_cases h3 : l[i] = 46
       ·rw [if_pos h3, h3]; rfl
       ·rw [if_neg h3]
        simp [h1, h2, h3]
theorem schemeE (l : List UInt8) (hl : Sm l) (k : Nat) (hk : l.length < k) : r19_isScheme.f k (S l) = some (schemeOk l) := by
 have h := schR l hl l.length 0 k (by omega) hk
 refine Eq.trans h ?_
 rw [if_pos rfl]
 cases l with
 | nil => rfl
 | cons c t => simp
/-! what has no colon ahead of a slash -/
theorem relR (l : List UInt8) (hl : Sm l) : ∀ (d i k : Nat), i + d = l.length → 2 * d + 1 < k → r19_relative.l0 k (S l) (i : Int) = some (relL (l.drop i))
 | 0, i, k, h, hk => by
  obtain ⟨k, rfl⟩ : ∃ m, k = m + 2 := ⟨k - 2, by omega⟩
  rw [r19_relative.l0, if_neg (by rw [S_size]; omega), r19_relative.j1, if_neg (by decide), List.drop_of_length_le (by omega)]
  rfl
 | d + 1, i, k, h, hk => by
  obtain ⟨k, rfl⟩ : ∃ m, k = m + 2 := ⟨k - 2, by omega⟩
  have hi : i < l.length := by omega
  have ih := relR l hl d (i + 1) k (by omega) (by omega)
  have hd : l.drop i = l[i] :: l.drop (i + 1) := List.drop_eq_getElem_cons hi
  have h47 : ((47 : UInt8).toNat : Int) = 47 := rfl
  have h58 : ((58 : UInt8).toNat : Int) = 58 := rfl
  rw [r19_relative.l0, if_pos (by rw [S_size]; omega), if_pos (by omega), bt_S l i hi, r19_relative.j1, hd]
  unfold relL
  rw [List.takeWhile_cons]
  by_cases hc : l[i] = 47
  ·rw [if_neg (by rw [hc]; decide), hc]
   rfl
  ·have hn : ((l[i].toNat : Int) != 47) = true := by rw [bne_iff_ne, ← h47]; exact fun e => hc ((byte_eq _ _).1 e)
   have hm : (!([47] : List UInt8).contains l[i]) = true := by simp [hc]
   rw [if_pos hn, if_pos (by omega), if_pos (by rw [S_size]; omega), bt_S l i hi, wrap_succ i (by unfold Sm at hl; omega), ih, if_pos hm]
   by_cases h5 : l[i] = 58
   ·rw [if_pos (by rw [h5]; rfl), h5]
    simp
   ·rw [if_neg (by rw [← h58]; exact fun e => h5 ((byte_eq _ _).1 e))]
    have : ¬ (58 : UInt8) = l[i] := fun e => h5 e.symm
    unfold relL
    rw [List.contains_cons, beq_eq_false_iff_ne.2 this, Bool.false_or]
theorem relE (l : List UInt8) (hl : Sm l) (k : Nat) (hk : 2 * l.length + 1 < k) : r19_relative.f k (S l) = some (relL l) := by
 have := relR l hl l.length 0 k (by omega) hk
 rw [List.drop_zero] at this
 exact this
end Go.Proofs.Ytiihgddpejmehaa.RR
-- shrunk

/- What the document's answer of layer 21 tells, in the same lists' words. -/
import Derived.Test.YtbjfcnhaedhbaaaPy
import Derived.Test.YtbjfcnhaedhbaaaZA10
import Derived.Test.YtbjfcnhaedhbaaaZA9
namespace Go.Proofs.Ytbjfcnhaedhbaaa.RefPy
open Go.RowKit Go.Proofs.YtbjfcnhaedhbaaaW.PrintWords Go.Proofs.Ytbjfcnhaedhbaaa.L Go.Proofs.Ytbjfcnhaedhbaaa.Str Go.Proofs.Ytbjfcnhaedhbaaa.Py Go.Proofs.Ytbjfcnhaedhbaaa.ZA

theorem shibbolethref21_is_l0 (c : UInt8) (m : List UInt8) (hm : Sm m) : ∀ (d i k : Nat), i + d = m.length → d < k → shibbolethref21_is.l0 k (c.toNat : Int) (S m) (i : Int) = some ((m.drop i).contains c)
  | 0, i, k, h, hk => by
    obtain ⟨k, rfl⟩ : ∃ m, k = m + 1 := ⟨k - 1, by omega⟩
    simp only [shibbolethref21_is.l0]
    rw [if_neg (by rw [S_size]; omega), List.drop_of_length_le (by omega)]
    rfl
  | d + 1, i, k, h, hk => by
    obtain ⟨k, rfl⟩ : ∃ m, k = m + 1 := ⟨k - 1, by omega⟩
    have hlt : i < m.length := by omega
    have hd : m.drop i = m[i] :: m.drop (i + 1) := List.drop_eq_getElem_cons hlt
    simp only [shibbolethref21_is.l0]
    rw [if_pos (by rw [S_size]; omega), if_pos (by omega), bt_S m i hlt, wrap_succ i (by unfold Sm at hm; omega), hd, List.contains_cons]
    by_cases hc : m[i] = c
    · rw [if_pos (by rw [hc]), hc]
      simp
    · have hc2 : ¬ ((m[i].toNat : Int) = (c.toNat : Int)) := fun h => hc (UInt8.toNat_inj.1 (by omega))
      have hc3 : (c == m[i]) = false := by rw [beq_eq_false_iff_ne]; exact fun h => hc h.symm
      rw [if_neg hc2, shibbolethref21_is_l0 c m hm d (i + 1) k (by omega) (by omega), hc3, Bool.false_or]
theorem shibbolethref21_is_ev (c : UInt8) (m : List UInt8) (hm : Sm m) (k : Nat) (hk : m.length < k) : shibbolethref21_is.f k (c.toNat : Int) (S m) = some (m.contains c) := by
  have := shibbolethref21_is_l0 c m hm m.length 0 k (by omega) hk
  rwa [List.drop_zero] at this
theorem shibbolethref21_first_l0 (l m : List UInt8) (hl : Sm l) (hm : Sm m) : ∀ (d i k : Nat), i + d = l.length → d + m.length + 1 < k → shibbolethref21_first.l0 k (S l) (S m) (i : Int) = some ((i + fi (fun c => m.contains c) (l.drop i) : Nat) : Int)
  | 0, i, k, h, hk => by
    obtain ⟨k, rfl⟩ : ∃ m, k = m + 1 := ⟨k - 1, by omega⟩
    simp only [shibbolethref21_first.l0]
    rw [if_neg (by rw [S_size]; omega), List.drop_of_length_le (by omega)]
    simp [S_size]
    omega
  | d + 1, i, k, h, hk => by
    obtain ⟨k, rfl⟩ : ∃ m, k = m + 1 := ⟨k - 1, by omega⟩
    have hlt : i < l.length := by omega
    have hd : l.drop i = l[i] :: l.drop (i + 1) := List.drop_eq_getElem_cons hlt
    simp only [shibbolethref21_first.l0]
    rw [if_pos (by rw [S_size]; omega), if_pos (by omega), bt_S l i hlt, shibbolethref21_is_ev _ m hm k (by omega), wrap_succ i (by unfold Sm at hl; omega), hd]
    simp only [Option.bind_some]
    by_cases hc : m.contains l[i] = true
    · rw [if_pos hc]
      simp only [fi, List.findIdx_cons, hc, cond_true, Nat.add_zero]
    · have hc2 : m.contains l[i] = false := Bool.eq_false_iff.2 hc
      rw [if_neg hc, shibbolethref21_first_l0 l m hl hm d (i + 1) k (by omega) (by omega)]
      simp only [fi, List.findIdx_cons, hc2, cond_false]
      congr 1; omega
theorem shibbolethref21_first_ev (l m : List UInt8) (hl : Sm l) (hm : Sm m) (i k : Nat) (hi : i ≤ l.length) (hk : l.length + m.length + 1 < k) : shibbolethref21_first.f k (S l) (S m) (i : Int) = some ((i + fi (fun c => m.contains c) (l.drop i) : Nat) : Int) :=
  shibbolethref21_first_l0 l m hl hm (l.length - i) i k (by omega) (by omega)


theorem letter_eq (c : UInt8) : shibbolethref21_letter.f (c.toNat : Int) = some (letterB c) := by
  unfold shibbolethref21_letter.f letterB
  by_cases h1 : 97 ≤ c.toNat
  · rw [if_pos (by omega), decide_eq_true h1]
    by_cases h2 : c.toNat ≤ 122
    · rw [if_pos (by omega), decide_eq_true h2]; rfl
    · rw [if_neg (by omega), if_pos (by omega), decide_eq_false h2, decide_eq_true (show 65 ≤ c.toNat by omega)]
      have : (decide ((c.toNat : Int) ≤ 90)) = decide (c.toNat ≤ 90) := by congr 1; rw [eq_iff_iff]; omega
      rw [this]; simp
  · rw [if_neg (by omega), decide_eq_false h1]
    by_cases h2 : 65 ≤ c.toNat
    · rw [if_pos (by omega), decide_eq_true h2]
      have : (decide ((c.toNat : Int) ≤ 90)) = decide (c.toNat ≤ 90) := by congr 1; rw [eq_iff_iff]; omega
      rw [this]; simp
    · rw [if_neg (by omega), decide_eq_false h2]; simp
theorem digit_eq (c : UInt8) : shibbolethref21_digit.f (c.toNat : Int) = some (digitB c) := by
  unfold shibbolethref21_digit.f digitB
  by_cases h1 : 48 ≤ c.toNat
  · rw [if_pos (by omega), decide_eq_true h1]
    have : (decide ((c.toNat : Int) ≤ 57)) = decide (c.toNat ≤ 57) := by congr 1; rw [eq_iff_iff]; omega
    rw [this]; simp
  · rw [if_neg (by omega), decide_eq_false h1]; simp

/-- What is left of a text from a place on, begun or not. -/
def bareFrom (begun : Bool) (l : List UInt8) : List UInt8 := if begun = true then l.filter keepB else bareL l
theorem bare_pos {c : UInt8} (t : List UInt8) (h : ¬ c.toNat ≤ 32) : bareFrom false (c :: t) = (c :: t).filter keepB := by simp [bareFrom, bareL, h]
theorem bare_neg {c : UInt8} (t : List UInt8) (h : c.toNat ≤ 32) : bareFrom false (c :: t) = bareFrom false t := by simp [bareFrom, bareL, h]
theorem Bare_l0 (l : List UInt8) (hl : Sm l) : ∀ (d i k : Nat) (acc : List UInt8) (begun : Bool), i + d = l.length → d < k → acc.length ≤ i →
    shibbolethref21_Bare.l0 k (S l) (S acc) begun (i : Int) = some (S (acc ++ bareFrom begun (l.drop i)))
  | 0, i, k, acc, begun, h, hk, ha => by
    obtain ⟨k, rfl⟩ : ∃ m, k = m + 1 := ⟨k - 1, by omega⟩
    simp only [shibbolethref21_Bare.l0]
    rw [if_neg (by rw [S_size]; omega), List.drop_of_length_le (by omega)]
    cases begun <;> simp [bareFrom, bareL]
  | d + 1, i, k, acc, begun, h, hk, ha => by
    obtain ⟨k, rfl⟩ : ∃ m, k = m + 1 := ⟨k - 1, by omega⟩
    have hlt : i < l.length := by omega
    have hd : l.drop i = l[i] :: l.drop (i + 1) := List.drop_eq_getElem_cons hlt
    have kt := keep_tests l[i]
    have hws := wrap_succ i (by unfold Sm at hl; omega)
    have hex : (S l).extract ((i : Int)).toNat (((i + 1 : Nat) : Int)).toNat = S [l[i]] := by
      rw [Int.toNat_natCast, Int.toNat_natCast, S_extract, hd]
      have : i + 1 - i = 1 := by omega
      rw [this]; rfl
    simp only [shibbolethref21_Bare.l0]
    rw [if_pos (by rw [S_size]; omega), bt_S l i hlt, hws, hex]
    have ihk := fun b => Bare_l0 l hl d (i + 1) k acc b (by omega) (by omega) (by omega)
    have iha := fun b => Bare_l0 l hl d (i + 1) k (acc ++ [l[i]]) b (by omega) (by omega) (by simp; omega)
    have hsz : (S acc).size + (S [l[i]]).size ≤ 9223372036854775807 := by simp only [S_size, List.length_singleton]; unfold Sm at hl; omega
    have s1 : (i : Int) ≤ ((i + 1 : Nat) : Int) := by omega
    have s2 : ((i + 1 : Nat) : Int) ≤ ((S l).size : Int) := by rw [S_size]; omega
    have step : ∀ b, (if (l[i].toNat : Int) = 9 then shibbolethref21_Bare.l0 k (S l) (S acc) b ((i + 1 : Nat) : Int) else if (l[i].toNat : Int) = 10 then shibbolethref21_Bare.l0 k (S l) (S acc) b ((i + 1 : Nat) : Int) else if (l[i].toNat : Int) = 13 then shibbolethref21_Bare.l0 k (S l) (S acc) b ((i + 1 : Nat) : Int) else shibbolethref21_Bare.l0 k (S l) (S acc ++ S [l[i]]) b ((i + 1 : Nat) : Int)) = some (S (acc ++ (if keepB l[i] = true then [l[i]] else []) ++ bareFrom b (l.drop (i + 1)))) := by
      intro b
      by_cases hb : keepB l[i] = true
      · have hn : ¬ ((l[i].toNat : Int) = 9 ∨ (l[i].toNat : Int) = 10 ∨ (l[i].toNat : Int) = 13) := fun h => by rw [kt.1 h] at hb; exact absurd hb (by decide)
        rw [if_neg (fun h => hn (.inl h)), if_neg (fun h => hn (.inr (.inl h))), if_neg (fun h => hn (.inr (.inr h))), S_append, iha b, if_pos hb]
      · have hb' : keepB l[i] = false := by simpa using hb
        rw [if_neg hb, List.append_nil, ihk b]
        rcases kt.2 hb' with h9 | h10 | h13
        · rw [if_pos h9]
        · rw [if_neg (by omega), if_pos h10]
        · rw [if_neg (by omega), if_neg (by omega), if_pos h13]
    have s0 : (0 : Int) ≤ (i : Int) := by omega
    simp only [if_pos s0, if_pos s1, if_pos s2, if_pos hsz]
    have fin : ∀ b, b = true → acc ++ (if keepB l[i] = true then [l[i]] else []) ++ bareFrom b (l.drop (i + 1)) = acc ++ (l[i] :: l.drop (i + 1)).filter keepB := by
      intro b hb
      subst hb
      by_cases hk : keepB l[i] = true
      · rw [if_pos hk, List.filter_cons_of_pos hk]; simp [bareFrom]
      · rw [if_neg hk, List.filter_cons_of_neg hk]; simp [bareFrom]
    by_cases hbg : begun = true
    · subst hbg
      rw [if_pos rfl, step true, hd, fin true rfl]
      rfl
    · have hbf : begun = false := by simpa using hbg
      subst hbf
      rw [if_neg (by decide)]
      by_cases h32 : (l[i].toNat : Int) > 32
      · rw [if_pos h32, decide_eq_true h32, step true, hd, fin true rfl, bare_pos _ (by omega)]
      · rw [if_neg h32, decide_eq_false h32, ihk false, hd, bare_neg _ (by omega)]
theorem Bare_ev (l : List UInt8) (hl : Sm l) (k : Nat) (hk : l.length < k) : shibbolethref21_Bare.f k (S l) = some (S (bareL l)) := by
  have := Bare_l0 l hl l.length 0 k [] false (by omega) hk (by simp)
  rw [List.drop_zero] at this
  exact this
/-! the scheme -/
theorem one_contains (d : UInt8) : (fun c => ([d] : List UInt8).contains c) = fun c => c == d := by
  funext c; rw [Bool.eq_iff_iff]; simp
def schemeN (b : List UInt8) : Nat := if b.contains 58 = true ∧ isScheme (b.takeWhile fun x => !(x == 58)) = true then fi (fun x => x == 58) b + 1 else 0
theorem restL_eq (b : List UInt8) : restL b = b.drop (schemeN b) := by
  unfold restL schemeN
  split
  · rw [← drop_fi, List.drop_drop]
  · rfl
theorem schemeB_or (c : UInt8) : schemeB c = (letterB c || (digitB c || ([43, 45, 46] : List UInt8).contains c)) := by
  unfold schemeB
  have : ([43, 45, 46] : List UInt8).contains c = (c == 43 || (c == 45 || c == 46)) := by rw [Bool.eq_iff_iff]; simp
  rw [this]
  simp only [Bool.or_assoc]
theorem scheme_l0 (b : List UInt8) (hb : Sm b) (n : Nat) (hn : n < b.length) : ∀ (d i k : Nat), i + d = n → d + 4 < k →
    shibbolethref21_scheme.l0 k (S b) (n : Int) (i : Int) = some (if ((b.take n).drop i).all schemeB = true then ((n + 1 : Nat) : Int) else 0)
  | 0, i, k, h, hk => by
    obtain ⟨k, rfl⟩ : ∃ m, k = m + 1 := ⟨k - 1, by omega⟩
    simp only [shibbolethref21_scheme.l0]
    rw [if_neg (by omega), wrap_succ n (by unfold Sm at hb; omega)]
    have e : (b.take n).drop i = [] := List.drop_of_length_le (by simp; omega)
    simp [e]
  | d + 1, i, k, h, hk => by
    obtain ⟨k, rfl⟩ : ∃ m, k = m + 1 := ⟨k - 1, by omega⟩
    have hlt : i < b.length := by omega
    have hd : (b.take n).drop i = b[i] :: (b.take n).drop (i + 1) := by
      have h1 : i < (b.take n).length := by simp; omega
      rw [List.drop_eq_getElem_cons h1, List.getElem_take]
    have key : ((b.take n).drop i).all schemeB = (schemeB b[i] && ((b.take n).drop (i + 1)).all schemeB) := by rw [hd]; rfl
    have ih := scheme_l0 b hb n hn d (i + 1) k (by omega) (by omega)
    simp only [shibbolethref21_scheme.l0]
    rw [if_pos (by omega), if_pos (by omega), if_pos (by rw [S_size]; omega), bt_S b i hlt, letter_eq, digit_eq, wrap_succ i (by unfold Sm at hb; omega)]
    have h3 := shibbolethref21_is_ev b[i] [43, 45, 46] (by decide) k (by simp; omega)
    simp only [Option.bind_some, lit, h3, key, schemeB_or]
    by_cases h1 : letterB b[i] = true
    · rw [if_pos h1, ih]; simp only [h1, Bool.true_or, Bool.true_and]
    · have h1f : letterB b[i] = false := Bool.eq_false_iff.2 h1
      rw [if_neg h1]
      by_cases h2 : digitB b[i] = true
      · rw [if_pos h2, ih]; simp only [h1f, h2, Bool.true_or, Bool.true_and, Bool.false_or]
      · have h2f : digitB b[i] = false := Bool.eq_false_iff.2 h2
        rw [if_neg h2]
        by_cases h4 : ([43, 45, 46] : List UInt8).contains b[i] = true
        · rw [if_pos h4, ih]; simp only [h1f, h2f, h4, Bool.true_and, Bool.false_or]
        · have h4f : ([43, 45, 46] : List UInt8).contains b[i] = false := Bool.eq_false_iff.2 h4
          rw [if_neg h4]; simp only [h1f, h2f, h4f, Bool.false_and, Bool.false_or, Bool.false_eq_true, if_false]
theorem scheme_ev (b : List UInt8) (hb : Sm b) (k : Nat) (hk : b.length + 8 < k) : shibbolethref21_scheme.f k (S b) = some (schemeN b : Int) := by
  obtain ⟨k, rfl⟩ : ∃ m, k = m + 1 := ⟨k - 1, by omega⟩
  have hf := shibbolethref21_first_ev b [58] hb (by decide) 0 (k + 1) (by omega) (by simp; omega)
  rw [one_contains, List.drop_zero, Nat.zero_add] at hf
  rw [show ((0 : Nat) : Int) = 0 from rfl] at hf
  unfold shibbolethref21_scheme.f schemeN
  simp only [lit]
  rw [hf]
  simp only [Option.bind_some]
  by_cases hc : b.contains 58 = true
  · have hlt := fi_contains hc
    rw [if_neg (by rw [S_size]; omega)]
    by_cases h0 : fi (fun x => x == 58) b = 0
    · rw [if_pos (by omega)]
      simp only [shibbolethref21_scheme.j0, if_true]
      have : b.takeWhile (fun x => !(x == 58)) = [] := by rw [← take_fi, h0, List.take_zero]
      rw [this]
      simp [isScheme]
    · rw [if_neg (by omega)]
      have hb0 : 0 < b.length := by omega
      have hbt : bt (S b) 0 = (b[0].toNat : Int) := bt_S b 0 hb0
      rw [if_pos (by rw [S_size]; omega), hbt, letter_eq]
      simp only [Option.bind_some, shibbolethref21_scheme.j0]
      have htk : b.take (fi (fun x => x == 58) b) = b[0] :: (b.take (fi (fun x => x == 58) b)).drop 1 := by
        have h1 : 0 < (b.take (fi (fun x => x == 58) b)).length := by simp; omega
        have := List.drop_eq_getElem_cons h1
        rw [List.drop_zero, List.getElem_take] at this
        exact this
      have hsch : isScheme (b.takeWhile fun x => !(x == 58)) = (letterB b[0] && (b.take (fi (fun x => x == 58) b)).all schemeB) := by
        rw [← take_fi, htk]
        rfl
      rw [hsch]
      by_cases hlb : letterB b[0] = true
      · rw [hlb]
        simp only [Bool.not_true, Bool.false_eq_true, if_false, Bool.true_and]
        have hr := scheme_l0 b hb (fi (fun x => x == 58) b) hlt (fi (fun x => x == 58) b) 0 k (by omega) (by omega)
        rw [List.drop_zero] at hr
        rw [show (((0 : Nat) : Int)) = 0 from rfl] at hr
        rw [hr]
        by_cases hall : (b.take (fi (fun x => x == 58) b)).all schemeB = true
        · rw [if_pos hall, if_pos ⟨hc, hall⟩]
        · rw [if_neg hall, if_neg (fun h => hall h.2)]; rfl
      · have hlf : letterB b[0] = false := by simpa using hlb
        rw [hlf]
        simp
  · have hn := fi_none hc
    rw [if_pos (by rw [S_size]; omega)]
    simp only [shibbolethref21_scheme.j0, if_true]
    rw [if_neg (fun h => hc h.1)]
    rfl
theorem schemeN_le (b : List UInt8) : schemeN b ≤ b.length := by
  unfold schemeN
  split
  · rename_i h; have := fi_contains h.1; omega
  · omega

/-! all -/
theorem cut_in {α : Type} (b : List α) (m x n : Nat) (h : x + n ≤ m) : ((b.take m).drop x).take n = (b.drop x).take n := by
  rw [List.drop_take, List.take_take]; congr 1; omega
theorem at_l0 (b : List UInt8) (hb : Sm b) (fr at_ : Nat) (h1 : fr ≤ at_) (h2 : at_ ≤ b.length) (T : Bool) (A B : ByteArray) (R : Nat → Option (Bool × ByteArray × ByteArray))
    (hR : ∀ k, R k = shibbolethref21_Parse.l0 (k + 1) (S b) (at_ : Int) ((fr + lastAt 64 ((b.take at_).drop fr) (at_ - fr) : Nat) : Int) (at_ : Int) T A B) : ∀ (d j k : Nat), fr + j + d = at_ →
    shibbolethref21_Parse.l0 (k + d + 1) (S b) (at_ : Int) ((fr + lastAt 64 ((b.take at_).drop fr) j : Nat) : Int) ((fr + j : Nat) : Int) T A B = R k
  | 0, j, k, h => by
    have hj : j = at_ - fr := by omega
    subst hj
    rw [hR k, show fr + (at_ - fr) = at_ by omega]
  | d + 1, j, k, h => by
    have hlt : fr + j < b.length := by omega
    have hg : ((b.take at_).drop fr)[j]? = some b[fr + j] := by
      rw [List.getElem?_drop, List.getElem?_take_of_lt (by omega), List.getElem?_eq_getElem hlt]
    have ih := at_l0 b hb fr at_ h1 h2 T A B R hR d (j + 1) k (by omega)
    rw [show k + (d + 1) + 1 = (k + d + 1) + 1 by omega]
    rw [shibbolethref21_Parse.l0]
    rw [if_pos (by omega), if_pos (by omega), if_pos (by rw [S_size]; omega), bt_S b (fr + j) hlt, wrap_succ (fr + j) (by unfold Sm at hb; omega)]
    have la : lastAt 64 ((b.take at_).drop fr) (j + 1) = if ((b.take at_).drop fr)[j]? = some 64 then j + 1 else lastAt 64 ((b.take at_).drop fr) j := rfl
    rw [la, hg] at ih
    by_cases hc : b[fr + j] = 64
    · rw [if_pos (by rw [hc])] at ih
      rw [if_pos (by rw [hc]; rfl)]
      exact ih
    · rw [if_neg (fun h => hc (Option.some.inj h))] at ih
      rw [if_neg (fun h => hc (UInt8.toNat_inj.1 (by have : (64 : UInt8).toNat = 64 := rfl; omega)))]
      exact ih
theorem fi_take_lt {p : UInt8 → Bool} {l : List UInt8} : (fi p l < l.length) ↔ (l.any p = true) := by
  rw [fi_lt, List.any_eq_true]
theorem contains_any (l : List UInt8) (d : UInt8) : (l.any fun c => c == d) = l.contains d := by
  rw [Bool.eq_iff_iff, List.any_eq_true, List.contains_iff_mem]
  constructor
  · rintro ⟨x, hx, e⟩; have : x = d := by simpa using e
    subst this; exact hx
  · intro h; exact ⟨d, h, by simp⟩
theorem l0_end (b : List UInt8) (hb : Sm b) (at_ pl : Nat) (h1 : pl ≤ at_) (h2 : at_ ≤ b.length) (k : Nat) (hk : b.length + 4 < k) (p : List UInt8) (hp : p = (b.take at_).drop pl) :
    shibbolethref21_Parse.l0 (k + 1) (S b) (at_ : Int) (pl : Int) (at_ : Int) true (S []) (S []) =
      some (if p.contains 91 = true then (if (cutL p 91).2.1.contains 93 = true then (true, S (cutL (cutL p 91).2.1 93).1, S ((b.drop at_).takeWhile noQF)) else (false, S [], S []))
        else (if p.contains 93 = true then (false, S [], S []) else (true, S (cutL p 58).1, S ((b.drop at_).takeWhile noQF)))) := by
  have hpl : p.length = at_ - pl := by rw [hp]; simp; omega
  have hsb : Sm (b.take at_) := by unfold Sm at *; simp; omega
  have hlt : (b.take at_).length = at_ := by simp; omega
  have F : ∀ (c : UInt8) (q : Nat), q ≤ at_ → shibbolethref21_first.f k (S (b.take at_)) (S [c]) (q : Int) = some ((q + fi (fun x => x == c) ((b.take at_).drop q) : Nat) : Int) := by
    intro c q hq
    have := shibbolethref21_first_ev (b.take at_) [c] hsb (by simp [Sm]) q k (by omega) (by simp; omega)
    rwa [one_contains] at this
  have FQ : shibbolethref21_first.f k (S b) (S [63, 35]) (at_ : Int) = some ((at_ + fi (fun c => ([63, 35] : List UInt8).contains c) (b.drop at_) : Nat) : Int) :=
    shibbolethref21_first_ev b [63, 35] hb (by decide) at_ k h2 (by simp; omega)
  have hQle : fi (fun c => ([63, 35] : List UInt8).contains c) (b.drop at_) ≤ b.length - at_ := by have := fi_le (fun c => ([63, 35] : List UInt8).contains c) (b.drop at_); rwa [List.length_drop] at this
  have path : (S b).extract at_ (at_ + fi (fun c => ([63, 35] : List UInt8).contains c) (b.drop at_)) = S ((b.drop at_).takeWhile noQF) := by
    rw [S_extract, Nat.add_sub_cancel_left, take_fi]; rfl
  rw [shibbolethref21_Parse.l0]
  rw [if_neg (by omega), if_pos (by omega), if_pos (by rw [S_size]; omega), Int.toNat_natCast, S_upto]
  simp only [lit]
  rw [F 91 pl h1]
  simp only [Option.bind_some]
  rw [← hp]
  have c91 : (fi (fun x => x == 91) p < p.length) ↔ p.contains 91 = true := by rw [fi_take_lt, contains_any]
  have c93 : (fi (fun x => x == 93) p < p.length) ↔ p.contains 93 = true := by rw [fi_take_lt, contains_any]
  by_cases h91 : p.contains 91 = true
  · have hl91 := c91.2 h91
    rw [if_pos (by omega), if_pos h91, F 93 _ (by omega)]
    simp only [Option.bind_some]
    have e1 : (b.take at_).drop (pl + fi (fun x => x == 91) p) = p.drop (fi (fun x => x == 91) p) := by rw [hp, List.drop_drop]
    have hcut : (cutL p 91).2.1 = p.drop (fi (fun x => x == 91) p + 1) := by unfold cutL; rw [← drop_fi, List.drop_drop]
    have e2 : p.drop (fi (fun x => x == 91) p) = 91 :: (cutL p 91).2.1 := by
      rw [hcut, List.drop_eq_getElem_cons hl91]
      have := List.findIdx_getElem (xs := p) (p := fun x => x == 91) (w := hl91)
      have h : p[fi (fun x => x == 91) p] = 91 := by simpa using this
      rw [h]
    have hq : (cutL p 91).2.1.length = p.length - (fi (fun x => x == 91) p + 1) := by rw [hcut]; simp
    rw [e1, e2]
    have e3 : fi (fun x => x == 93) ((91 : UInt8) :: (cutL p 91).2.1) = fi (fun x => x == 93) (cutL p 91).2.1 + 1 := by
      simp [fi, List.findIdx_cons]
    rw [e3]
    have cq : (fi (fun x => x == 93) (cutL p 91).2.1 < (cutL p 91).2.1.length) ↔ (cutL p 91).2.1.contains 93 = true := by rw [fi_take_lt, contains_any]
    have hqle := fi_le (fun x => x == 93) (cutL p 91).2.1
    by_cases h93 : (cutL p 91).2.1.contains 93 = true
    · have hl93 := cq.2 h93
      rw [if_neg (by omega), if_pos h93, wrap_succ _ (by unfold Sm at hb; omega), if_pos (by omega), if_pos (by omega), if_pos (by rw [S_size]; omega), FQ]
      simp only [Option.bind_some]
      rw [if_pos (by omega), if_pos (by rw [S_size]; omega)]
      simp only [Int.toNat_natCast]
      rw [path]
      have eh : (S b).extract (pl + fi (fun x => x == 91) p + 1) (pl + fi (fun x => x == 91) p + (fi (fun x => x == 93) (cutL p 91).2.1 + 1)) = S (cutL (cutL p 91).2.1 93).1 := by
        rw [S_extract]
        have n1 : pl + fi (fun x => x == 91) p + (fi (fun x => x == 93) (cutL p 91).2.1 + 1) - (pl + fi (fun x => x == 91) p + 1) = fi (fun x => x == 93) (cutL p 91).2.1 := by omega
        rw [n1, ← cut_in b at_ _ _ (by omega)]
        have n2 : (b.take at_).drop (pl + fi (fun x => x == 91) p + 1) = (cutL p 91).2.1 := by rw [hcut, hp, List.drop_drop, Nat.add_assoc]
        rw [n2, take_fi]
        rfl
      rw [eh]
    · have : fi (fun x => x == 93) (cutL p 91).2.1 = (cutL p 91).2.1.length := by have := mt cq.1 h93; omega
      rw [if_pos (by omega), if_neg h93]
  · have hl91 : fi (fun x => x == 91) p = p.length := by have := mt c91.1 h91; have := fi_le (fun x => x == 91) p; omega
    rw [if_neg (by omega), if_neg h91, F 93 pl h1]
    simp only [Option.bind_some]
    rw [← hp]
    by_cases h93 : p.contains 93 = true
    · have := c93.2 h93
      rw [if_pos (by omega), if_pos h93]
    · have := mt c93.1 h93
      have h58 := fi_le (fun x => x == 58) p
      rw [if_neg (by omega), if_neg h93, F 58 pl h1]
      simp only [Option.bind_some]
      rw [← hp, if_pos (by omega), if_pos (by omega), if_pos (by rw [S_size]; omega), FQ]
      simp only [Option.bind_some]
      rw [if_pos (by omega), if_pos (by rw [S_size]; omega)]
      simp only [Int.toNat_natCast]
      rw [path]
      have eh : (S b).extract pl (pl + fi (fun x => x == 58) p) = S (cutL p 58).1 := by
        rw [S_extract, Nat.add_sub_cancel_left, ← cut_in b at_ _ _ (by omega), ← hp, take_fi]
        rfl
      rw [eh]
theorem j0_plain (b : List UInt8) (hb : Sm b) (n : Nat) (hn : n ≤ b.length) (k : Nat) (hk : b.length + 4 < k) (hp : ([47, 47] : List UInt8).isPrefixOf (b.drop n) = false) :
    shibbolethref21_Parse.j0 (k + 1) (S b) (n : Int) false true (S []) (S []) = some (toB (tellL (b.drop n))) := by
  rw [shibbolethref21_Parse.j0]
  have hQ := shibbolethref21_first_ev b [63, 35] hb (by decide) n k hn (by simp; omega)
  have hQle : fi (fun c => ([63, 35] : List UInt8).contains c) (b.drop n) ≤ b.length - n := by have := fi_le (fun c => ([63, 35] : List UInt8).contains c) (b.drop n); rwa [List.length_drop] at this
  simp only [lit]
  rw [if_neg (by decide), hQ]
  simp only [Option.bind_some]
  rw [if_pos (by omega), if_pos (by omega), if_pos (by rw [S_size]; omega)]
  simp only [Int.toNat_natCast]
  rw [S_extract, Nat.add_sub_cancel_left, take_fi]
  unfold tellL toB
  rw [if_neg (by rw [hp]; decide)]
  rfl
theorem j0_slashed (b : List UInt8) (hb : Sm b) (n : Nat) (hlen : n + 2 ≤ b.length) (k : Nat) (hk : 2 * b.length + 8 < k) (hp : ([47, 47] : List UInt8).isPrefixOf (b.drop n) = true) :
    shibbolethref21_Parse.j0 (k + 1) (S b) (n : Int) true true (S []) (S []) = some (toB (tellL (b.drop n))) := by
  have hw2 : wrap64 ((n : Int) + 2) = ((n + 2 : Nat) : Int) := by rw [wrap_id (by omega) (by unfold Sm at hb; omega)]; omega
  rw [shibbolethref21_Parse.j0]
  have hF := shibbolethref21_first_ev b [47, 63, 35] hb (by decide) (n + 2) k hlen (by simp; omega)
  simp only [lit]
  rw [if_pos trivial, hw2, hF]
  simp only [Option.bind_some]
  have hfle : fi (fun c => ([47, 63, 35] : List UInt8).contains c) (b.drop (n + 2)) ≤ b.length - (n + 2) := by have := fi_le (fun c => ([47, 63, 35] : List UInt8).contains c) (b.drop (n + 2)); rwa [List.length_drop] at this
  generalize hat : n + 2 + fi (fun c => ([47, 63, 35] : List UInt8).contains c) (b.drop (n + 2)) = at_
  have ha : (b.take at_).drop (n + 2) = (b.drop (n + 2)).takeWhile noSQF := by
    rw [List.drop_take, ← hat, Nat.add_sub_cancel_left, take_fi]; rfl
  have hda : b.drop at_ = (b.drop (n + 2)).dropWhile noSQF := by
    rw [← hat, ← List.drop_drop, drop_fi]; rfl
  have hal : ((b.drop (n + 2)).takeWhile noSQF).length = at_ - (n + 2) := by rw [← ha]; simp; omega
  obtain ⟨k2, hk2⟩ : ∃ k2, k = k2 + (at_ - (n + 2)) + 1 := ⟨k - (at_ - (n + 2)) - 1, by omega⟩
  have hloop := at_l0 b hb (n + 2) at_ (by omega) (by omega) true (S []) (S []) (fun k => shibbolethref21_Parse.l0 (k + 1) (S b) (at_ : Int) ((n + 2 + lastAt 64 ((b.take at_).drop (n + 2)) (at_ - (n + 2)) : Nat) : Int) (at_ : Int) true (S []) (S [])) (fun _ => rfl) (at_ - (n + 2)) 0 k2 (by omega)
  have la0 : lastAt 64 ((b.take at_).drop (n + 2)) 0 = 0 := rfl
  rw [la0, Nat.add_zero] at hloop
  rw [hk2, hloop]
  have hla := lastAt_le 64 ((b.take at_).drop (n + 2)) (at_ - (n + 2))
  have hbl : behindLast 64 ((b.drop (n + 2)).takeWhile noSQF) = (b.take at_).drop (n + 2 + lastAt 64 ((b.take at_).drop (n + 2)) (at_ - (n + 2))) := by
    have := behindLast_eq 64 ((b.drop (n + 2)).takeWhile noSQF)
    rw [← this, hal, ← ha, List.drop_drop]
  rw [l0_end b hb at_ _ (by omega) (by omega) k2 (by omega) _ rfl, ← hbl]
  unfold tellL hostL toB
  have e2 : (b.drop n).drop 2 = b.drop (n + 2) := by rw [List.drop_drop]
  rw [if_pos hp, hda, e2]
  generalize behindLast 64 ((b.drop (n + 2)).takeWhile noSQF) = p
  generalize ((b.drop (n + 2)).dropWhile noSQF).takeWhile noQF = path
  by_cases h91 : p.contains 91 = true
  · have c3 : (cutL (cutL p 91).2.1 93).2.2 = (cutL p 91).2.1.contains 93 := rfl
    simp only [if_pos h91, c3]
    by_cases h93 : (cutL p 91).2.1.contains 93 = true
    · simp only [if_pos h93]
    · simp only [if_neg h93]
  · simp only [if_neg h91]
    by_cases h93 : p.contains 93 = true
    · simp only [h93, if_true, Bool.not_true, Bool.false_eq_true, if_false]
    · have h93f : p.contains 93 = false := Bool.eq_false_iff.2 h93
      simp only [h93f, Bool.false_eq_true, if_false, Bool.not_false, if_true]
theorem Parse_ev (w : List UInt8) (hw : Sm w) (k : Nat) (hk : 3 * w.length + 20 < k) : shibbolethref21_Parse.f k (S w) = some (toB (parseL w)) := by
  have h1 := bareL_len w
  have hb : Sm (bareL w) := by unfold Sm at *; omega
  have hB := Bare_ev w hw k (by omega)
  have hs := scheme_ev _ hb k (by omega)
  have hn := schemeN_le (bareL w)
  unfold parseL
  rw [restL_eq]
  generalize bareL w = b at *
  generalize schemeN b = n at *
  unfold shibbolethref21_Parse.f
  refine Option.bind_eq_some_iff.2 ⟨_, hB, ?_⟩
  refine Option.bind_eq_some_iff.2 ⟨_, hs, ?_⟩
  have hw2 : wrap64 ((n : Int) + 2) = ((n + 2 : Nat) : Int) := by rw [wrap_id (by omega) (by unfold Sm at hb; omega)]; omega
  obtain ⟨k, rfl⟩ : ∃ m, k = m + 1 := ⟨k - 1, by omega⟩
  simp only [lit]
  rw [hw2]
  by_cases hlen : n + 2 ≤ b.length
  · rw [if_pos (by rw [S_size]; omega), if_pos (by omega), if_pos (by omega)]
    simp only [Int.toNat_natCast]
    have htest : (((S b).extract n (n + 2)).toList == ([47, 47] : List UInt8)) = ([47, 47] : List UInt8).isPrefixOf (b.drop n) := by
      rw [S_extract, S_toList, Nat.add_sub_cancel_left]
      have := Lib.hasPrefix_of_take (b.drop n) [47, 47]
      unfold Lib.hasPrefix at this
      rw [← this]
      have h2 : decide (([47, 47] : List UInt8).length ≤ (b.drop n).length) = true := by simp; omega
      rw [h2, Bool.true_and]
      rfl
    rw [htest]
    by_cases hp : ([47, 47] : List UInt8).isPrefixOf (b.drop n) = true
    · rw [hp]
      exact j0_slashed b hb n hlen k (by omega) hp
    · have hpf := Bool.eq_false_iff.2 hp
      rw [hpf]
      exact j0_plain b hb n hn k (by omega) hpf
  · rw [if_neg (by rw [S_size]; omega)]
    refine j0_plain b hb n hn k (by omega) ?_
    rw [Bool.eq_false_iff]
    intro hp
    have := (List.isPrefixOf_iff_prefix.1 hp).length_le
    simp at this
    omega
end Go.Proofs.Ytbjfcnhaedhbaaa.RefPy

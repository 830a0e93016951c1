/- What rfc.Parse tells, in lists' words (under way). -/
import Derived.Test.YtiihgddpejmehaaRfcS
import Derived.Test.YtiihgddpejmehaaZA4
import Derived.Test.YtiihgddpejmehaaZA5
import Derived.Test.YtiihgddpejmehaaZA8
namespace Go.Proofs.Ytiihgddpejmehaa.Rf
open Go.RowKit Go.Proofs.YtiihgddpejmehaaW.PrintWords Go.Proofs.Ytiihgddpejmehaa.L Go.Proofs.Ytiihgddpejmehaa.Str Go.Proofs.Ytiihgddpejmehaa.ZA

/-! sets -/
theorem all_bytes {p : Nat → Bool} (h : (List.range 256).all p = true) (c : UInt8) : p c.toNat = true := List.all_eq_true.1 h _ (List.mem_range.2 c.toNat_lt)
theorem Range_eq (a b : Int) (h : 0 ≤ a ∧ a ≤ b ∧ b ≤ 255) : octets_Range.f a b = some (Base.wd (octets_Range.p a (b + 1)) 0, Base.wd (octets_Range.p a (b + 1)) 1, Base.wd (octets_Range.p a (b + 1)) 2, Base.wd (octets_Range.p a (b + 1)) 3) := by
 unfold octets_Range.f; rw [if_pos h]
theorem Of_eq (l : List Int) (h : (l.all fun x => decide (0 ≤ x) && decide (x ≤ 255)) = true) : octets_Of.f l = some (Base.wd (octets_Of.p l) 0, Base.wd (octets_Of.p l) 1, Base.wd (octets_Of.p l) 2, Base.wd (octets_Of.p l) 3) := by
 unfold octets_Of.f; rw [if_pos h]
def letterP : Nat → Bool := fun n => octets_Range.p 97 (122 + 1) n || octets_Range.p 65 (90 + 1) n
def digitP : Nat → Bool := octets_Range.p 48 (57 + 1)
theorem letters_eq : rfc_letters.f = some (Base.wd letterP 0, Base.wd letterP 1, Base.wd letterP 2, Base.wd letterP 3) := by
 unfold rfc_letters.f
 rw [Range_eq 97 122 (by decide), Range_eq 65 90 (by decide)]
 simp only [Option.bind_some, octets_Or.set]
 rfl
theorem digits_eq : rfc_digits.f = some (Base.wd digitP 0, Base.wd digitP 1, Base.wd digitP 2, Base.wd digitP 3) := by
 unfold rfc_digits.f
 rw [Range_eq 48 57 (by decide)]
 rfl
/-- only: all bytes in the set, or in what is more. -/
theorem Of_nums (m : List UInt8) (c : UInt8) : octets_Of.p (rfc_only.nums (S m)) c.toNat = m.contains c := by
 unfold octets_Of.p rfc_only.nums
 rw [S_data, Bool.eq_iff_iff]
 simp only [List.contains_iff_mem, List.mem_map]
 constructor
 ·rintro ⟨b, hb, h⟩
  have : b = c := UInt8.toNat_inj.1 (by omega)
  exact this ▸ hb
 ·intro h
  exact ⟨c, h, rfl⟩
theorem only_ev (P : Nat → Bool) (l m : List UInt8) (hl : l.length ≤ 9223372036854775807) (hm : m.length ≤ 9223372036854775807) : rfc_only.f (S l) (Base.wd P 0) (Base.wd P 1) (Base.wd P 2) (Base.wd P 3) (S m) = some (l.all fun c => P c.toNat || m.contains c) := by
 unfold rfc_only.f
 rw [if_pos ⟨hl, hm⟩, S_data]
 congr 2
 funext c
 have hw : ∀ j, rfc_only.wor (Base.wd P j) (S m) j = Base.wd (fun n => P n || octets_Of.p (rfc_only.nums (S m)) n) j := fun j => Base.wd_or _ _ j
 rw [hw, hw, hw, hw]
 have h := rfc_only.has_f (Base.wd (fun n => P n || octets_Of.p (rfc_only.nums (S m)) n) 0) (Base.wd (fun n => P n || octets_Of.p (rfc_only.nums (S m)) n) 1) (Base.wd (fun n => P n || octets_Of.p (rfc_only.nums (S m)) n) 2) (Base.wd (fun n => P n || octets_Of.p (rfc_only.nums (S m)) n) 3) c
 have hc := c.toNat_lt
 rw [octets_Has.set _ _ (by omega) (by omega), Int.toNat_natCast, Of_nums] at h
 injection h with h
 exact h.symm

/-! escapes -/
def digitB (c : UInt8) : Bool := decide (48 ≤ c.toNat) && decide (c.toNat ≤ 57)
def hexB (c : UInt8) : Bool := digitB c || (decide (97 ≤ c.toNat) && decide (c.toNat ≤ 102)) || (decide (65 ≤ c.toNat) && decide (c.toNat ≤ 70))
theorem Value_2 (c : UInt8) : ∃ v, percent_Value.f 2 (c.toNat : Int) = some (v, hexB c) := by
 have h := all_bytes (p := fun n => (percent_Value.f 2 (n : Int)).map (fun x => x.2) == some ((decide (48 ≤ n) && decide (n ≤ 57)) || (decide (97 ≤ n) && decide (n ≤ 102)) || (decide (65 ≤ n) && decide (n ≤ 70)))) (by kernel_rfl) c
 have h2 := eq_of_beq h
 cases hv : percent_Value.f 2 (c.toNat : Int) with
 | none => rw [hv] at h2; exact absurd h2 (by simp)
 | some x =>
  rw [hv] at h2
  simp only [Option.map_some, Option.some.injEq] at h2
  exact ⟨x.1, by rw [show hexB c = x.2 from h2.symm]⟩
theorem Value_ev (c : UInt8) (k : Nat) (hk : 2 ≤ k) : ∃ v, percent_Value.f k (c.toNat : Int) = some (v, hexB c) := by
 obtain ⟨v, hv⟩ := Value_2 c
 exact ⟨v, at_rounds (g := fun k => percent_Value.f k (c.toNat : Int)) (fun k v h => percent_Value.mono _ k v h) hk hv⟩
/-- Does an escape stand here? -/
def escB : List UInt8 → Bool
 | c :: a :: b :: _ => c == 37 && hexB a && hexB b
 | _ => false
theorem escape_ev (l : List UInt8) (k : Nat) (hk : 3 ≤ k) : ∃ v, percent_escape.f k (S l) = some (v, escB l) := by
 obtain ⟨k, rfl⟩ : ∃ m, k = m + 1 := ⟨k - 1, by omega⟩
 unfold percent_escape.f
 by_cases h3 : l.length < 3
 ·have he : escB l = false := by
   match l with
   | [] => rfl
   | [_] => rfl
   | [_, _] => rfl
   | _ :: _ :: _ :: _ =>
    simp only [List.length_cons] at h3
    omega
  rw [if_pos (by rw [S_size]; omega), percent_escape.j0, if_pos rfl, he]
  exact ⟨0, rfl⟩
 ·match l, h3 with
  | [], h3 => exact absurd (by decide) h3
  | [_], h3 => exact absurd (by simp) h3
  | [_, _], h3 => exact absurd (by simp) h3
  | c :: a :: b :: t, h3 =>
   have b0 : bt (S (c :: a :: b :: t)) 0 = (c.toNat : Int) := bt_S (c :: a :: b :: t) 0 (by simp)
   have b1 : bt (S (c :: a :: b :: t)) 1 = (a.toNat : Int) := bt_S (c :: a :: b :: t) 1 (by simp)
   have b2 : bt (S (c :: a :: b :: t)) 2 = (b.toNat : Int) := bt_S (c :: a :: b :: t) 2 (by simp)
   have hs : ((S (c :: a :: b :: t)).size : Int) = ((t.length + 3 : Nat) : Int) := by rw [S_size]; rfl
   rw [if_neg (by rw [hs]; omega), if_pos (by rw [hs]; omega), percent_escape.j0, b0]
   have h37 : (37 : UInt8).toNat = 37 := rfl
   by_cases hc : c = 37
   ·obtain ⟨v1, e1⟩ := Value_ev a k (by omega)
    obtain ⟨v2, e2⟩ := Value_ev b k (by omega)
    rw [if_neg (by rw [hc]; decide), if_pos (by rw [hs]; omega), b1, e1]
    simp only [Option.bind_some]
    rw [if_pos (by rw [hs]; omega), b2, e2]
    simp only [Option.bind_some]
    by_cases ha : hexB a = true
    ·rw [if_pos ha]
     exact ⟨Go.bits .or .u8 (v1 * 16 % 256) v2, by simp [escB, hc, ha]⟩
    ·rw [if_neg ha]
     exact ⟨Go.bits .or .u8 (v1 * 16 % 256) v2, by simp [escB, Bool.eq_false_iff.2 ha]⟩
   ·have hcf : (c == 37) = false := beq_eq_false_iff_ne.2 hc
    have : ((c.toNat : Int) != 37) = true := by
     rw [bne_iff_ne]
     exact fun h => hc (UInt8.toNat_inj.1 (by omega))
    rw [this, if_pos rfl]
    exact ⟨0, by simp [escB, hcf]⟩
def validL : List UInt8 → Bool
 | [] => true
 | c :: t => (!(c == 37) || escB (c :: t)) && validL t
theorem Valid_l0 (l : List UInt8) (hl : Sm l) : ∀ (d i k : Nat), i + d = l.length → d + 3 < k → percent_Valid.l0 k (S l) (l.length : Int) (i : Int) = some (validL (l.drop i))
 | 0, i, k, h, hk => by
  obtain ⟨k, rfl⟩ : ∃ m, k = m + 1 := ⟨k - 1, by omega⟩
  rw [percent_Valid.l0, if_neg (by omega), List.drop_of_length_le (by omega)]
  rfl
 | d + 1, i, k, h, hk => by
  obtain ⟨k, rfl⟩ : ∃ m, k = m + 1 := ⟨k - 1, by omega⟩
  have hlt : i < l.length := by omega
  have hd : l.drop i = l[i] :: l.drop (i + 1) := List.drop_eq_getElem_cons hlt
  obtain ⟨v, hv⟩ := escape_ev (l.drop i) k (by omega)
  rw [percent_Valid.l0, if_pos (by omega), if_pos (by omega), if_pos (by rw [S_size]; omega), Int.toNat_natCast, S_from, bt_S l i hlt, wrap_succ i (by unfold Sm at hl; omega), Valid_l0 l hl d (i + 1) k (by omega) (by omega)]
  refine Option.bind_eq_some_iff.2 ⟨_, hv, ?_⟩
  rw [if_pos (by rw [S_size]; omega)]
  have hu : validL (l.drop i) = ((!(l[i] == 37) || escB (l.drop i)) && validL (l.drop (i + 1))) := by
   conv => lhs; rw [hd]
   rw [validL, ← hd]
  rw [hu]
  have h37 : (37 : UInt8).toNat = 37 := rfl
  by_cases hc : l[i] = 37
  ·rw [if_pos (by rw [hc]; rfl), hc, beq_self_eq_true, Bool.not_true, Bool.false_or]
   by_cases he : escB (l.drop i) = true
   ·rw [if_pos he, he, Bool.true_and]
   ·rw [if_neg he, Bool.eq_false_iff.2 he, Bool.false_and]
  ·have hcf : (l[i] == 37) = false := beq_eq_false_iff_ne.2 hc
   rw [if_neg (fun h => hc (UInt8.toNat_inj.1 (by omega))), hcf, Bool.not_false, Bool.true_or, Bool.true_and]
theorem Valid_ev (l : List UInt8) (hl : Sm l) (k : Nat) (hk : l.length + 3 < k) : percent_Valid.f k (S l) = some (validL l) := by
 have := Valid_l0 l hl l.length 0 k (by omega) hk
 rw [List.drop_zero] at this
 unfold percent_Valid.f
 rw [S_size]
 exact this

/-! names -/
def letterB (c : UInt8) : Bool := (decide (97 ≤ c.toNat) && decide (c.toNat ≤ 122)) || (decide (65 ≤ c.toNat) && decide (c.toNat ≤ 90))
def marks : List UInt8 := [45, 46, 95, 126, 33, 36, 38, 39, 40, 41, 42, 43, 44, 59, 61]
def plainB (c : UInt8) : Bool := letterB c || digitB c || marks.contains c
def plainP : Nat → Bool := fun n => (letterP n || digitP n) || octets_Of.p [45, 46, 95, 126, 33, 36, 38, 39, 40, 41, 42, 43, 44, 59, 61] n
def hexP : Nat → Bool := fun n => octets_Range.p 48 (57 + 1) n || (octets_Range.p 97 (102 + 1) n || octets_Range.p 65 (70 + 1) n)
theorem plain_eq : rfc_plain.f = some (Base.wd plainP 0, Base.wd plainP 1, Base.wd plainP 2, Base.wd plainP 3) := by
 unfold rfc_plain.f
 rw [letters_eq, digits_eq, Of_eq _ (by decide)]
 simp only [Option.bind_some, octets_Or.set]
 rfl
theorem Digits_eq : percent_Digits.f = some (Base.wd hexP 0, Base.wd hexP 1, Base.wd hexP 2, Base.wd hexP 3) := by
 unfold percent_Digits.f
 rw [Range_eq 48 57 (by decide), Range_eq 97 102 (by decide), Range_eq 65 70 (by decide)]
 simp only [Option.bind_some, octets_Or.set]
 rfl
theorem letterP_eq (c : UInt8) : letterP c.toNat = letterB c := by
 have h := all_bytes (p := fun n => letterP n == ((decide (97 ≤ n) && decide (n ≤ 122)) || (decide (65 ≤ n) && decide (n ≤ 90)))) (by kernel_rfl) c
 exact eq_of_beq h
theorem digitP_eq (c : UInt8) : digitP c.toNat = digitB c := by
 have h := all_bytes (p := fun n => digitP n == (decide (48 ≤ n) && decide (n ≤ 57))) (by kernel_rfl) c
 exact eq_of_beq h
theorem hexP_eq (c : UInt8) : hexP c.toNat = hexB c := by
 have h := all_bytes (p := fun n => hexP n == ((decide (48 ≤ n) && decide (n ≤ 57)) || (decide (97 ≤ n) && decide (n ≤ 102)) || (decide (65 ≤ n) && decide (n ≤ 70)))) (by kernel_rfl) c
 exact eq_of_beq h
theorem plainP_eq (c : UInt8) : plainP c.toNat = plainB c := by
 have h := all_bytes (p := fun n => octets_Of.p [45, 46, 95, 126, 33, 36, 38, 39, 40, 41, 42, 43, 44, 59, 61] n == marks.contains (UInt8.ofNat n)) (by kernel_rfl) c
 have h2 := eq_of_beq h
 rw [UInt8.ofNat_toNat] at h2
 unfold plainP plainB
 rw [letterP_eq, digitP_eq, h2]
def namedL (l m : List UInt8) : Bool := validL l && l.all fun c => plainB c || (m ++ [37]).contains c
theorem named_ev (l m : List UInt8) (hl : Sm l) (hm : Sm m) (k : Nat) (hk : l.length + 3 < k) : rfc_named.f k (S l) (S m) = some (namedL l m) := by
 unfold rfc_named.f namedL
 refine Option.bind_eq_some_iff.2 ⟨_, Valid_ev l hl k hk, ?_⟩
 by_cases h : validL l = true
 ·rw [if_pos h, h, Bool.true_and]
  refine Option.bind_eq_some_iff.2 ⟨_, plain_eq, ?_⟩
  have e1 : (S m ++ (⟨#[37]⟩ : ByteArray)) = S (m ++ [37]) := S_append m [37]
  rw [if_pos (by rw [S_size]; unfold Sm at hm; omega), e1]
  have ho := only_ev plainP l (m ++ [37]) (by unfold Sm at hl; omega) (by rw [List.length_append, List.length_singleton]; unfold Sm at hm; omega)
  simp only [plainP_eq] at ho
  refine Option.bind_eq_some_iff.2 ⟨_, ho, ?_⟩
  rfl
 ·rw [if_neg h, Bool.eq_false_iff.2 h, Bool.false_and]

/-! what stands in brackets -/
def vB (c : UInt8) : Bool := c == 118 || c == 86
def laterL (s : List UInt8) : Bool :=
 (cutL s 46).2.2 && (match (cutL s 46).1 with | [] => false | c :: t => vB c && !t.isEmpty && (t.all fun x => hexB x || ([] : List UInt8).contains x)) && !(cutL s 46).2.1.isEmpty && ((cutL s 46).2.1.all fun x => plainB x || ([58] : List UInt8).contains x)
def literalL (s : List UInt8) : Bool := (!s.isEmpty && s.all fun x => hexB x || ([58, 46] : List UInt8).contains x) || laterL s
theorem vB_eq (c : UInt8) : (Go.bits .or .u8 (c.toNat : Int) 32 != 118) = !vB c := by
 have h := all_bytes (p := fun n => (Go.bits .or .u8 (n : Int) 32 != 118) == !(vB (UInt8.ofNat n))) (by kernel_rfl) c
 have h2 := eq_of_beq h
 rw [UInt8.ofNat_toNat] at h2
 exact h2
theorem isEmpty_S (l : List UInt8) : (S l).toList = ([] : List UInt8) ↔ l = [] := by rw [S_toList]
theorem only_hex (l m : List UInt8) (hl : Sm l) (hm : Sm m) : rfc_only.f (S l) (Base.wd hexP 0) (Base.wd hexP 1) (Base.wd hexP 2) (Base.wd hexP 3) (S m) = some (l.all fun c => hexB c || m.contains c) := by
 have ho := only_ev hexP l m (by unfold Sm at hl; omega) (by unfold Sm at hm; omega)
 simp only [hexP_eq] at ho
 exact ho
theorem only_plain (l m : List UInt8) (hl : Sm l) (hm : Sm m) : rfc_only.f (S l) (Base.wd plainP 0) (Base.wd plainP 1) (Base.wd plainP 2) (Base.wd plainP 3) (S m) = some (l.all fun c => plainB c || m.contains c) := by
 have ho := only_ev plainP l m (by unfold Sm at hl; omega) (by unfold Sm at hm; omega)
 simp only [plainP_eq] at ho
 exact ho
theorem literal_j1 (v r : List UInt8) (hv : Sm v) (hr : Sm r) (k : Nat) (x : Bool) : rfc_literal.j1 (k + 1) (S v) (S r) x = some (!x && (!(v.drop 1).isEmpty && ((v.drop 1).all fun x => hexB x || ([] : List UInt8).contains x)) && !r.isEmpty && (r.all fun x => plainB x || ([58] : List UInt8).contains x)) ∨ (x = false ∧ v = []) := by
 by_cases hv0 : v = []
 ·cases x with
  | false => exact .inr ⟨rfl, hv0⟩
  | true =>
   left
   rw [rfc_literal.j1, if_pos rfl]
   rfl
 ·left
  have hlen : 1 ≤ v.length := by
   cases v with
   | nil => exact absurd rfl hv0
   | cons c t => simp
  have hsd : Sm (v.drop 1) := by unfold Sm at *; rw [List.length_drop]; omega
  rw [rfc_literal.j1]
  cases x with
  | true => rw [if_pos rfl]; rfl
  | false =>
   rw [if_neg (by decide), if_pos (by rw [S_size]; omega), S_from]
   by_cases hd : v.drop 1 = []
   ·rw [if_pos ((isEmpty_S _).2 hd), hd]
    rfl
   ·have hne : (v.drop 1).isEmpty = false := by rw [List.isEmpty_eq_false_iff]; exact hd
    rw [if_neg (fun h => hd ((isEmpty_S _).1 h)), hne, Bool.not_false, Bool.true_and, Bool.true_and]
    refine Option.bind_eq_some_iff.2 ⟨_, Digits_eq, ?_⟩
    refine Option.bind_eq_some_iff.2 ⟨_, only_hex (v.drop 1) [] hsd (by decide), ?_⟩
    by_cases hx : ((v.drop 1).all fun x => hexB x || ([] : List UInt8).contains x) = true
    ·rw [if_pos hx, hx, Bool.true_and]
     by_cases hr0 : r = []
     ·rw [if_pos ((isEmpty_S _).2 hr0), hr0]
      rfl
     ·have hne2 : r.isEmpty = false := by rw [List.isEmpty_eq_false_iff]; exact hr0
      rw [if_neg (fun h => hr0 ((isEmpty_S _).1 h)), hne2, Bool.not_false, Bool.true_and]
      refine Option.bind_eq_some_iff.2 ⟨_, plain_eq, ?_⟩
      refine Option.bind_eq_some_iff.2 ⟨_, only_plain r [58] hr (by decide), ?_⟩
      rfl
    ·rw [if_neg hx, Bool.eq_false_iff.2 hx, Bool.false_and, Bool.false_and]
theorem literal_j0 (s : List UInt8) (hs : Sm s) (k : Nat) (x : Bool) : rfc_literal.j0 (k + 2) (S s) x = some (x || laterL s) := by
 rw [rfc_literal.j0]
 cases x with
 | true => rw [if_pos rfl]; rfl
 | false =>
  rw [if_neg (by decide), Bool.false_or]
  refine Option.bind_eq_some_iff.2 ⟨_, Cut_eq s hs 46, ?_⟩
  have h1 : Sm (cutL s 46).1 := by have := cut1_len s 46; unfold Sm at *; omega
  have h2 : Sm (cutL s 46).2.1 := by
   have : (cutL s 46).2.1.length ≤ s.length := by
    show ((s.dropWhile (fun x => !(x == 46))).drop 1).length ≤ s.length
    have := drop_len (fun x => !(x == 46)) s
    rw [List.length_drop]
    omega
   unfold Sm at *
   omega
  unfold laterL
  generalize (cutL s 46).1 = v at *
  generalize (cutL s 46).2.1 = r at *
  generalize (cutL s 46).2.2 = ok at *
  cases ok with
  | false =>
   rw [if_neg (show ¬ (false = true) by decide)]
   rcases literal_j1 v r h1 h2 k true with e | e
   ·refine e.trans ?_
    rfl
   ·exact absurd e.1 (by decide)
  | true =>
   rw [if_pos rfl]
   cases v with
   | nil =>
    rw [if_pos (S_toList [])]
    rcases literal_j1 [] r h1 h2 k true with e | e
    ·refine e.trans ?_
     rfl
    ·exact absurd e.1 (by decide)
   | cons c t =>
    have hb : bt (S (c :: t)) 0 = (c.toNat : Int) := bt_S (c :: t) 0 (by simp)
    rw [if_neg (by rw [S_toList]; simp), if_pos (by rw [S_size, List.length_cons]; omega), hb, vB_eq]
    rcases literal_j1 (c :: t) r h1 h2 k (!vB c) with e | e
    ·refine e.trans ?_
     rw [Bool.not_not, List.drop_succ_cons, List.drop_zero]
     simp only [Bool.true_and, Bool.and_assoc]
    ·exact absurd e.2 (by simp)
theorem literal_ev (s : List UInt8) (hs : Sm s) (k : Nat) (hk : 2 ≤ k) : rfc_literal.f k (S s) = some (literalL s) := by
 obtain ⟨k, rfl⟩ : ∃ m, k = m + 2 := ⟨k - 2, by omega⟩
 unfold rfc_literal.f literalL
 by_cases h : s = []
 ·rw [if_pos ((isEmpty_S _).2 h), literal_j0 s hs k false, h]
  rfl
 ·have hne : s.isEmpty = false := by rw [List.isEmpty_eq_false_iff]; exact h
  rw [if_neg (fun e => h ((isEmpty_S _).1 e)), hne, Bool.not_false, Bool.true_and]
  refine Option.bind_eq_some_iff.2 ⟨_, Digits_eq, ?_⟩
  refine Option.bind_eq_some_iff.2 ⟨_, only_hex s [58, 46] hs (by decide), ?_⟩
  exact literal_j0 s hs k _

/-! the host -/
def portL (r : List UInt8) : Bool := (match r with | [] => true | c :: _ => c == 58) && (r.all fun c => digitB c || ([58] : List UInt8).contains c) && !decide (Lib.countByte r 58 > 1)
def hostAt (u h : List UInt8) (n : Nat) : List UInt8 × Bool := if portL (h.drop n) = true then (h.take n, namedL u [58]) else ([], false)
theorem only_digit (l m : List UInt8) (hl : Sm l) (hm : Sm m) : rfc_only.f (S l) (Base.wd digitP 0) (Base.wd digitP 1) (Base.wd digitP 2) (Base.wd digitP 3) (S m) = some (l.all fun c => digitB c || m.contains c) := by
 have ho := only_ev digitP l m (by unfold Sm at hl; omega) (by unfold Sm at hm; omega)
 simp only [digitP_eq] at ho
 exact ho
theorem Count_eq (l : List UInt8) : strings_Count.f (S l) (⟨#[58]⟩ : ByteArray) = some (Lib.countByte l 58) := rfl
theorem host_j1 (u h : List UInt8) (hu : Sm u) (hh : Sm h) (n : Nat) (hn : n ≤ h.length) (k : Nat) (hk : u.length + 3 < k) : rfc_host.j1 (k + 1) (S u) (S h) (n : Int) = some (S (hostAt u h n).1, (hostAt u h n).2) := by
 have hd : Sm (h.drop n) := by unfold Sm at *; rw [List.length_drop]; omega
 have tail : ∀ b : Bool, b = ((h.drop n).all fun c => digitB c || ([58] : List UInt8).contains c) → (match h.drop n with | [] => true | c :: _ => c == 58) = true →
   (if b = true then ((strings_Count.f (S (h.drop n)) (⟨#[58]⟩ : ByteArray)).bind fun t => (if t > 1 then (some ((⟨#[]⟩ : ByteArray), false)) else ((rfc_named.f k (S u) (⟨#[58]⟩ : ByteArray)).bind fun t2 => (some (S (h.take n), t2))))) else (some ((⟨#[]⟩ : ByteArray), false))) = some (S (hostAt u h n).1, (hostAt u h n).2) := by
  intro b hb hm
  unfold hostAt portL
  rw [hm, ← hb, Bool.true_and]
  cases b with
  | false => rfl
  | true =>
   rw [if_pos rfl, Bool.true_and]
   refine Option.bind_eq_some_iff.2 ⟨_, Count_eq _, ?_⟩
   by_cases hc : Lib.countByte (h.drop n) 58 > 1
   ·rw [if_pos (by omega), decide_eq_true hc]
    rfl
   ·rw [if_neg (by omega), decide_eq_false hc]
    refine Option.bind_eq_some_iff.2 ⟨_, named_ev u [58] hu (by decide) k hk, ?_⟩
    rfl
 rw [rfc_host.j1, if_pos (by omega), if_pos (by rw [S_size]; omega), Int.toNat_natCast, S_from, S_upto]
 by_cases h0 : h.drop n = []
 ·rw [if_pos ((isEmpty_S _).2 h0)]
  refine Option.bind_eq_some_iff.2 ⟨_, digits_eq, ?_⟩
  refine Option.bind_eq_some_iff.2 ⟨_, only_digit (h.drop n) [58] hd (by decide), ?_⟩
  exact tail _ rfl (by rw [h0])
 ·rw [if_neg (fun e => h0 ((isEmpty_S _).1 e))]
  obtain ⟨c, t, hct⟩ : ∃ c t, h.drop n = c :: t := by
   cases hq : h.drop n with
   | nil => exact absurd hq h0
   | cons c t => exact ⟨c, t, rfl⟩
  have hb : bt (S (h.drop n)) 0 = (c.toNat : Int) := by rw [hct]; exact bt_S (c :: t) 0 (by simp)
  have h58 : (58 : UInt8).toNat = 58 := rfl
  rw [if_pos (by rw [S_size, hct, List.length_cons]; omega), hb]
  by_cases hc : c = 58
  ·rw [if_pos (by rw [hc]; rfl)]
   refine Option.bind_eq_some_iff.2 ⟨_, digits_eq, ?_⟩
   refine Option.bind_eq_some_iff.2 ⟨_, only_digit (h.drop n) [58] hd (by decide), ?_⟩
   exact tail _ rfl (by rw [hct, hc]; rfl)
  ·rw [if_neg (fun e => hc (UInt8.toNat_inj.1 (by omega)))]
   have hp : portL (c :: t) = false := by
    show ((c == 58) && _ && _) = false
    rw [show (c == 58) = false from beq_eq_false_iff_ne.2 hc]
    rfl
   unfold hostAt
   rw [hct, if_neg (by rw [hp]; decide)]
   rfl
def hostB (u h : List UInt8) : List UInt8 × Bool :=
 if ([91] : List UInt8).isPrefixOf h = true then
  (if h.contains 93 = true ∧ literalL ((h.take (fi (fun x => x == 93) h)).drop 1) = true then hostAt u h (fi (fun x => x == 93) h + 1) else ([], false))
 else (if namedL (h.take (fi (fun x => x == 58) h)) [] = true then hostAt u h (fi (fun x => x == 58) h) else ([], false))
def hostL (s : List UInt8) : List UInt8 × Bool := if s.contains 64 = true then hostB (cutL s 64).1 (cutL s 64).2.1 else hostB [] s
theorem fi_app (h : List UInt8) : fi (fun x => x == 58) (h ++ [58]) = fi (fun x => x == 58) h := by
 induction h with
 | nil => rfl
 | cons c t ih =>
  simp only [fi, List.cons_append, List.findIdx_cons] at *
  rw [ih]
theorem host_j0 (u h : List UInt8) (hu : Sm u) (hh : Sm h) (k : Nat) (hk : u.length + h.length + 5 < k) : rfc_host.j0 (k + 2) (S u) (S h) = some (S (hostB u h).1, (hostB u h).2) := by
 have e1 : (S h ++ (⟨#[58]⟩ : ByteArray)) = S (h ++ [58]) := S_append h [58]
 have hi := IndexByte_eq (h ++ [58]) 58
 rw [if_pos (by simp), fi_app, show (((58 : UInt8).toNat : Nat) : Int) = 58 from rfl] at hi
 have hle := fi_le (fun x => x == 58) h
 rw [rfc_host.j0, if_pos (by rw [S_size]; unfold Sm at hh; omega), e1]
 refine Option.bind_eq_some_iff.2 ⟨_, hi, ?_⟩
 refine Option.bind_eq_some_iff.2 ⟨_, HasPrefix_eq h [91], ?_⟩
 unfold hostB
 by_cases hb : ([91] : List UInt8).isPrefixOf h = true
 ·have hj := IndexByte_eq h 93
  rw [show (((93 : UInt8).toNat : Nat) : Int) = 93 from rfl] at hj
  rw [if_pos hb, if_pos hb]
  refine Option.bind_eq_some_iff.2 ⟨_, hj, ?_⟩
  by_cases hc : h.contains 93 = true
  ·have hlt := fi_contains hc
   have h1 : 1 ≤ fi (fun x => x == 93) h := by
    obtain ⟨t, rfl⟩ := List.isPrefixOf_iff_prefix.1 hb
    show 1 ≤ List.findIdx (fun x => x == 93) (91 :: t)
    rw [List.findIdx_cons]
    simp
   have hw : wrap64 (((fi (fun x => x == 93) h + 1 : Nat) : Int) - 1) = ((fi (fun x => x == 93) h : Nat) : Int) := by rw [wrap_id (by omega) (by unfold Sm at hh; omega)]; omega
   rw [if_pos hc, wrap_succ _ (by unfold Sm at hh; omega), if_neg (by omega), hw, if_pos (by omega), if_pos (by rw [S_size]; omega), Int.toNat_natCast, S_extract]
   have ed : (h.drop 1).take (fi (fun x => x == 93) h - 1) = (h.take (fi (fun x => x == 93) h)).drop 1 := by rw [List.drop_take]
   have hsl : Sm ((h.take (fi (fun x => x == 93) h)).drop 1) := by unfold Sm at *; rw [List.length_drop, List.length_take]; omega
   rw [ed]
   refine Option.bind_eq_some_iff.2 ⟨_, literal_ev _ hsl _ (by omega), ?_⟩
   by_cases hL : literalL ((h.take (fi (fun x => x == 93) h)).drop 1) = true
   ·rw [if_pos hL, if_pos ⟨hc, hL⟩]
    exact host_j1 u h hu hh _ (by omega) k (by omega)
   ·rw [if_neg hL, if_neg (fun e => hL e.2)]
    rfl
  ·rw [if_neg hc, show wrap64 ((-1 : Int) + 1) = 0 from wrap_id (by decide) (by decide), if_pos rfl, if_neg (fun e => hc e.1)]
   rfl
 ·rw [if_neg hb, if_neg hb, if_pos (by omega), if_pos (by rw [S_size]; omega), Int.toNat_natCast, S_upto]
  have hsn : Sm (h.take (fi (fun x => x == 58) h)) := by unfold Sm at *; rw [List.length_take]; omega
  refine Option.bind_eq_some_iff.2 ⟨_, named_ev _ [] hsn (by decide) _ (by rw [List.length_take]; omega), ?_⟩
  by_cases hn : namedL (h.take (fi (fun x => x == 58) h)) [] = true
  ·rw [if_pos hn, if_pos hn]
   exact host_j1 u h hu hh _ (by omega) k (by omega)
  ·rw [if_neg hn, if_neg hn]
   rfl
theorem host_ev (s : List UInt8) (hs : Sm s) (k : Nat) (hk : 2 * s.length + 7 < k) : rfc_host.f k (S s) = some (S (hostL s).1, (hostL s).2) := by
 obtain ⟨k, rfl⟩ : ∃ m, k = m + 2 := ⟨k - 2, by omega⟩
 have h1 := cut1_len s 64
 have h2 : (cutL s 64).2.1.length ≤ s.length := by
  show ((s.dropWhile (fun x => !(x == 64))).drop 1).length ≤ s.length
  have := drop_len (fun x => !(x == 64)) s
  rw [List.length_drop]
  omega
 unfold rfc_host.f hostL
 refine Option.bind_eq_some_iff.2 ⟨_, Cut_eq s hs 64, ?_⟩
 have h3 : (cutL s 64).2.2 = s.contains 64 := rfl
 by_cases hc : s.contains 64 = true
 ·rw [if_pos (by rw [h3]; exact hc), if_pos hc]
  exact host_j0 _ _ (by unfold Sm at *; omega) (by unfold Sm at *; omega) k (by omega)
 ·rw [if_neg (by rw [h3]; exact hc), if_neg hc]
  exact host_j0 [] s (by decide) hs k (by simp only [List.length_nil]; omega)

/-! all -/
def schemeOk (a : List UInt8) : Bool := match a with | [] => false | c :: t => letterB c && ((c :: t).all fun x => (letterB x || digitB x) || ([43, 45, 46] : List UInt8).contains x)
def restOk (p : Parts) : Bool := namedL p.c [58, 64, 47] && namedL p.d [58, 64, 47, 63] && namedL p.e [58, 64, 47, 63]
def hostOf (p : Parts) : List UInt8 × Bool := if p.h1 = true then hostL p.b else ([], true)
def lone (p : Parts) : Bool := !p.h0 && !p.h1 && (p.c.takeWhile fun x => !([47] : List UInt8).contains x).contains 58
def tellL (p : Parts) : Bool × List UInt8 × List UInt8 :=
 if (!p.h0 || schemeOk p.a) = true ∧ (hostOf p).2 = true ∧ lone p = false ∧ restOk p = true then (true, (hostOf p).1, p.c) else (false, [], [])
def toB (x : Bool × List UInt8 × List UInt8) : Bool × ByteArray × ByteArray := (x.1, S x.2.1, S x.2.2)
theorem Parse_j2 (c d e h : List UInt8) (hc : Sm c) (hd : Sm d) (he : Sm e) (k : Nat) (hk : c.length + d.length + e.length + 4 < k) (x : Bool) :
  rfc_Parse.j2 (k + 1) (S c) (S d) (S e) (S h) x = some (toB (if x = false ∧ (namedL c [58, 64, 47] && namedL d [58, 64, 47, 63] && namedL e [58, 64, 47, 63]) = true then (true, h, c) else (false, [], []))) := by
 rw [rfc_Parse.j2]
 cases x with
 | true => rw [if_pos rfl, if_neg (fun h => absurd h.1 (by decide))]; rfl
 | false =>
  rw [if_neg (by decide)]
  refine Option.bind_eq_some_iff.2 ⟨_, named_ev c [58, 64, 47] hc (by decide) k (by omega), ?_⟩
  by_cases h1 : namedL c [58, 64, 47] = true
  ·rw [if_pos h1, h1, Bool.true_and]
   refine Option.bind_eq_some_iff.2 ⟨_, named_ev d [58, 64, 47, 63] hd (by decide) k (by omega), ?_⟩
   by_cases h2 : namedL d [58, 64, 47, 63] = true
   ·rw [if_pos h2, h2, Bool.true_and]
    refine Option.bind_eq_some_iff.2 ⟨_, named_ev e [58, 64, 47, 63] he (by decide) k (by omega), ?_⟩
    by_cases h3 : namedL e [58, 64, 47, 63] = true
    ·rw [if_pos h3, if_pos ⟨rfl, h3⟩]
     rfl
    ·rw [if_neg h3, if_neg (fun e => h3 e.2)]
     rfl
   ·rw [if_neg h2, Bool.eq_false_iff.2 h2, if_neg (fun e => absurd e.2 (by simp))]
    rfl
  ·rw [if_neg h1, Bool.eq_false_iff.2 h1, if_neg (fun e => absurd e.2 (by simp))]
   rfl
theorem Parse_j1 (c d e h : List UInt8) (hc : Sm c) (hd : Sm d) (he : Sm e) (h0 h1 h2 h3 ok : Bool) (k : Nat) (hk : c.length + d.length + e.length + 4 < k) :
  rfc_Parse.j1 (k + 2) (S c) (S d) (S e) (S h) ok h0 h1 h2 h3 = some (toB (if ok = true ∧ (!h0 && !h1 && (c.takeWhile fun x => !([47] : List UInt8).contains x).contains 58) = false ∧ (namedL c [58, 64, 47] && namedL d [58, 64, 47, 63] && namedL e [58, 64, 47, 63]) = true then (true, h, c) else (false, [], []))) := by
 have j2 := Parse_j2 c d e h hc hd he k hk
 rw [rfc_Parse.j1]
 refine Option.bind_eq_some_iff.2 ⟨_, rfc_upTo_eq c [47] (by decide), ?_⟩
 cases ok with
 | false =>
  rw [if_neg (show ¬ (false = true) by decide), j2 true, if_neg (fun e => absurd e.1 (by decide)), if_neg (fun e => absurd e.1 (by decide))]
 | true =>
  rw [if_pos rfl]
  cases h0 with
  | true =>
   rw [if_pos rfl, j2 false]
   simp only [Bool.not_true, Bool.false_and, true_and]
  | false =>
   rw [if_neg (show ¬ (false = true) by decide)]
   cases h1 with
   | true =>
    rw [if_pos rfl, j2 false]
    simp only [Bool.not_true, Bool.and_false, Bool.false_and, true_and]
   | false =>
    rw [if_neg (show ¬ (false = true) by decide)]
    refine Option.bind_eq_some_iff.2 ⟨_, Contains_eq _ 58, ?_⟩
    rw [j2]
    simp only [Bool.not_false, Bool.true_and, true_and]
theorem Parse_j0 (p : Parts) (hb : Sm p.b) (hc : Sm p.c) (hd : Sm p.d) (he : Sm p.e) (k : Nat) (hk : 2 * p.b.length + p.c.length + p.d.length + p.e.length + 8 < k) (x : Bool) (hx : x = !(!p.h0 || schemeOk p.a)) :
  rfc_Parse.j0 (k + 3) (S p.b) (S p.c) (S p.d) (S p.e) x p.h0 p.h1 p.h2 p.h3 = some (toB (tellL p)) := by
 rw [rfc_Parse.j0]
 unfold tellL
 cases hs : (!p.h0 || schemeOk p.a) with
 | false =>
  rw [if_pos (by rw [hx, hs]; rfl), if_neg (fun e => absurd e.1 (by decide))]
  rfl
 | true =>
  rw [if_neg (by rw [hx, hs]; decide)]
  unfold hostOf
  by_cases h1 : p.h1 = true
  ·rw [if_pos h1]
   refine Option.bind_eq_some_iff.2 ⟨_, host_ev p.b hb (k + 2) (by omega), ?_⟩
   have j1 := Parse_j1 p.c p.d p.e (hostL p.b).1 hc hd he p.h0 p.h1 p.h2 p.h3 (hostL p.b).2 k (by omega)
   rw [if_pos h1]
   refine j1.trans ?_
   simp only [lone, restOk, true_and]
  ·have j1 := Parse_j1 p.c p.d p.e [] hc hd he p.h0 p.h1 p.h2 p.h3 true k (by omega)
   rw [if_neg h1, if_neg h1]
   refine Eq.trans j1 ?_
   simp only [lone, restOk, true_and]
theorem cut2_len (l : List UInt8) (c : UInt8) : (cutL l c).2.1.length ≤ l.length := by
 show ((l.dropWhile (fun x => !(x == c))).drop 1).length ≤ l.length
 have := drop_len (fun x => !(x == c)) l
 rw [List.length_drop]
 omega
theorem scheme_len (w : List UInt8) : (schemeL w).2.1.length ≤ w.length := by
 unfold schemeL
 split
 ·show ((w.dropWhile no1).drop 1).length ≤ _
  have := drop_len no1 w
  rw [List.length_drop]
  omega
 ·exact Nat.le_refl _
theorem auth_len (w : List UInt8) : (authL w).1.length ≤ w.length ∧ (authL w).2.1.length ≤ w.length := by
 unfold authL
 split
 ·have h1 := take_len no2 (w.drop 2)
  have h2 := drop_len no2 (w.drop 2)
  rw [List.length_drop] at h1 h2
  exact ⟨by show ((w.drop 2).takeWhile no2).length ≤ _; omega, by show ((w.drop 2).dropWhile no2).length ≤ _; omega⟩
 ·exact ⟨Nat.zero_le _, Nat.le_refl _⟩
theorem parts_len (w : List UInt8) : (splitL w).b.length ≤ w.length ∧ (splitL w).c.length ≤ w.length ∧ (splitL w).d.length ≤ w.length ∧ (splitL w).e.length ≤ w.length := by
 have h0 := scheme_len w
 have h1 := auth_len (schemeL w).2.1
 have h2 := cut1_len (tailL w) 35
 have h3 := cut2_len (tailL w) 35
 have h4 := cut1_len (cutL (tailL w) 35).1 63
 have h5 := cut2_len (cutL (tailL w) 35).1 63
 have h6 : (tailL w).length ≤ w.length := Nat.le_trans h1.2 h0
 exact ⟨Nat.le_trans h1.1 h0, Nat.le_trans h4 (Nat.le_trans h2 h6), Nat.le_trans h5 (Nat.le_trans h2 h6), Nat.le_trans h3 h6⟩
theorem scheme_some (w : List UInt8) (h : (splitL w).h0 = true) : (splitL w).a ≠ [] ∧ (splitL w).a.length ≤ w.length := by
 have h2 : (schemeL w).2.2 = true := h
 show (schemeL w).1 ≠ [] ∧ (schemeL w).1.length ≤ w.length
 unfold schemeL at *
 by_cases hc : w.takeWhile no1 ≠ [] ∧ ([58] : List UInt8).isPrefixOf (w.dropWhile no1) = true
 ·rw [if_pos hc]
  exact ⟨hc.1, take_len no1 w⟩
 ·rw [if_neg hc] at h2
  exact absurd (show false = true from h2) (by decide)
theorem Has_letter (c : UInt8) : octets_Has.f (Base.wd letterP 0) (Base.wd letterP 1) (Base.wd letterP 2) (Base.wd letterP 3) (c.toNat : Int) = some (letterB c) := by
 have hc := c.toNat_lt
 rw [octets_Has.set letterP _ (by omega) (by omega), Int.toNat_natCast, letterP_eq]
theorem Parse_ev (w : List UInt8) (hw : Sm w) (k : Nat) (hk : 5 * w.length + 20 < k) : rfc_Parse.f k (S w) = some (toB (tellL (splitL w))) := by
 obtain ⟨k, rfl⟩ : ∃ m, k = m + 3 := ⟨k - 3, by omega⟩
 have hl := parts_len w
 have hsome := scheme_some w
 unfold rfc_Parse.f
 refine Option.bind_eq_some_iff.2 ⟨_, Split_ev w hw _ (by omega), ?_⟩
 generalize splitL w = p at *
 have j0 := Parse_j0 p (by unfold Sm at *; omega) (by unfold Sm at *; omega) (by unfold Sm at *; omega) (by unfold Sm at *; omega) k (by omega)
 show (if p.h0 = true then _ else _) = _
 by_cases h0 : p.h0 = true
 ·obtain ⟨hne, hal⟩ := hsome h0
  rw [if_pos h0]
  refine Option.bind_eq_some_iff.2 ⟨_, letters_eq, ?_⟩
  obtain ⟨c, t, hct⟩ : ∃ c t, p.a = c :: t := by
   cases hq : p.a with
   | nil => exact absurd hq hne
   | cons c t => exact ⟨c, t, rfl⟩
  have hb : bt (S p.a) 0 = (c.toNat : Int) := by rw [hct]; exact bt_S (c :: t) 0 (by simp)
  show (if 0 < ((S p.a).size : Int) then _ else _) = _
  rw [if_pos (by rw [S_size, hct, List.length_cons]; omega)]
  show (octets_Has.f _ _ _ _ (bt (S p.a) 0)).bind _ = _
  rw [hb]
  refine Option.bind_eq_some_iff.2 ⟨_, Has_letter c, ?_⟩
  by_cases hL : letterB c = true
  ·rw [if_pos hL]
   refine Option.bind_eq_some_iff.2 ⟨_, letters_eq, ?_⟩
   refine Option.bind_eq_some_iff.2 ⟨_, digits_eq, ?_⟩
   refine Option.bind_eq_some_iff.2 ⟨_, octets_Or.set letterP digitP, ?_⟩
   have ho := only_ev (fun n => letterP n || digitP n) p.a [43, 45, 46] (by unfold Sm at hw; omega) (by decide)
   simp only [letterP_eq, digitP_eq] at ho
   refine Option.bind_eq_some_iff.2 ⟨_, ho, ?_⟩
   refine j0 _ ?_
   rw [h0, hct]
   simp only [schemeOk, hL, Bool.not_true, Bool.false_or, Bool.true_and]
  ·rw [if_neg hL]
   refine j0 _ ?_
   rw [h0, hct]
   simp only [schemeOk, Bool.eq_false_iff.2 hL, Bool.not_true, Bool.false_or, Bool.false_and]
 ·rw [if_neg h0]
  refine j0 _ ?_
  rw [Bool.eq_false_iff.2 h0]
  rfl
end Go.Proofs.Ytiihgddpejmehaa.Rf
-- shrunk

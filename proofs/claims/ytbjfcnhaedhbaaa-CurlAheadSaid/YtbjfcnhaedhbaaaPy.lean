/- What pyurl.Parse tells, in lists' words. -/
import Derived.Test.YtbjfcnhaedhbaaaStr
import Derived.Test.YtbjfcnhaedhbaaaZA2
import Derived.Test.YtbjfcnhaedhbaaaZA3
import Derived.Test.YtbjfcnhaedhbaaaZA4
import Derived.Test.YtbjfcnhaedhbaaaZA5
namespace Go.Proofs.Ytbjfcnhaedhbaaa.Py
open Go.RowKit Go.Proofs.YtbjfcnhaedhbaaaW.PrintWords Go.Proofs.Ytbjfcnhaedhbaaa.L Go.Proofs.Ytbjfcnhaedhbaaa.Str Go.Proofs.Ytbjfcnhaedhbaaa.ZA

/-- Are all bytes of a text ASCII? -/
theorem pyurl_anyAt_eq (l m : List UInt8) (hm : (m.all fun x => decide (x.toNat < 128)) = true) : pyurl_anyAt.f (S l) (S m) = some (if (l.any fun c => m.contains c) = true then (fi (fun c => m.contains c) l : Int) else -1) := by
  have h : pyurl_anyAt.f (S l) (S m) = if (m.all fun x => decide (x.toNat < 128)) = true then some (Runes.anyIdx l m) else none := rfl
  rw [h, if_pos hm, anyIdx_eq]
theorem pyurl_upTo_eq (l m : List UInt8) (hm : (m.all fun x => decide (x.toNat < 128)) = true) : pyurl_upTo.f (S l) (S m) = some (S (l.takeWhile fun c => !m.contains c), S (l.dropWhile fun c => !m.contains c)) := by
  unfold pyurl_upTo.f
  rw [pyurl_anyAt_eq l m hm]
  simp only [Option.bind_some]
  by_cases h : (l.any fun c => m.contains c) = true
  · have hlt : fi (fun c => m.contains c) l < l.length := by
      rw [fi_lt]; obtain ⟨x, hx, hp⟩ := List.any_eq_true.1 h; exact ⟨x, hx, hp⟩
    rw [if_pos h, if_neg (by omega), if_pos (by omega), if_pos (by rw [S_size]; omega), Int.toNat_natCast, S_upto, S_from, take_fi, drop_fi]
  · have hn : fi (fun c => m.contains c) l = l.length := by
      apply List.findIdx_eq_length.2
      intro x hx
      have h2 : (l.any fun c => m.contains c) = false := Bool.eq_false_iff.2 h
      exact List.any_eq_false.1 h2 x hx |> Bool.eq_false_iff.2
    rw [if_neg h, if_pos (by omega)]
    have h1 : (l.takeWhile fun c => !m.contains c) = l := by rw [← take_fi, hn, List.take_length]
    have h2 : (l.dropWhile fun c => !m.contains c) = [] := by rw [← drop_fi, hn, List.drop_length]
    rw [h1, h2]
    rfl


/-! the sets -/
def letterB (c : UInt8) : Bool := (decide (97 ≤ c.toNat) && decide (c.toNat ≤ 122)) || (decide (65 ≤ c.toNat) && decide (c.toNat ≤ 90))
def digitB (c : UInt8) : Bool := decide (48 ≤ c.toNat) && decide (c.toNat ≤ 57)
def schemeB (c : UInt8) : Bool := letterB c || digitB c || c == 43 || c == 45 || c == 46
def letterP : Nat → Bool := fun n => octets_Range.p 97 (122 + 1) n || octets_Range.p 65 (90 + 1) n
theorem Range_eq (a b : Int) (h : 0 ≤ a ∧ a ≤ b ∧ b ≤ 255) : octets_Range.f a b = some (Base.wd (octets_Range.p a (b + 1)) 0, Base.wd (octets_Range.p a (b + 1)) 1, Base.wd (octets_Range.p a (b + 1)) 2, Base.wd (octets_Range.p a (b + 1)) 3) := by
  unfold octets_Range.f; rw [if_pos h]
theorem Of_eq (l : List Int) (h : (l.all fun x => decide (0 ≤ x) && decide (x ≤ 255)) = true) : octets_Of.f l = some (Base.wd (octets_Of.p l) 0, Base.wd (octets_Of.p l) 1, Base.wd (octets_Of.p l) 2, Base.wd (octets_Of.p l) 3) := by
  unfold octets_Of.f; rw [if_pos h]
theorem letters_eq : pyurl_letters.f = some (Base.wd letterP 0, Base.wd letterP 1, Base.wd letterP 2, Base.wd letterP 3) := by
  unfold pyurl_letters.f
  rw [Range_eq 97 122 (by decide), Range_eq 65 90 (by decide)]
  simp only [Option.bind_some, octets_Or.set]
  rfl
def schemeP : Nat → Bool := fun n => (letterP n || octets_Range.p 48 (57 + 1) n) || octets_Of.p [43, 45, 46] n
theorem schemes_eq : pyurl_schemes.f = some (Base.wd schemeP 0, Base.wd schemeP 1, Base.wd schemeP 2, Base.wd schemeP 3) := by
  unfold pyurl_schemes.f
  rw [letters_eq, Range_eq 48 57 (by decide), Of_eq [43, 45, 46] (by decide)]
  simp only [Option.bind_some, octets_Or.set]
  rfl
theorem Has_letter (c : UInt8) : octets_Has.f (Base.wd letterP 0) (Base.wd letterP 1) (Base.wd letterP 2) (Base.wd letterP 3) (c.toNat : Int) = some (letterB c) := by
  have hc := c.toNat_lt
  rw [octets_Has.set letterP _ (by omega) (by omega), Int.toNat_natCast]
  congr 1
  rw [Bool.eq_iff_iff]
  simp only [letterP, letterB, octets_Range.p, Bool.or_eq_true, Bool.and_eq_true, decide_eq_true_eq]
  omega
theorem Has_scheme (c : UInt8) : octets_Has.f (Base.wd schemeP 0) (Base.wd schemeP 1) (Base.wd schemeP 2) (Base.wd schemeP 3) (c.toNat : Int) = some (schemeB c) := by
  have hc := c.toNat_lt
  rw [octets_Has.set schemeP _ (by omega) (by omega), Int.toNat_natCast]
  congr 1
  rw [Bool.eq_iff_iff]
  have e : ∀ (d : UInt8), (c = d) ↔ (c.toNat = d.toNat) := fun d => ⟨fun h => by rw [h], fun h => UInt8.toNat_inj.1 h⟩
  simp only [schemeP, schemeB, letterP, letterB, digitB, octets_Range.p, octets_Of.p, Bool.or_eq_true, Bool.and_eq_true, decide_eq_true_eq, List.contains_iff_mem, List.mem_cons, List.not_mem_nil, or_false, beq_iff_eq, e]
  have h43 : (43 : UInt8).toNat = 43 := rfl
  have h45 : (45 : UInt8).toNat = 45 := rfl
  have h46 : (46 : UInt8).toNat = 46 := rfl
  rw [h43, h45, h46]
  omega

/-! the text without what is cut, and dropped -/
def keepB (c : UInt8) : Bool := !(c == 9) && !(c == 10) && !(c == 13)
def bareL (l : List UInt8) : List UInt8 := (l.dropWhile fun c => decide (c.toNat ≤ 32)).filter keepB
theorem keep_tests (c : UInt8) : (c.toNat : Int) = 9 ∨ (c.toNat : Int) = 10 ∨ (c.toNat : Int) = 13 ↔ keepB c = false := by
  have e : ∀ (d : UInt8), (c = d) ↔ (c.toNat = d.toNat) := fun d => ⟨fun h => by rw [h], fun h => UInt8.toNat_inj.1 h⟩
  have h9 : (9 : UInt8).toNat = 9 := rfl
  have h10 : (10 : UInt8).toNat = 10 := rfl
  have h13 : (13 : UInt8).toNat = 13 := rfl
  have k : keepB c = false ↔ (c = 9 ∨ c = 10 ∨ c = 13) := by
    unfold keepB
    by_cases a : c = 9 <;> by_cases b : c = 10 <;> by_cases d : c = 13 <;> simp [a, b, d]
  rw [k, e, e, e, h9, h10, h13]
  omega
def ints (l : List UInt8) : List Int := l.map fun c => (c.toNat : Int)
theorem strOf_ints (l : List UInt8) : strOfNums (ints l) = S l := by
  unfold strOfNums ints S
  rw [List.map_map]
  congr 1
  congr 1
  conv => rhs; rw [← List.map_id l]
  apply List.map_congr_left
  intro c _
  simp
theorem bare_l1 (l : List UInt8) (hl : Sm l) : ∀ (d i k : Nat) (acc : List UInt8), i + d = l.length → d < k → acc.length ≤ i →
    pyurl_bare.l1 k (S l) (ints acc) (l.length : Int) (i : Int) = some (S (acc ++ (l.drop i).filter keepB))
  | 0, i, k, acc, h, hk, ha => by
    obtain ⟨k, rfl⟩ : ∃ m, k = m + 1 := ⟨k - 1, by omega⟩
    simp only [pyurl_bare.l1]
    rw [if_neg (by omega), strOf_ints, List.drop_of_length_le (by omega)]
    simp
  | d + 1, i, k, acc, h, hk, ha => by
    obtain ⟨k, rfl⟩ : ∃ m, k = m + 1 := ⟨k - 1, by omega⟩
    have hlt : i < l.length := by omega
    have hd : l.drop i = l[i] :: l.drop (i + 1) := List.drop_eq_getElem_cons hlt
    have kt := keep_tests l[i]
    simp only [pyurl_bare.l1]
    rw [if_pos (by omega), if_pos (by omega), if_pos (by rw [S_size]; omega), bt_S l i hlt, wrap_succ i (by unfold Sm at hl; omega), hd]
    by_cases hb : keepB l[i] = true
    · have hn : ¬ ((l[i].toNat : Int) = 9 ∨ (l[i].toNat : Int) = 10 ∨ (l[i].toNat : Int) = 13) := fun h => by rw [kt.1 h] at hb; exact absurd hb (by decide)
      rw [if_neg (fun h => hn (.inl h)), if_neg (fun h => hn (.inr (.inl h))), if_neg (fun h => hn (.inr (.inr h)))]
      rw [if_pos (by simp only [ints, List.length_map]; unfold Sm at hl; omega)]
      have e : ints acc ++ [(l[i].toNat : Int)] = ints (acc ++ [l[i]]) := by simp [ints]
      rw [e, bare_l1 l hl d (i + 1) k (acc ++ [l[i]]) (by omega) (by omega) (by simp; omega), List.filter_cons_of_pos hb, List.append_assoc]
      rfl
    · have hb' : keepB l[i] = false := by simpa using hb
      have ih := bare_l1 l hl d (i + 1) k acc (by omega) (by omega) (by omega)
      rw [ih, List.filter_cons_of_neg hb]
      rcases kt.2 hb' with h9 | h10 | h13
      · rw [if_pos h9]
      · rw [if_neg (by omega), if_pos h10]
      · rw [if_neg (by omega), if_neg (by omega), if_pos h13]
theorem bare_l0 : ∀ (l : List UInt8) (_ : Sm l) (k : Nat), 2 * l.length + 2 < k → pyurl_bare.l0 k (S l) = some (S (bareL l))
  | [], _, k, hk => by
    obtain ⟨k, rfl⟩ : ∃ m, k = m + 3 := ⟨k - 3, by simp at hk; omega⟩
    simp only [pyurl_bare.l0]
    rw [if_pos (S_toList [])]
    simp only [pyurl_bare.j1]
    exact bare_l1 [] (by decide) 0 0 (k + 1) [] rfl (by omega) (by simp)
  | c :: l, hl, k, hk => by
    simp only [List.length_cons] at hk
    obtain ⟨k, rfl⟩ : ∃ m, k = m + 1 := ⟨k - 1, by omega⟩
    have hne : ¬ (S (c :: l)).toList = ([] : List UInt8) := by rw [S_toList]; simp
    have h0 : bt (S (c :: l)) 0 = (c.toNat : Int) := bt_S (c :: l) 0 (by simp)
    simp only [pyurl_bare.l0]
    rw [if_neg hne, if_pos (by rw [S_size, List.length_cons]; omega), h0]
    by_cases hc : c.toNat ≤ 32
    · rw [if_pos (by omega), if_pos (by rw [S_size, List.length_cons]; omega), S_from]
      have ih := bare_l0 l (by unfold Sm at *; simp at hl; omega) k (by omega)
      simp only [List.drop_succ_cons, List.drop_zero]
      rw [ih]
      simp [bareL, hc]
    · obtain ⟨k, rfl⟩ : ∃ m, k = m + 1 := ⟨k - 1, by omega⟩
      rw [if_neg (by omega)]
      have h1 := bare_l1 (c :: l) hl (c :: l).length 0 k [] (by omega) (by simp; omega) (by simp)
      simp only [pyurl_bare.j1]
      have e : (bareL (c :: l)) = (c :: l).filter keepB := by simp [bareL, hc]
      rw [e]
      exact h1
theorem bare_ev (l : List UInt8) (hl : Sm l) (k : Nat) (hk : 2 * l.length + 2 < k) : pyurl_bare.f k (S l) = some (S (bareL l)) := bare_l0 l hl k hk

/-! the rest -/
def isScheme (s : List UInt8) : Bool := match s with | [] => false | c :: _ => letterB c && s.all schemeB
def restL (b : List UInt8) : List UInt8 := if b.contains 58 = true ∧ isScheme (b.takeWhile fun x => !(x == 58)) = true then (b.dropWhile fun x => !(x == 58)).drop 1 else b
theorem rest_l0 (b : List UInt8) (hb : Sm b) (n : Nat) (hn : n < b.length) : ∀ (d i k : Nat), i + d = n → d < k →
    pyurl_rest.l0 k (S b) (n : Int) (n : Int) (i : Int) = some (S (if ((b.take n).drop i).all schemeB = true then b.drop (n + 1) else b))
  | 0, i, k, h, hk => by
    obtain ⟨k, rfl⟩ : ∃ m, k = m + 1 := ⟨k - 1, by omega⟩
    simp only [pyurl_rest.l0]
    rw [if_neg (by omega), wrap_succ n (by unfold Sm at hb; omega), if_pos (by omega), if_pos (by rw [S_size]; omega), Int.toNat_natCast, S_from]
    have e : (b.take n).drop i = [] := List.drop_of_length_le (by simp; omega)
    simp [e]
  | d + 1, i, k, h, hk => by
    obtain ⟨k, rfl⟩ : ∃ m, k = m + 1 := ⟨k - 1, by omega⟩
    have hlt : i < b.length := by omega
    have hd : (b.take n).drop i = b[i] :: (b.take n).drop (i + 1) := by
      have h1 : i < (b.take n).length := by simp; omega
      rw [List.drop_eq_getElem_cons h1, List.getElem_take]
    simp only [pyurl_rest.l0]
    rw [if_pos (by omega), schemes_eq]
    simp only [Option.bind_some]
    rw [if_pos (by omega), if_pos (by rw [S_size]; omega), bt_S b i hlt, Has_scheme, wrap_succ i (by unfold Sm at hb; omega)]
    have key : ((b.take n).drop i).all schemeB = (schemeB b[i] && ((b.take n).drop (i + 1)).all schemeB) := by rw [hd]; rfl
    simp only [Option.bind_some, key]
    by_cases hs : schemeB b[i] = true
    · rw [if_pos hs, rest_l0 b hb n hn d (i + 1) k (by omega) (by omega)]
      simp only [hs, Bool.true_and]
    · rw [if_neg hs]
      have : schemeB b[i] = false := by simpa using hs
      simp only [this, Bool.false_and, Bool.false_eq_true, if_false]
theorem rest_ev (b : List UInt8) (hb : Sm b) (k : Nat) (hk : b.length + 1 < k) : pyurl_rest.f k (S b) = some (S (restL b)) := by
  obtain ⟨k, rfl⟩ : ∃ m, k = m + 1 := ⟨k - 1, by omega⟩
  unfold pyurl_rest.f restL
  have hib := IndexByte_eq b 58
  have e58 : (((58 : UInt8).toNat : Nat) : Int) = 58 := rfl
  rw [e58] at hib
  rw [hib]
  simp only [Option.bind_some]
  by_cases hc : b.contains 58 = true
  · have hlt := fi_contains hc
    rw [if_pos hc]
    by_cases h0 : fi (fun x => x == 58) b = 0
    · rw [if_pos (by omega)]
      simp only [pyurl_rest.j0]
      have : b.takeWhile (fun x => !(x == 58)) = [] := by rw [← take_fi, h0, List.take_zero]
      rw [this]
      simp [isScheme]
    · rw [if_neg (by omega), letters_eq]
      simp only [Option.bind_some]
      have hb0 : 0 < b.length := by omega
      have hbt : bt (S b) 0 = (b[0].toNat : Int) := bt_S b 0 hb0
      rw [if_pos (by rw [S_size]; omega), hbt, Has_letter]
      simp only [Option.bind_some, pyurl_rest.j0]
      have htk : b.take (fi (fun x => x == 58) b) = b[0] :: (b.take (fi (fun x => x == 58) b)).drop 1 := by
        have h1 : 0 < (b.take (fi (fun x => x == 58) b)).length := by simp; omega
        have := List.drop_eq_getElem_cons h1
        rw [List.drop_zero, List.getElem_take] at this
        exact this
      have hsch : isScheme (b.takeWhile fun x => !(x == 58)) = (letterB b[0] && (b.take (fi (fun x => x == 58) b)).all schemeB) := by
        rw [← take_fi, htk]
        rfl
      rw [hsch]
      by_cases hlb : letterB b[0] = true
      · rw [hlb]
        simp only [Bool.not_true, Bool.false_eq_true, if_false, Bool.true_and]
        have hr := rest_l0 b hb (fi (fun x => x == 58) b) hlt (fi (fun x => x == 58) b) 0 k (by omega) (by omega)
        rw [List.drop_zero] at hr
        rw [show (((0 : Nat) : Int)) = 0 from rfl] at hr
        rw [hr]
        by_cases hall : (b.take (fi (fun x => x == 58) b)).all schemeB = true
        · rw [if_pos hall, if_pos ⟨hc, hall⟩, ← drop_fi, List.drop_drop]
        · rw [if_neg hall, if_neg (fun h => hall h.2)]
      · have hlf : letterB b[0] = false := by simpa using hlb
        rw [hlf]
        simp
  · rw [if_neg hc, if_pos (by omega)]
    simp only [pyurl_rest.j0, if_true]
    rw [if_neg (fun h => hc h.1)]

/-! the host, and all -/
def hostL (a : List UInt8) : List UInt8 × Bool :=
  if (behindLast 64 a).contains 91 = true then ((cutL (cutL (behindLast 64 a) 91).2.1 93).1, (cutL (cutL (behindLast 64 a) 91).2.1 93).2.2)
  else ((cutL (behindLast 64 a) 58).1, !(behindLast 64 a).contains 93)
theorem behindLast_eq (c : UInt8) (l : List UInt8) : l.drop (lastAt c l l.length) = behindLast c l := by
  have := lastAt_drop c l l.length (Nat.le_refl _)
  rwa [List.take_length] at this
theorem cutL_len (l : List UInt8) (c : UInt8) : (cutL l c).1.length ≤ l.length ∧ (cutL l c).2.1.length ≤ l.length := by
  unfold cutL
  constructor
  · rw [← take_fi]; simp <;> omega
  · rw [← drop_fi]; simp <;> omega
theorem host_ev (a : List UInt8) (ha : Sm a) (k : Nat) (hk : a.length < k) : pyurl_host.f k (S a) = some (S (hostL a).1, (hostL a).2) := by
  have hL := LastIndexByte_ev a ha 64 k hk
  have e64 : (((64 : UInt8).toNat : Nat) : Int) = 64 := rfl
  rw [e64] at hL
  have hle := lastAt_le 64 a a.length
  have hw : wrap64 (((lastAt 64 a a.length : Int) - 1) + 1) = (lastAt 64 a a.length : Int) := by
    rw [wrap_id (by omega) (by unfold Sm at ha; omega)]; omega
  have hbl : (behindLast 64 a).length ≤ a.length := by rw [← behindLast_eq]; simp
  have hsm : Sm (behindLast 64 a) := by unfold Sm at *; omega
  unfold pyurl_host.f hostL
  rw [hL]
  simp only [Option.bind_some, lit]
  rw [hw, if_pos (by omega), if_pos (by rw [S_size]; omega), Int.toNat_natCast, S_from, behindLast_eq, Cut_eq _ hsm 91]
  simp only [Option.bind_some]
  have h3 : (cutL (behindLast 64 a) 91).2.2 = (behindLast 64 a).contains 91 := rfl
  rw [h3]
  by_cases h : (behindLast 64 a).contains 91 = true
  · rw [if_pos h, if_pos h, Cut_eq _ (by have := (cutL_len (behindLast 64 a) 91).2; unfold Sm at *; omega) 93]
    rfl
  · rw [if_neg h, if_neg h, Cut_eq _ hsm 58]
    simp only [Option.bind_some]
    rw [Contains_eq]
    rfl
def noQF (c : UInt8) : Bool := !([63, 35] : List UInt8).contains c
def noSQF (c : UInt8) : Bool := !([47, 63, 35] : List UInt8).contains c
/-- What is told of a rest. -/
def tellL (r : List UInt8) : Bool × List UInt8 × List UInt8 :=
  if ([47, 47] : List UInt8).isPrefixOf r = true then
    (if (hostL ((r.drop 2).takeWhile noSQF)).2 = true then (true, (hostL ((r.drop 2).takeWhile noSQF)).1, ((r.drop 2).dropWhile noSQF).takeWhile noQF) else (false, [], []))
  else (true, [], r.takeWhile noQF)
def parseL (w : List UInt8) : Bool × List UInt8 × List UInt8 := tellL (restL (bareL w))
def toB (x : Bool × List UInt8 × List UInt8) : Bool × ByteArray × ByteArray := (x.1, S x.2.1, S x.2.2)
theorem bareL_len (l : List UInt8) : (bareL l).length ≤ l.length := by
  unfold bareL
  refine Nat.le_trans (List.length_filter_le _ _) ?_
  exact (List.dropWhile_suffix _).length_le
theorem restL_len (l : List UInt8) : (restL l).length ≤ l.length := by
  unfold restL
  split
  · rw [← drop_fi]; simp
  · exact Nat.le_refl _
theorem Parse_ev (w : List UInt8) (hw : Sm w) (k : Nat) (hk : 2 * w.length + 2 < k) : pyurl_Parse.f k (S w) = some (toB (parseL w)) := by
  have h1 := bareL_len w
  have h2 := restL_len (bareL w)
  have hs1 : Sm (bareL w) := by unfold Sm at *; omega
  have hs2 : Sm (restL (bareL w)) := by unfold Sm at *; omega
  unfold pyurl_Parse.f parseL tellL
  rw [bare_ev w hw k hk]
  simp only [Option.bind_some]
  rw [rest_ev _ hs1 k (by omega)]
  simp only [Option.bind_some, lit]
  rw [HasPrefix_eq]
  simp only [Option.bind_some]
  by_cases hp : ([47, 47] : List UInt8).isPrefixOf (restL (bareL w)) = true
  · have hlen : 2 ≤ (restL (bareL w)).length := (List.isPrefixOf_iff_prefix.1 hp).length_le
    rw [if_pos hp, if_pos hp, if_pos (by rw [S_size]; omega), S_from, pyurl_upTo_eq _ [47, 63, 35] (by decide)]
    simp only [Option.bind_some]
    have hsa : (((restL (bareL w)).drop 2).takeWhile noSQF).length ≤ (restL (bareL w)).length := by
      refine Nat.le_trans (List.takeWhile_prefix _).length_le ?_
      simp
    have hh := host_ev (((restL (bareL w)).drop 2).takeWhile noSQF) (by unfold Sm at *; omega) k (by omega)
    unfold noSQF at hh
    rw [hh]
    simp only [Option.bind_some]
    rw [pyurl_upTo_eq _ [63, 35] (by decide)]
    simp only [Option.bind_some]
    by_cases ho : (hostL (((restL (bareL w)).drop 2).takeWhile noSQF)).2 = true
    · have ho' := ho
      unfold noSQF at ho'
      rw [if_pos ho', if_pos ho]
      rfl
    · have ho' := ho
      unfold noSQF at ho'
      rw [if_neg ho', if_neg ho]
      rfl
  · rw [if_neg hp, if_neg hp, pyurl_upTo_eq _ [63, 35] (by decide)]
    rfl
end Go.Proofs.Ytbjfcnhaedhbaaa.Py

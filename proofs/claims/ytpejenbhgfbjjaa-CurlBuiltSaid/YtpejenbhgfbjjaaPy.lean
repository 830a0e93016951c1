/- What pyurl.Parse tells, in lists' words. -/
import Derived.Test.YtpejenbhgfbjjaaStr
import Derived.Test.YtpejenbhgfbjjaaZA3
import Derived.Test.YtpejenbhgfbjjaaZA4
import Derived.Test.YtpejenbhgfbjjaaZA6
namespace Go.Proofs.Ytpejenbhgfbjjaa.Py
open Go.RowKit Go.Proofs.YtpejenbhgfbjjaaW.PrintWords Go.Proofs.Ytpejenbhgfbjjaa.L Go.Proofs.Ytpejenbhgfbjjaa.Str Go.Proofs.Ytpejenbhgfbjjaa.ZA


/-! the sets -/
def letterB (c : UInt8) : Bool := (decide (97 ≤ c.toNat) && decide (c.toNat ≤ 122)) || (decide (65 ≤ c.toNat) && decide (c.toNat ≤ 90))
def digitB (c : UInt8) : Bool := decide (48 ≤ c.toNat) && decide (c.toNat ≤ 57)
def schemeB (c : UInt8) : Bool := letterB c || digitB c || c == 43 || c == 45 || c == 46
def letterP : Nat → Bool := fun n => octets_Range.p 97 (122 + 1) n || octets_Range.p 65 (90 + 1) n
theorem Range_eq (a b : Int) (h : 0 ≤ a ∧ a ≤ b ∧ b ≤ 255) : octets_Range.f a b = some (Base.wd (octets_Range.p a (b + 1)) 0, Base.wd (octets_Range.p a (b + 1)) 1, Base.wd (octets_Range.p a (b + 1)) 2, Base.wd (octets_Range.p a (b + 1)) 3) := by
  unfold octets_Range.f; rw [if_pos h]
theorem Of_eq (l : List Int) (h : (l.all fun x => decide (0 ≤ x) && decide (x ≤ 255)) = true) : octets_Of.f l = some (Base.wd (octets_Of.p l) 0, Base.wd (octets_Of.p l) 1, Base.wd (octets_Of.p l) 2, Base.wd (octets_Of.p l) 3) := by
  unfold octets_Of.f; rw [if_pos h]
def schemeP : Nat → Bool := fun n => (letterP n || octets_Range.p 48 (57 + 1) n) || octets_Of.p [43, 45, 46] n
theorem Has_letter (c : UInt8) : octets_Has.f (Base.wd letterP 0) (Base.wd letterP 1) (Base.wd letterP 2) (Base.wd letterP 3) (c.toNat : Int) = some (letterB c) := by
  have hc := c.toNat_lt
  rw [octets_Has.set letterP _ (by omega) (by omega), Int.toNat_natCast]
  congr 1
  rw [Bool.eq_iff_iff]
  simp only [letterP, letterB, octets_Range.p, Bool.or_eq_true, Bool.and_eq_true, decide_eq_true_eq]
  omega
theorem Has_scheme (c : UInt8) : octets_Has.f (Base.wd schemeP 0) (Base.wd schemeP 1) (Base.wd schemeP 2) (Base.wd schemeP 3) (c.toNat : Int) = some (schemeB c) := by
  have hc := c.toNat_lt
  rw [octets_Has.set schemeP _ (by omega) (by omega), Int.toNat_natCast]
  congr 1
  rw [Bool.eq_iff_iff]
  have e : ∀ (d : UInt8), (c = d) ↔ (c.toNat = d.toNat) := fun d => ⟨fun h => by rw [h], fun h => UInt8.toNat_inj.1 h⟩
  simp only [schemeP, schemeB, letterP, letterB, digitB, octets_Range.p, octets_Of.p, Bool.or_eq_true, Bool.and_eq_true, decide_eq_true_eq, List.contains_iff_mem, List.mem_cons, List.not_mem_nil, or_false, beq_iff_eq, e]
  have h43 : (43 : UInt8).toNat = 43 := rfl
  have h45 : (45 : UInt8).toNat = 45 := rfl
  have h46 : (46 : UInt8).toNat = 46 := rfl
  rw [h43, h45, h46]
  omega

/-! the text without what is cut, and dropped -/
def keepB (c : UInt8) : Bool := !(c == 9) && !(c == 10) && !(c == 13)
def bareL (l : List UInt8) : List UInt8 := (l.dropWhile fun c => decide (c.toNat ≤ 32)).filter keepB
theorem keep_tests (c : UInt8) : (c.toNat : Int) = 9 ∨ (c.toNat : Int) = 10 ∨ (c.toNat : Int) = 13 ↔ keepB c = false := by
  have e : ∀ (d : UInt8), (c = d) ↔ (c.toNat = d.toNat) := fun d => ⟨fun h => by rw [h], fun h => UInt8.toNat_inj.1 h⟩
  have h9 : (9 : UInt8).toNat = 9 := rfl
  have h10 : (10 : UInt8).toNat = 10 := rfl
  have h13 : (13 : UInt8).toNat = 13 := rfl
  have k : keepB c = false ↔ (c = 9 ∨ c = 10 ∨ c = 13) := by
    unfold keepB
    by_cases a : c = 9 <;> by_cases b : c = 10 <;> by_cases d : c = 13 <;> simp [a, b, d]
  rw [k, e, e, e, h9, h10, h13]
  omega
def ints (l : List UInt8) : List Int := l.map fun c => (c.toNat : Int)
theorem strOf_ints (l : List UInt8) : strOfNums (ints l) = S l := by
  unfold strOfNums ints S
  rw [List.map_map]
  congr 1
  congr 1
  conv => rhs; rw [← List.map_id l]
  apply List.map_congr_left
  intro c _
  simp
/-! the rest -/
def isScheme (s : List UInt8) : Bool := match s with | [] => false | c :: _ => letterB c && s.all schemeB
def restL (b : List UInt8) : List UInt8 := if b.contains 58 = true ∧ isScheme (b.takeWhile fun x => !(x == 58)) = true then (b.dropWhile fun x => !(x == 58)).drop 1 else b
/-! the host, and all -/
theorem cutL_len (l : List UInt8) (c : UInt8) : (cutL l c).1.length ≤ l.length ∧ (cutL l c).2.1.length ≤ l.length := by
  unfold cutL
  constructor
  · rw [← take_fi]; simp <;> omega
  · rw [← drop_fi]; simp <;> omega
def noQF (c : UInt8) : Bool := !([63, 35] : List UInt8).contains c
def noSQF (c : UInt8) : Bool := !([47, 63, 35] : List UInt8).contains c
def toB (x : Bool × List UInt8 × List UInt8) : Bool × ByteArray × ByteArray := (x.1, S x.2.1, S x.2.2)
theorem bareL_len (l : List UInt8) : (bareL l).length ≤ l.length := by
  unfold bareL
  refine Nat.le_trans (List.length_filter_le _ _) ?_
  exact (List.dropWhile_suffix _).length_le
theorem restL_len (l : List UInt8) : (restL l).length ≤ l.length := by
  unfold restL
  split
  · rw [← drop_fi]; simp
  · exact Nat.le_refl _
end Go.Proofs.Ytpejenbhgfbjjaa.Py

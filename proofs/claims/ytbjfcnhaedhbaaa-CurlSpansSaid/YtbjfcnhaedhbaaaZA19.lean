/- My own print (tools/mp.py) of functions of this seat: each function as a plain Lean function, and the proof that the code does what that function says. -/
import Derived.Test.YtbjfcnhaedhbaaaZA0
import Derived.Test.YtbjfcnhaedhbaaaZA17
import Derived.Test.YtbjfcnhaedhbaaaZA18
namespace Go.Proofs.Ytbjfcnhaedhbaaa.ZA
open Go.RowKit Go.Proofs.YtbjfcnhaedhbaaaW.PrintWords Go.Proofs.YtbjfcnhaedhbaaaW.PrintLast Go.Proofs.YtbjfcnhaedhbaaaW.PrintMore
attribute [local go_sem] max2_int min2_int max_two min_two max_three min_three max_four min_four   -- for this text's walks alone
set_option linter.unusedVariables false
set_option linter.unusedSimpArgs false

/-! ### shibbolethref22_Parse: function 19 -/
mutual
def shibbolethref22_Parse.l0 : Nat → ByteArray → Int → Option (Bool × ByteArray × ByteArray)
  | 0, _, _ => none
  | k + 1, x0, x3 => if x3 < (x0.size : Int) then (if 0 ≤ x3 then (if (bt x0 x3) < 33 then (some (false, (⟨#[]⟩ : ByteArray), (⟨#[]⟩ : ByteArray))) else (if (bt x0 x3) = 127 then (some (false, (⟨#[]⟩ : ByteArray), (⟨#[]⟩ : ByteArray))) else (shibbolethref22_Parse.l0 k x0 (wrap64 (x3 + 1))))) else (none)) else ((shibbolethref22_scheme.f k x0).bind fun t440 => ((shibbolethref22_first.f k x0 (⟨#[47, 63, 35]⟩ : ByteArray) t440).bind fun t441 => (if 0 ≤ t441 then (if t441 ≤ (x0.size : Int) then ((shibbolethref22_first.f k (x0.extract 0 (t441 : Int).toNat) (⟨#[64]⟩ : ByteArray) t440).bind fun t442 => (if t442 < t441 then (shibbolethref22_Parse.j1 k x0 (wrap64 (t442 + 1)) t441) else (shibbolethref22_Parse.j1 k x0 t440 t441))) else (none)) else (none))))
def shibbolethref22_Parse.j1 : Nat → ByteArray → Int → Int → Option (Bool × ByteArray × ByteArray)
  | 0, _, _, _ => none
  | k + 1, x0, x4, x5 => if 0 ≤ x5 then (if x5 ≤ (x0.size : Int) then ((shibbolethref22_first.f k (x0.extract 0 (x5 : Int).toNat) (⟨#[47, 58, 35, 63, 33, 64, 123, 125, 91, 93, 92, 36, 39, 34, 94, 96, 42, 60, 62, 61, 59, 44]⟩ : ByteArray) x4).bind fun t443 => (if x4 < x5 then (if 0 ≤ x4 then (if x4 < (x0.size : Int) then (shibbolethref22_Parse.j2 k x0 x4 x5 t443 ((bt x0 x4) == 91)) else (none)) else (none)) else (shibbolethref22_Parse.j2 k x0 x4 x5 t443 false))) else (none)) else (none)
def shibbolethref22_Parse.j2 : Nat → ByteArray → Int → Int → Int → Bool → Option (Bool × ByteArray × ByteArray)
  | 0, _, _, _, _, _ => none
  | k + 1, x0, x4, x5, x7, x55 => if x55 = true then (if 0 ≤ x5 then (if x5 ≤ (x0.size : Int) then ((shibbolethref22_first.f k (x0.extract 0 (x5 : Int).toNat) (⟨#[93]⟩ : ByteArray) x4).bind fun t444 => (if (wrap64 (t444 + 1)) > x5 then (shibbolethref22_Parse.j3 k x0 x4 x5 (wrap64 (t444 + 1)) true) else (shibbolethref22_Parse.j3 k x0 x4 x5 (wrap64 (t444 + 1)) (decide ((wrap64 (t444 + 1)) < (wrap64 (x4 + 3))))))) else (none)) else (none)) else (shibbolethref22_Parse.j5 k x0 x4 x5 x7)
def shibbolethref22_Parse.j5 : Nat → ByteArray → Int → Int → Int → Option (Bool × ByteArray × ByteArray)
  | 0, _, _, _, _ => none
  | k + 1, x0, x4, x5, x7 => if x7 = x4 then (some (false, (⟨#[]⟩ : ByteArray), (⟨#[]⟩ : ByteArray))) else (shibbolethref22_Parse.l2 k x0 x4 x5 x7 x7)
def shibbolethref22_Parse.l2 : Nat → ByteArray → Int → Int → Int → Int → Option (Bool × ByteArray × ByteArray)
  | 0, _, _, _, _, _ => none
  | k + 1, x0, x4, x5, x7, x9 => if x9 < x5 then (if x9 = x7 then (if 0 ≤ x9 then (if x9 < (x0.size : Int) then (if (bt x0 x9) = 58 then (if x9 > x7 then ((shibbolethref22_digit.f (bt x0 x9)).bind fun t447 => (if t447 = true then (shibbolethref22_Parse.l2 k x0 x4 x5 x7 (wrap64 (x9 + 1))) else (some (false, (⟨#[]⟩ : ByteArray), (⟨#[]⟩ : ByteArray))))) else (shibbolethref22_Parse.l2 k x0 x4 x5 x7 (wrap64 (x9 + 1)))) else (some (false, (⟨#[]⟩ : ByteArray), (⟨#[]⟩ : ByteArray)))) else (none)) else (none)) else (if x9 > x7 then (if 0 ≤ x9 then (if x9 < (x0.size : Int) then ((shibbolethref22_digit.f (bt x0 x9)).bind fun t448 => (if t448 = true then (shibbolethref22_Parse.l2 k x0 x4 x5 x7 (wrap64 (x9 + 1))) else (some (false, (⟨#[]⟩ : ByteArray), (⟨#[]⟩ : ByteArray))))) else (none)) else (none)) else (shibbolethref22_Parse.l2 k x0 x4 x5 x7 (wrap64 (x9 + 1))))) else (if 0 ≤ x4 then (if x4 ≤ x7 then (if x7 ≤ (x0.size : Int) then ((shibbolethref22_first.f k x0 (⟨#[63, 35]⟩ : ByteArray) x5).bind fun t449 => (if 0 ≤ x5 then (if x5 ≤ t449 then (if t449 ≤ (x0.size : Int) then (some (true, x0.extract (x4 : Int).toNat (x7 : Int).toNat, x0.extract (x5 : Int).toNat (t449 : Int).toNat)) else (none)) else (none)) else (none))) else (none)) else (none)) else (none))
def shibbolethref22_Parse.j3 : Nat → ByteArray → Int → Int → Int → Bool → Option (Bool × ByteArray × ByteArray)
  | 0, _, _, _, _, _ => none
  | k + 1, x0, x4, x5, x7, x70 => if x70 = true then (some (false, (⟨#[]⟩ : ByteArray), (⟨#[]⟩ : ByteArray))) else (shibbolethref22_Parse.l1 k x0 x4 x5 x7 (wrap64 (x4 + 1)))
def shibbolethref22_Parse.l1 : Nat → ByteArray → Int → Int → Int → Int → Option (Bool × ByteArray × ByteArray)
  | 0, _, _, _, _, _ => none
  | k + 1, x0, x4, x5, x7, x8 => if x8 < (wrap64 (x7 - 1)) then (if 0 ≤ x8 then (if x8 < (x0.size : Int) then ((shibbolethref22_hex.f (bt x0 x8)).bind fun t445 => (if t445 = true then (shibbolethref22_Parse.l1 k x0 x4 x5 x7 (wrap64 (x8 + 1))) else ((shibbolethref22_is.f k (bt x0 x8) (⟨#[58, 46]⟩ : ByteArray)).bind fun t446 => (if t446 = true then (shibbolethref22_Parse.l1 k x0 x4 x5 x7 (wrap64 (x8 + 1))) else (some (false, (⟨#[]⟩ : ByteArray), (⟨#[]⟩ : ByteArray))))))) else (none)) else (none)) else (shibbolethref22_Parse.j5 k x0 x4 x5 x7)
end
def shibbolethref22_Parse.f (k : Nat) (a0 : ByteArray) : Option (Bool × ByteArray × ByteArray) := shibbolethref22_Parse.l0 k a0 0
theorem shibbolethref22_Parse.mono_l : ∀ k, (∀ y0 y1, LeO (shibbolethref22_Parse.l0 k y0 y1) (shibbolethref22_Parse.l0 (k + 1) y0 y1)) ∧ (∀ y0 y1 y2, LeO (shibbolethref22_Parse.j1 k y0 y1 y2) (shibbolethref22_Parse.j1 (k + 1) y0 y1 y2)) ∧ (∀ y0 y1 y2 y3 y4, LeO (shibbolethref22_Parse.j2 k y0 y1 y2 y3 y4) (shibbolethref22_Parse.j2 (k + 1) y0 y1 y2 y3 y4)) ∧ (∀ y0 y1 y2 y3, LeO (shibbolethref22_Parse.j5 k y0 y1 y2 y3) (shibbolethref22_Parse.j5 (k + 1) y0 y1 y2 y3)) ∧ (∀ y0 y1 y2 y3 y4, LeO (shibbolethref22_Parse.l2 k y0 y1 y2 y3 y4) (shibbolethref22_Parse.l2 (k + 1) y0 y1 y2 y3 y4)) ∧ (∀ y0 y1 y2 y3 y4, LeO (shibbolethref22_Parse.j3 k y0 y1 y2 y3 y4) (shibbolethref22_Parse.j3 (k + 1) y0 y1 y2 y3 y4)) ∧ (∀ y0 y1 y2 y3 y4, LeO (shibbolethref22_Parse.l1 k y0 y1 y2 y3 y4) (shibbolethref22_Parse.l1 (k + 1) y0 y1 y2 y3 y4))
  | 0 => ⟨fun _ _ r h => by simp [shibbolethref22_Parse.l0] at h, fun _ _ _ r h => by simp [shibbolethref22_Parse.j1] at h, fun _ _ _ _ _ r h => by simp [shibbolethref22_Parse.j2] at h, fun _ _ _ _ r h => by simp [shibbolethref22_Parse.j5] at h, fun _ _ _ _ _ r h => by simp [shibbolethref22_Parse.l2] at h, fun _ _ _ _ _ r h => by simp [shibbolethref22_Parse.j3] at h, fun _ _ _ _ _ r h => by simp [shibbolethref22_Parse.l1] at h⟩
  | k + 1 => by
    obtain ⟨ih0, ih1, ih2, ih3, ih4, ih5, ih6⟩ := shibbolethref22_Parse.mono_l k
    refine ⟨?_, ?_, ?_, ?_, ?_, ?_, ?_⟩
    · intro y0 y1
      unfold shibbolethref22_Parse.l0
      repeat' first
      | (with_reducible exact ih0 _ _)
      | (with_reducible exact ih1 _ _ _)
      | (with_reducible exact ih2 _ _ _ _ _)
      | (with_reducible exact ih3 _ _ _ _)
      | (with_reducible exact ih4 _ _ _ _ _)
      | (with_reducible exact ih5 _ _ _ _ _)
      | (with_reducible exact ih6 _ _ _ _ _)
      | (with_reducible exact shibbolethref22_first.mono _ _ _ _)
      | (with_reducible exact shibbolethref22_is.mono _ _ _)
      | (with_reducible exact shibbolethref22_scheme.mono _ _)
      | (with_reducible exact LeO.refl _)
      | (with_reducible exact LeO.none _)
      | (with_reducible refine LeO.ite ?_ ?_)
      | (with_reducible refine LeO.bind ?_ (fun _ => ?_))
      | exact ih0 _ _
      | exact ih1 _ _ _
      | exact ih2 _ _ _ _ _
      | exact ih3 _ _ _ _
      | exact ih4 _ _ _ _ _
      | exact ih5 _ _ _ _ _
      | exact ih6 _ _ _ _ _
      | exact shibbolethref22_first.mono _ _ _ _
      | exact shibbolethref22_is.mono _ _ _
      | exact shibbolethref22_scheme.mono _ _
      | exact LeO.none _
      | refine LeO.ite ?_ ?_
      | refine LeO.bind ?_ (fun _ => ?_)
    · intro y0 y1 y2
      unfold shibbolethref22_Parse.j1
      repeat' first
      | (with_reducible exact ih0 _ _)
      | (with_reducible exact ih1 _ _ _)
      | (with_reducible exact ih2 _ _ _ _ _)
      | (with_reducible exact ih3 _ _ _ _)
      | (with_reducible exact ih4 _ _ _ _ _)
      | (with_reducible exact ih5 _ _ _ _ _)
      | (with_reducible exact ih6 _ _ _ _ _)
      | (with_reducible exact shibbolethref22_first.mono _ _ _ _)
      | (with_reducible exact shibbolethref22_is.mono _ _ _)
      | (with_reducible exact shibbolethref22_scheme.mono _ _)
      | (with_reducible exact LeO.refl _)
      | (with_reducible exact LeO.none _)
      | (with_reducible refine LeO.ite ?_ ?_)
      | (with_reducible refine LeO.bind ?_ (fun _ => ?_))
      | exact ih0 _ _
      | exact ih1 _ _ _
      | exact ih2 _ _ _ _ _
      | exact ih3 _ _ _ _
      | exact ih4 _ _ _ _ _
      | exact ih5 _ _ _ _ _
      | exact ih6 _ _ _ _ _
      | exact shibbolethref22_first.mono _ _ _ _
      | exact shibbolethref22_is.mono _ _ _
      | exact shibbolethref22_scheme.mono _ _
      | exact LeO.none _
      | refine LeO.ite ?_ ?_
      | refine LeO.bind ?_ (fun _ => ?_)
    · intro y0 y1 y2 y3 y4
      unfold shibbolethref22_Parse.j2
      repeat' first
      | (with_reducible exact ih0 _ _)
      | (with_reducible exact ih1 _ _ _)
      | (with_reducible exact ih2 _ _ _ _ _)
      | (with_reducible exact ih3 _ _ _ _)
      | (with_reducible exact ih4 _ _ _ _ _)
      | (with_reducible exact ih5 _ _ _ _ _)
      | (with_reducible exact ih6 _ _ _ _ _)
      | (with_reducible exact shibbolethref22_first.mono _ _ _ _)
      | (with_reducible exact shibbolethref22_is.mono _ _ _)
      | (with_reducible exact shibbolethref22_scheme.mono _ _)
      | (with_reducible exact LeO.refl _)
      | (with_reducible exact LeO.none _)
      | (with_reducible refine LeO.ite ?_ ?_)
      | (with_reducible refine LeO.bind ?_ (fun _ => ?_))
      | exact ih0 _ _
      | exact ih1 _ _ _
      | exact ih2 _ _ _ _ _
      | exact ih3 _ _ _ _
      | exact ih4 _ _ _ _ _
      | exact ih5 _ _ _ _ _
      | exact ih6 _ _ _ _ _
      | exact shibbolethref22_first.mono _ _ _ _
      | exact shibbolethref22_is.mono _ _ _
      | exact shibbolethref22_scheme.mono _ _
      | exact LeO.none _
      | refine LeO.ite ?_ ?_
      | refine LeO.bind ?_ (fun _ => ?_)
    · intro y0 y1 y2 y3
      unfold shibbolethref22_Parse.j5
      repeat' first
      | (with_reducible exact ih0 _ _)
      | (with_reducible exact ih1 _ _ _)
      | (with_reducible exact ih2 _ _ _ _ _)
      | (with_reducible exact ih3 _ _ _ _)
      | (with_reducible exact ih4 _ _ _ _ _)
      | (with_reducible exact ih5 _ _ _ _ _)
      | (with_reducible exact ih6 _ _ _ _ _)
      | (with_reducible exact shibbolethref22_first.mono _ _ _ _)
      | (with_reducible exact shibbolethref22_is.mono _ _ _)
      | (with_reducible exact shibbolethref22_scheme.mono _ _)
      | (with_reducible exact LeO.refl _)
      | (with_reducible exact LeO.none _)
      | (with_reducible refine LeO.ite ?_ ?_)
      | (with_reducible refine LeO.bind ?_ (fun _ => ?_))
      | exact ih0 _ _
      | exact ih1 _ _ _
      | exact ih2 _ _ _ _ _
      | exact ih3 _ _ _ _
      | exact ih4 _ _ _ _ _
      | exact ih5 _ _ _ _ _
      | exact ih6 _ _ _ _ _
      | exact shibbolethref22_first.mono _ _ _ _
      | exact shibbolethref22_is.mono _ _ _
      | exact shibbolethref22_scheme.mono _ _
      | exact LeO.none _
      | refine LeO.ite ?_ ?_
      | refine LeO.bind ?_ (fun _ => ?_)
    · intro y0 y1 y2 y3 y4
      unfold shibbolethref22_Parse.l2
      repeat' first
      | (with_reducible exact ih0 _ _)
      | (with_reducible exact ih1 _ _ _)
      | (with_reducible exact ih2 _ _ _ _ _)
      | (with_reducible exact ih3 _ _ _ _)
      | (with_reducible exact ih4 _ _ _ _ _)
      | (with_reducible exact ih5 _ _ _ _ _)
      | (with_reducible exact ih6 _ _ _ _ _)
      | (with_reducible exact shibbolethref22_first.mono _ _ _ _)
      | (with_reducible exact shibbolethref22_is.mono _ _ _)
      | (with_reducible exact shibbolethref22_scheme.mono _ _)
      | (with_reducible exact LeO.refl _)
      | (with_reducible exact LeO.none _)
      | (with_reducible refine LeO.ite ?_ ?_)
      | (with_reducible refine LeO.bind ?_ (fun _ => ?_))
      | exact ih0 _ _
      | exact ih1 _ _ _
      | exact ih2 _ _ _ _ _
      | exact ih3 _ _ _ _
      | exact ih4 _ _ _ _ _
      | exact ih5 _ _ _ _ _
      | exact ih6 _ _ _ _ _
      | exact shibbolethref22_first.mono _ _ _ _
      | exact shibbolethref22_is.mono _ _ _
      | exact shibbolethref22_scheme.mono _ _
      | exact LeO.none _
      | refine LeO.ite ?_ ?_
      | refine LeO.bind ?_ (fun _ => ?_)
    · intro y0 y1 y2 y3 y4
      unfold shibbolethref22_Parse.j3
      repeat' first
      | (with_reducible exact ih0 _ _)
      | (with_reducible exact ih1 _ _ _)
      | (with_reducible exact ih2 _ _ _ _ _)
      | (with_reducible exact ih3 _ _ _ _)
      | (with_reducible exact ih4 _ _ _ _ _)
      | (with_reducible exact ih5 _ _ _ _ _)
      | (with_reducible exact ih6 _ _ _ _ _)
      | (with_reducible exact shibbolethref22_first.mono _ _ _ _)
      | (with_reducible exact shibbolethref22_is.mono _ _ _)
      | (with_reducible exact shibbolethref22_scheme.mono _ _)
      | (with_reducible exact LeO.refl _)
      | (with_reducible exact LeO.none _)
      | (with_reducible refine LeO.ite ?_ ?_)
      | (with_reducible refine LeO.bind ?_ (fun _ => ?_))
      | exact ih0 _ _
      | exact ih1 _ _ _
      | exact ih2 _ _ _ _ _
      | exact ih3 _ _ _ _
      | exact ih4 _ _ _ _ _
      | exact ih5 _ _ _ _ _
      | exact ih6 _ _ _ _ _
      | exact shibbolethref22_first.mono _ _ _ _
      | exact shibbolethref22_is.mono _ _ _
      | exact shibbolethref22_scheme.mono _ _
      | exact LeO.none _
      | refine LeO.ite ?_ ?_
      | refine LeO.bind ?_ (fun _ => ?_)
    · intro y0 y1 y2 y3 y4
      unfold shibbolethref22_Parse.l1
      repeat' first
      | (with_reducible exact ih0 _ _)
      | (with_reducible exact ih1 _ _ _)
      | (with_reducible exact ih2 _ _ _ _ _)
      | (with_reducible exact ih3 _ _ _ _)
      | (with_reducible exact ih4 _ _ _ _ _)
      | (with_reducible exact ih5 _ _ _ _ _)
      | (with_reducible exact ih6 _ _ _ _ _)
      | (with_reducible exact shibbolethref22_first.mono _ _ _ _)
      | (with_reducible exact shibbolethref22_is.mono _ _ _)
      | (with_reducible exact shibbolethref22_scheme.mono _ _)
      | (with_reducible exact LeO.refl _)
      | (with_reducible exact LeO.none _)
      | (with_reducible refine LeO.ite ?_ ?_)
      | (with_reducible refine LeO.bind ?_ (fun _ => ?_))
      | exact ih0 _ _
      | exact ih1 _ _ _
      | exact ih2 _ _ _ _ _
      | exact ih3 _ _ _ _
      | exact ih4 _ _ _ _ _
      | exact ih5 _ _ _ _ _
      | exact ih6 _ _ _ _ _
      | exact shibbolethref22_first.mono _ _ _ _
      | exact shibbolethref22_is.mono _ _ _
      | exact shibbolethref22_scheme.mono _ _
      | exact LeO.none _
      | refine LeO.ite ?_ ?_
      | refine LeO.bind ?_ (fun _ => ?_)
theorem shibbolethref22_Parse.mono : ∀ a0 k, LeO (shibbolethref22_Parse.f k a0) (shibbolethref22_Parse.f (k + 1) a0) := by
  intro a0 k
  obtain ⟨ih0, ih1, ih2, ih3, ih4, ih5, ih6⟩ := shibbolethref22_Parse.mono_l k
  unfold shibbolethref22_Parse.f
  repeat' first
      | (with_reducible exact ih0 _ _)
      | (with_reducible exact ih1 _ _ _)
      | (with_reducible exact ih2 _ _ _ _ _)
      | (with_reducible exact ih3 _ _ _ _)
      | (with_reducible exact ih4 _ _ _ _ _)
      | (with_reducible exact ih5 _ _ _ _ _)
      | (with_reducible exact ih6 _ _ _ _ _)
      | (with_reducible exact shibbolethref22_first.mono _ _ _ _)
      | (with_reducible exact shibbolethref22_is.mono _ _ _)
      | (with_reducible exact shibbolethref22_scheme.mono _ _)
      | (with_reducible exact LeO.refl _)
      | (with_reducible exact LeO.none _)
      | (with_reducible refine LeO.ite ?_ ?_)
      | (with_reducible refine LeO.bind ?_ (fun _ => ?_))
      | exact ih0 _ _
      | exact ih1 _ _ _
      | exact ih2 _ _ _ _ _
      | exact ih3 _ _ _ _
      | exact ih4 _ _ _ _ _
      | exact ih5 _ _ _ _ _
      | exact ih6 _ _ _ _ _
      | exact shibbolethref22_first.mono _ _ _ _
      | exact shibbolethref22_is.mono _ _ _
      | exact shibbolethref22_scheme.mono _ _
      | exact LeO.none _
      | refine LeO.ite ?_ ?_
      | refine LeO.bind ?_ (fun _ => ?_)
def shibbolethref22_Parse.T28 : Bool × List (List Nat × List Nat) := (true, [([], []), ([], []), ([], []), ([0, 1, 2], [0, 1, 2]), ([], []), ([], []), ([], []), ([], []), ([6, 7], [6, 7]), ([4, 5, 8], [4, 5, 8]), ([3, 9], [3, 9]), ([10, 8, 0, 1, 2, 3, 4, 5, 6, 7, 8, 9, 10], [10])])
def shibbolethref22_Parse.B28 : List Nat := [0, 0, 0, 7, 0, 0, 0, 0, 192, 496, 1023, 2047]
theorem shibbolethref22_Parse.tab28 : rtab .any (opsOf Try.f19 28) = shibbolethref22_Parse.T28 := by kernel_rfl
theorem shibbolethref22_Parse.bits28 : waitsOk shibbolethref22_Parse.T28.2 shibbolethref22_Parse.B28 = true := by kernel_rfl
set_option maxHeartbeats 8000000 in
set_option maxRecDepth 100000 in
theorem shibbolethref22_Parse.calls (k : Nat) (a0 : ByteArray) (r1 : Bool) (r2 : ByteArray) (r3 : ByteArray) (w : World) (h : shibbolethref22_Parse.f k a0 = some (r1, r2, r3)) :
    Calls Try.prog 19 #[.string a0] w fun e w' => e = .returned (.agg #[.bool r1, .string r2, .string r3]) ∧ Below w.heap.size w w' := by
  have hu24 := Try.underlying24
  have HB := Aside0.mk (Below.refl w.heap.size w)
  have H : (shibbolethref22_Parse.l0 k a0 0) = some (r1, r2, r3) := h
  clear h
  have H' := Aside0.mk H
  clear H
  go_enter Try.func19, Try.ntmps19
  go_wp2_with (first | ((with_reducible refine gate_dst (N := 2) rfl ?_); refine box_event ?hg (N := 2) ?hd (cs := #[.bool false, .string (⟨#[]⟩ : ByteArray), .string (⟨#[]⟩ : ByteArray)]) (t := 24) ?hr ?_; (case hd => rfl); (case hg => rfl); (case hr => first | (go_simp; done) | (go_simp; rfl)); intro gb439 hg w2 hbox hb; have n0_ := Aside0.mk (below_step (by repeat (first | (with_reducible first | exact HB.out | apply below_alloc | apply pw_below_drewN | apply below_drew1) | exact HB.out)) hb); have n1_ := Aside0.mk (hbox); have n2_ := Aside0.mk ((by rw [hg]; exact (below_size (by repeat (first | (with_reducible first | exact HB.out | apply below_alloc | apply pw_below_drewN | apply below_drew1) | exact HB.out))) : w.heap.size ≤ gb439)); have n3_ := Aside0.mk ((by rw [hg]; exact (below_size (by repeat (first | (with_reducible first | exact HB.out | apply below_alloc | apply pw_below_drewN | apply below_drew1) | exact HB.out))) : w.heap.size ≤ gb439)); clear HB; have HB := n0_; have BK439 := n1_; have GW439 := n2_; have GE439 := n3_; clear n0_ n1_ n2_ n3_; clear hb hbox hg))
  go_loopg [3] k (fun kq v3 w' => ∃ (x3_1 : Int) (x440000_1 : Bool) (x440001_1 : ByteArray) (x440002_1 : ByteArray), v3 = .int .i64 x3_1 ∧ Aside0 (shibbolethref22_Parse.l0 kq a0 x3_1 = some (r1, r2, r3)) ∧ Aside0 (kq ≤ k) ∧ Aside0 (w'.heap[gb439]? = some (.cells #[.bool x440000_1, .string x440001_1, .string x440002_1] 24 (0, 0))) ∧ Aside0 (Below w.heap.size w w'))
  case atStart => exact ⟨(0), (false), ((⟨#[]⟩ : ByteArray)), ((⟨#[]⟩ : ByteArray)), (by first | rfl | (simp; done) | (simp [*]; done)), H', ⟨Nat.le_refl _⟩, ⟨by (with_reducible repeat (first | refine blk_drewN ?_ _ | refine blk_drew ?_ | refine blk_alloc ?_ _)); exact BK439.out⟩, ⟨by repeat (first | (with_reducible first | exact HB.out | apply below_alloc | apply pw_below_drewN | apply below_drew1 | refine below_set ?_ GE439.out) | exact HB.out)⟩⟩
  case round =>
    clear H'
    try clear c1
    try clear p2
    obtain ⟨x3_1, x440000_1, x440001_1, x440002_1, rfl, HA, HK1, BK439, HB⟩ := hrel
    cases gk with
    | zero => exact absurd HA.out (by simp [shibbolethref22_Parse.l0])
    | succ k1 =>
      have H := HA.out
      clear HA
      simp only [shibbolethref22_Parse.l0] at H
      by_cases c3 : x3_1 < (a0.size : Int)
      · rw [if_pos c3] at H
        have c3b0 : decide (x3_1 < (a0.size : Int)) = true := decide_eq_true c3
        clear c3
        by_cases c4 : 0 ≤ x3_1
        · rw [if_pos c4] at H
          have c4b0 : decide (0 ≤ x3_1) = true := decide_eq_true c4
          clear c4
          by_cases c6 : (bt a0 x3_1) < 33
          · rw [if_pos c6] at H
            have c6b0 : decide ((bt a0 x3_1) < 33) = true := decide_eq_true c6
            clear c6
            simp only [Option.some.injEq, Prod.mk.injEq] at H
            obtain ⟨rfl, rfl, rfl⟩ := H
            have p5 : 0 ≤ (x3_1 : Int) := of_decide_eq_true (by first | (with_reducible assumption) | assumption)
            have q5 : x3_1 < (a0.size : Int) := of_decide_eq_true (by first | (with_reducible assumption) | assumption)
            have hx5 := bt_at a0 x3_1
            replace p5 := eq_true p5
            replace q5 := eq_true q5
            have hcz7_0 : wr.cell? ⟨gb439, 0, none⟩ = some (.bool x440000_1) := (blk_cell BK439.out 0).trans rfl
            have hcz7_1 : wr.cell? ⟨gb439, 1, none⟩ = some (.string x440001_1) := (blk_cell BK439.out 1).trans rfl
            have hcz7_2 : wr.cell? ⟨gb439, 2, none⟩ = some (.string x440002_1) := (blk_cell BK439.out 2).trans rfl
            have hfz7_0 := blk_frozen BK439.out 0
            have hfz7_1 := blk_frozen BK439.out 1
            have hfz7_2 := blk_frozen BK439.out 2
            go_wp2
            refine bodyPost_ret (results_cell_row rfl _ _ gb439 24 #[.bool false, .string (⟨#[]⟩ : ByteArray), .string (⟨#[]⟩ : ByteArray)] (0, 0) _ rfl (by (with_reducible repeat (first | refine blk_drewN ?_ _ | refine blk_drew ?_ | refine blk_alloc ?_ _)); refine blk_put (cs := #[.bool false, .string (⟨#[]⟩ : ByteArray), .string x440002_1]) ?_ 2 _ rfl; (with_reducible repeat (first | refine blk_drewN ?_ _ | refine blk_drew ?_ | refine blk_alloc ?_ _)); refine blk_put (cs := #[.bool false, .string x440001_1, .string x440002_1]) ?_ 1 _ rfl; (with_reducible repeat (first | refine blk_drewN ?_ _ | refine blk_drew ?_ | refine blk_alloc ?_ _)); refine blk_put (cs := #[.bool x440000_1, .string x440001_1, .string x440002_1]) ?_ 0 _ rfl; (with_reducible repeat (first | refine blk_drewN ?_ _ | refine blk_drew ?_ | refine blk_alloc ?_ _)); exact BK439.out) Try.underlying24 rfl (by kernel_rfl)) rfl ?_
            exact ⟨by first | rfl | (simp [errW_none, errW_some] <;> rfl) | (simp [*, errW_none, errW_some] <;> rfl), by repeat (first | (with_reducible first | exact HB.out | apply below_alloc | apply pw_below_drewN | apply below_drew1 | refine below_set ?_ GE439.out) | exact HB.out)⟩
          · rw [if_neg c6] at H
            have c6b0 : decide ((bt a0 x3_1) < 33) = false := decide_eq_false c6
            clear c6
            by_cases c9 : (bt a0 x3_1) = 127
            · rw [if_pos c9] at H
              have c9b0 : ((bt a0 x3_1) == 127) = true := beq_iff_eq.mpr c9
              have c9b1 : ((bt a0 x3_1) != 127) = false := bne_eq_false_iff_eq.mpr c9
              clear c9
              simp only [Option.some.injEq, Prod.mk.injEq] at H
              obtain ⟨rfl, rfl, rfl⟩ := H
              have p5 : 0 ≤ (x3_1 : Int) := of_decide_eq_true (by first | (with_reducible assumption) | assumption)
              have q5 : x3_1 < (a0.size : Int) := of_decide_eq_true (by first | (with_reducible assumption) | assumption)
              have hx5 := bt_at a0 x3_1
              replace p5 := eq_true p5
              replace q5 := eq_true q5
              have p8 : 0 ≤ (x3_1 : Int) := of_decide_eq_true (by first | (with_reducible assumption) | assumption)
              have q8 : x3_1 < (a0.size : Int) := of_decide_eq_true (by first | (with_reducible assumption) | assumption)
              have hx8 := bt_at a0 x3_1
              replace p8 := eq_true p8
              replace q8 := eq_true q8
              have hcz10_0 : wr.cell? ⟨gb439, 0, none⟩ = some (.bool x440000_1) := (blk_cell BK439.out 0).trans rfl
              have hcz10_1 : wr.cell? ⟨gb439, 1, none⟩ = some (.string x440001_1) := (blk_cell BK439.out 1).trans rfl
              have hcz10_2 : wr.cell? ⟨gb439, 2, none⟩ = some (.string x440002_1) := (blk_cell BK439.out 2).trans rfl
              have hfz10_0 := blk_frozen BK439.out 0
              have hfz10_1 := blk_frozen BK439.out 1
              have hfz10_2 := blk_frozen BK439.out 2
              go_wp2
              refine bodyPost_ret (results_cell_row rfl _ _ gb439 24 #[.bool false, .string (⟨#[]⟩ : ByteArray), .string (⟨#[]⟩ : ByteArray)] (0, 0) _ rfl (by (with_reducible repeat (first | refine blk_drewN ?_ _ | refine blk_drew ?_ | refine blk_alloc ?_ _)); refine blk_put (cs := #[.bool false, .string (⟨#[]⟩ : ByteArray), .string x440002_1]) ?_ 2 _ rfl; (with_reducible repeat (first | refine blk_drewN ?_ _ | refine blk_drew ?_ | refine blk_alloc ?_ _)); refine blk_put (cs := #[.bool false, .string x440001_1, .string x440002_1]) ?_ 1 _ rfl; (with_reducible repeat (first | refine blk_drewN ?_ _ | refine blk_drew ?_ | refine blk_alloc ?_ _)); refine blk_put (cs := #[.bool x440000_1, .string x440001_1, .string x440002_1]) ?_ 0 _ rfl; (with_reducible repeat (first | refine blk_drewN ?_ _ | refine blk_drew ?_ | refine blk_alloc ?_ _)); exact BK439.out) Try.underlying24 rfl (by kernel_rfl)) rfl ?_
              exact ⟨by first | rfl | (simp [errW_none, errW_some] <;> rfl) | (simp [*, errW_none, errW_some] <;> rfl), by repeat (first | (with_reducible first | exact HB.out | apply below_alloc | apply pw_below_drewN | apply below_drew1 | refine below_set ?_ GE439.out) | exact HB.out)⟩
            · rw [if_neg c9] at H
              have c9b0 : ((bt a0 x3_1) == 127) = false := beq_eq_false_iff_ne.mpr c9
              have c9b1 : ((bt a0 x3_1) != 127) = true := bne_iff_ne.mpr c9
              have H' := Aside0.mk H
              clear H
              have p5 : 0 ≤ (x3_1 : Int) := of_decide_eq_true (by first | (with_reducible assumption) | assumption)
              have q5 : x3_1 < (a0.size : Int) := of_decide_eq_true (by first | (with_reducible assumption) | assumption)
              have hx5 := bt_at a0 x3_1
              replace p5 := eq_true p5
              replace q5 := eq_true q5
              have p8 : 0 ≤ (x3_1 : Int) := of_decide_eq_true (by first | (with_reducible assumption) | assumption)
              have q8 : x3_1 < (a0.size : Int) := of_decide_eq_true (by first | (with_reducible assumption) | assumption)
              have hx8 := bt_at a0 x3_1
              replace p8 := eq_true p8
              replace q8 := eq_true q8
              go_wp2
              go_roundg k1
              case measure => have := HK1.out; omega
              case rel => exact ⟨(wrap64 (x3_1 + 1)), (x440000_1), (x440001_1), (x440002_1), (by first | rfl | (simp; done) | (simp [*]; done)), H', ⟨by have := HK1.out; omega⟩, ⟨by (with_reducible repeat (first | refine blk_drewN ?_ _ | refine blk_drew ?_ | refine blk_alloc ?_ _)); exact BK439.out⟩, ⟨by repeat (first | (with_reducible first | exact HB.out | apply below_alloc | apply pw_below_drewN | apply below_drew1 | refine below_set ?_ GE439.out) | exact HB.out)⟩⟩
        · rw [if_neg c4] at H
          exact absurd H (by simp)
      · rw [if_neg c3] at H
        have c3b0 : decide (x3_1 < (a0.size : Int)) = false := decide_eq_false c3
        clear c3
        replace H := Option.bind_eq_some_iff.mp H
        obtain ⟨t440, A110, H⟩ := H
        replace H : ((shibbolethref22_first.f k1 a0 (⟨#[47, 63, 35]⟩ : ByteArray) t440).bind fun t441 => (if 0 ≤ t441 then (if t441 ≤ (a0.size : Int) then ((shibbolethref22_first.f k1 (a0.extract 0 (t441 : Int).toNat) (⟨#[64]⟩ : ByteArray) t440).bind fun t442 => (if t442 < t441 then (shibbolethref22_Parse.j1 k1 a0 (wrap64 (t442 + 1)) t441) else (shibbolethref22_Parse.j1 k1 a0 t440 t441))) else (none)) else (none))) = some (r1, r2, r3) := H
        have A11 := Aside0.mk A110
        clear A110
        replace H := Option.bind_eq_some_iff.mp H
        obtain ⟨t441, A120, H⟩ := H
        replace H : (if 0 ≤ t441 then (if t441 ≤ (a0.size : Int) then ((shibbolethref22_first.f k1 (a0.extract 0 (t441 : Int).toNat) (⟨#[64]⟩ : ByteArray) t440).bind fun t442 => (if t442 < t441 then (shibbolethref22_Parse.j1 k1 a0 (wrap64 (t442 + 1)) t441) else (shibbolethref22_Parse.j1 k1 a0 t440 t441))) else (none)) else (none)) = some (r1, r2, r3) := H
        have A12 := Aside0.mk A120
        clear A120
        by_cases c13 : 0 ≤ t441
        · rw [if_pos c13] at H
          have c13b0 := eq_true c13
          have c13b1 : decide (0 ≤ t441) = true := decide_eq_true c13
          clear c13
          by_cases c14 : t441 ≤ (a0.size : Int)
          · rw [if_pos c14] at H
            have c14b0 := eq_true c14
            have c14b1 : decide (t441 ≤ (a0.size : Int)) = true := decide_eq_true c14
            clear c14
            replace H := Option.bind_eq_some_iff.mp H
            obtain ⟨t442, A150, H⟩ := H
            replace H : (if t442 < t441 then (shibbolethref22_Parse.j1 k1 a0 (wrap64 (t442 + 1)) t441) else (shibbolethref22_Parse.j1 k1 a0 t440 t441)) = some (r1, r2, r3) := H
            have A15 := Aside0.mk A150
            clear A150
            have HC16 := Aside0.mk H
            clear H
            go_upto_if 39 with (first | ((with_reducible refine gate_callee (f := 40) rfl ?_); refine goesL_ (some 28) rfl rfl Try.func40 (by kernel_rfl) rfl #[.string a0] rfl (by (try simp only [List.map_toArray, List.map_cons, List.map_nil]); first | done | rfl | (simp only [List.length_drop, List.length_take]; rfl)) ?_; (with_reducible refine (shibbolethref22_scheme.calls k1 a0 t440 _ A11.out).mono ?_); rintro e w' ⟨rfl, ⟨nd, rfl⟩⟩; refine ⟨_, rfl, ?_⟩) | ((with_reducible refine gate_callee (f := 41) rfl ?_); refine goesL_ (some 31) rfl rfl Try.func41 (by kernel_rfl) rfl #[.string a0, .string (⟨#[47, 63, 35]⟩ : ByteArray), .int .i64 t440] rfl (by (try simp only [List.map_toArray, List.map_cons, List.map_nil]); first | done | rfl | (simp only [List.length_drop, List.length_take]; rfl)) ?_; (with_reducible refine (shibbolethref22_first.calls k1 a0 (⟨#[47, 63, 35]⟩ : ByteArray) t440 t441 _ A12.out).mono ?_); rintro e w' ⟨rfl, ⟨nd, rfl⟩⟩; refine ⟨_, rfl, ?_⟩) | ((with_reducible refine gate_callee (f := 41) rfl ?_); refine goesL_ (some 36) rfl rfl Try.func41 (by kernel_rfl) rfl #[.string (a0.extract 0 (t441 : Int).toNat), .string (⟨#[64]⟩ : ByteArray), .int .i64 t440] rfl (by (try simp only [List.map_toArray, List.map_cons, List.map_nil]); first | done | rfl | (simp only [List.length_drop, List.length_take]; rfl)) ?_; (with_reducible refine (shibbolethref22_first.calls k1 (a0.extract 0 (t441 : Int).toNat) (⟨#[64]⟩ : ByteArray) t440 t442 _ A15.out).mono ?_); rintro e w' ⟨rfl, ⟨nd, rfl⟩⟩; refine ⟨_, rfl, ?_⟩))
            (try simp only [Act.put, List.setIfInBounds_toArray, List.set_cons_zero, List.set_cons_succ])
            go_cut [4] (fun v4 wc => ∃ (kq : Nat) (x4_15 : Int), v4 = .int .i64 x4_15 ∧ Aside0 (shibbolethref22_Parse.j1 kq a0 x4_15 t441 = some (r1, r2, r3)) ∧ Aside0 (kq ≤ k1) ∧ Aside0 (wc.heap[gb439]? = some (.cells #[.bool x440000_1, .string x440001_1, .string x440002_1] 24 (0, 0))) ∧ Aside0 (Below w.heap.size w wc))
            case first =>
              have H := HC16.out
              clear HC16
              by_cases c17 : t442 < t441
              · rw [if_pos c17] at H
                have c17b0 : decide (t442 < t441) = true := decide_eq_true c17
                clear c17
                (first | rw [c17b0] | (simp only [i64_w, i32_w]; rw [c17b0]) | skip)
                have H' := Aside0.mk H
                clear H
                go_wp2
                go_meet
                case rel => exact ⟨_, (wrap64 (t442 + 1)), (by first | rfl | (simp; done) | (simp [*]; done)), H', ⟨by have := HK1.out; first | omega | exact Nat.le_refl _⟩, ⟨by (with_reducible repeat (first | refine blk_drewN ?_ _ | refine blk_drew ?_ | refine blk_alloc ?_ _)); exact BK439.out⟩, ⟨by repeat (first | (with_reducible first | exact HB.out | apply below_alloc | apply pw_below_drewN | apply below_drew1 | refine below_set ?_ GE439.out) | exact HB.out)⟩⟩
              · rw [if_neg c17] at H
                have c17b0 : decide (t442 < t441) = false := decide_eq_false c17
                clear c17
                (first | rw [c17b0] | (simp only [i64_w, i32_w]; rw [c17b0]) | skip)
                have H' := Aside0.mk H
                clear H
                go_wp2
                go_meet
                case rel => exact ⟨_, (t440), (by first | rfl | (simp; done) | (simp [*]; done)), H', ⟨by have := HK1.out; first | omega | exact Nat.le_refl _⟩, ⟨by (with_reducible repeat (first | refine blk_drewN ?_ _ | refine blk_drew ?_ | refine blk_alloc ?_ _)); exact BK439.out⟩, ⟨by repeat (first | (with_reducible first | exact HB.out | apply below_alloc | apply pw_below_drewN | apply below_drew1 | refine below_set ?_ GE439.out) | exact HB.out)⟩⟩
            case rest =>
              clear HC16
              try clear c1
              try clear p2
              try clear c3
              try clear c3b0
              try clear c4
              try clear c4b0
              try clear p5
              try clear q5
              try clear hx5
              try clear c6
              try clear c6b0
              try clear p6
              try clear p8
              try clear q8
              try clear hx8
              try clear c9
              try clear c9b0
              try clear c9b1
              try clear c13
              try clear c13b0
              try clear c13b1
              try clear c14
              try clear c14b0
              try clear c14b1
              try clear c17
              try clear c17b0
              try clear hcz10_0
              try clear hcz10_1
              try clear hcz10_2
              try clear hcz7_0
              try clear hcz7_1
              try clear hcz7_2
              try clear hfz10_0
              try clear hfz10_1
              try clear hfz10_2
              try clear hfz7_0
              try clear hfz7_1
              try clear hfz7_2
              try clear p2
              try clear p5
              try clear p8
              try clear q5
              try clear q8
              obtain ⟨kq, x4_15, rfl, HA, HJ15, BK439, HB⟩ := hcut
              cases kq with
              | zero => exact absurd HA.out (by simp [shibbolethref22_Parse.j1])
              | succ kj15 =>
                have H := HA.out
                clear HA
                simp only [shibbolethref22_Parse.j1] at H
                by_cases c18 : 0 ≤ t441
                · rw [if_pos c18] at H
                  have c18b0 := eq_true c18
                  have c18b1 : decide (0 ≤ t441) = true := decide_eq_true c18
                  clear c18
                  by_cases c19 : t441 ≤ (a0.size : Int)
                  · rw [if_pos c19] at H
                    have c19b0 := eq_true c19
                    have c19b1 : decide (t441 ≤ (a0.size : Int)) = true := decide_eq_true c19
                    clear c19
                    replace H := Option.bind_eq_some_iff.mp H
                    obtain ⟨t443, A200, H⟩ := H
                    replace H : (if x4_15 < t441 then (if 0 ≤ x4_15 then (if x4_15 < (a0.size : Int) then (shibbolethref22_Parse.j2 kj15 a0 x4_15 t441 t443 ((bt a0 x4_15) == 91)) else (none)) else (none)) else (shibbolethref22_Parse.j2 kj15 a0 x4_15 t441 t443 false)) = some (r1, r2, r3) := H
                    have A20 := Aside0.mk A200
                    clear A200
                    have HC21 := Aside0.mk H
                    clear H
                    go_upto_region 12 with (first | ((with_reducible refine gate_callee (f := 41) rfl ?_); refine goesL_ (some 46) rfl rfl Try.func41 (by kernel_rfl) rfl #[.string (a0.extract 0 (t441 : Int).toNat), .string (⟨#[47, 58, 35, 63, 33, 64, 123, 125, 91, 93, 92, 36, 39, 34, 94, 96, 42, 60, 62, 61, 59, 44]⟩ : ByteArray), .int .i64 x4_15] rfl (by (try simp only [List.map_toArray, List.map_cons, List.map_nil]); first | done | rfl | (simp only [List.length_drop, List.length_take]; rfl)) ?_; (with_reducible refine (shibbolethref22_first.calls kj15 (a0.extract 0 (t441 : Int).toNat) (⟨#[47, 58, 35, 63, 33, 64, 123, 125, 91, 93, 92, 36, 39, 34, 94, 96, 42, 60, 62, 61, 59, 44]⟩ : ByteArray) x4_15 t443 _ A20.out).mono ?_); rintro e w' ⟨rfl, ⟨nd, rfl⟩⟩; refine ⟨_, rfl, ?_⟩))
                    (try simp only [Act.put, List.setIfInBounds_toArray, List.set_cons_zero, List.set_cons_succ])
                    go_cut [55] (fun v55 wc => ∃ (kq : Nat) (x55_20 : Bool), v55 = .bool x55_20 ∧ Aside0 (shibbolethref22_Parse.j2 kq a0 x4_15 t441 t443 x55_20 = some (r1, r2, r3)) ∧ Aside0 (kq ≤ kj15) ∧ Aside0 (wc.heap[gb439]? = some (.cells #[.bool x440000_1, .string x440001_1, .string x440002_1] 24 (0, 0))) ∧ Aside0 (Below w.heap.size w wc))
                    case first =>
                      have H := HC21.out
                      clear HC21
                      by_cases c22 : x4_15 < t441
                      · rw [if_pos c22] at H
                        have c22b0 : decide (x4_15 < t441) = true := decide_eq_true c22
                        clear c22
                        (first | rw [c22b0] | (simp only [i64_w, i32_w]; rw [c22b0]) | skip)
                        by_cases c23 : 0 ≤ x4_15
                        · rw [if_pos c23] at H
                          have c23b0 : decide (0 ≤ x4_15) = true := decide_eq_true c23
                          clear c23
                          by_cases c24 : x4_15 < (a0.size : Int)
                          · rw [if_pos c24] at H
                            have c24b0 : decide (x4_15 < (a0.size : Int)) = true := decide_eq_true c24
                            clear c24
                            have H' := Aside0.mk H
                            clear H
                            have p25 : 0 ≤ (x4_15 : Int) := of_decide_eq_true (by first | (with_reducible assumption) | assumption)
                            have q25 : x4_15 < (a0.size : Int) := of_decide_eq_true (by first | (with_reducible assumption) | assumption)
                            have hx25 := bt_at a0 x4_15
                            replace p25 := eq_true p25
                            replace q25 := eq_true q25
                            go_wp2
                            go_meet
                            case rel => exact ⟨_, (((bt a0 x4_15) == 91)), (by first | rfl | (simp; done) | (simp [*]; done)), H', ⟨by have := HK1.out; have := HJ15.out; first | omega | exact Nat.le_refl _⟩, ⟨by (with_reducible repeat (first | refine blk_drewN ?_ _ | refine blk_drew ?_ | refine blk_alloc ?_ _)); exact BK439.out⟩, ⟨by repeat (first | (with_reducible first | exact HB.out | apply below_alloc | apply pw_below_drewN | apply below_drew1 | refine below_set ?_ GE439.out) | exact HB.out)⟩⟩
                          · rw [if_neg c24] at H
                            exact absurd H (by simp)
                        · rw [if_neg c23] at H
                          exact absurd H (by simp)
                      · rw [if_neg c22] at H
                        have c22b0 : decide (x4_15 < t441) = false := decide_eq_false c22
                        clear c22
                        (first | rw [c22b0] | (simp only [i64_w, i32_w]; rw [c22b0]) | skip)
                        have H' := Aside0.mk H
                        clear H
                        go_wp2
                        go_meet
                        case rel => exact ⟨_, (false), (by first | rfl | (simp; done) | (simp [*]; done)), H', ⟨by have := HK1.out; have := HJ15.out; first | omega | exact Nat.le_refl _⟩, ⟨by (with_reducible repeat (first | refine blk_drewN ?_ _ | refine blk_drew ?_ | refine blk_alloc ?_ _)); exact BK439.out⟩, ⟨by repeat (first | (with_reducible first | exact HB.out | apply below_alloc | apply pw_below_drewN | apply below_drew1 | refine below_set ?_ GE439.out) | exact HB.out)⟩⟩
                    case rest =>
                      clear HC21
                      try clear c1
                      try clear c2
                      try clear p2
                      try clear q2
                      try clear hx2
                      try clear c3
                      try clear c3b0
                      try clear c4
                      try clear c4b0
                      try clear p5
                      try clear q5
                      try clear hx5
                      try clear c6
                      try clear c6b0
                      try clear p6
                      try clear p8
                      try clear q8
                      try clear hx8
                      try clear c9
                      try clear c9b0
                      try clear c9b1
                      try clear c13
                      try clear c13b0
                      try clear c13b1
                      try clear c14
                      try clear c14b0
                      try clear c14b1
                      try clear c17
                      try clear c17b0
                      try clear c18
                      try clear c18b0
                      try clear c18b1
                      try clear c19
                      try clear c19b0
                      try clear c19b1
                      try clear c22
                      try clear c22b0
                      try clear c23
                      try clear c23b0
                      try clear c24
                      try clear c24b0
                      try clear p25
                      try clear q25
                      try clear hx25
                      try clear hcz10_0
                      try clear hcz10_1
                      try clear hcz10_2
                      try clear hcz7_0
                      try clear hcz7_1
                      try clear hcz7_2
                      try clear hfz10_0
                      try clear hfz10_1
                      try clear hfz10_2
                      try clear hfz7_0
                      try clear hfz7_1
                      try clear hfz7_2
                      try clear p2
                      try clear p25
                      try clear p5
                      try clear p6
                      try clear p8
                      try clear q25
                      try clear q5
                      try clear q8
                      obtain ⟨kq, x55_20, rfl, HA, HJ20, BK439, HB⟩ := hcut
                      cases kq with
                      | zero => exact absurd HA.out (by simp [shibbolethref22_Parse.j2])
                      | succ kj20 =>
                        have H := HA.out
                        clear HA
                        simp only [shibbolethref22_Parse.j2] at H
                        have HC26 := Aside0.mk H
                        clear H
                        go_upto_if 55 with (fail)
                        go_cut [7] (fun v7 wc => ∃ (kq : Nat) (x7_25 : Int) (x440000_25 : Bool) (x440001_25 : ByteArray) (x440002_25 : ByteArray), v7 = .int .i64 x7_25 ∧ Aside0 (shibbolethref22_Parse.j5 kq a0 x4_15 t441 x7_25 = some (r1, r2, r3)) ∧ Aside0 (kq ≤ kj20) ∧ Aside0 (wc.heap[gb439]? = some (.cells #[.bool x440000_25, .string x440001_25, .string x440002_25] 24 (0, 0))) ∧ Aside0 (Below w.heap.size w wc))
                        case first =>
                          have H := HC26.out
                          clear HC26
                          by_cases c27 : x55_20 = true
                          · subst c27
                            have H1 : (if 0 ≤ t441 then (if t441 ≤ (a0.size : Int) then ((shibbolethref22_first.f kj20 (a0.extract 0 (t441 : Int).toNat) (⟨#[93]⟩ : ByteArray) x4_15).bind fun t444 => (if (wrap64 (t444 + 1)) > t441 then (shibbolethref22_Parse.j3 kj20 a0 x4_15 t441 (wrap64 (t444 + 1)) true) else (shibbolethref22_Parse.j3 kj20 a0 x4_15 t441 (wrap64 (t444 + 1)) (decide ((wrap64 (t444 + 1)) < (wrap64 (x4_15 + 3))))))) else (none)) else (none)) = some (r1, r2, r3) := by rw [if_pos rfl] at H; exact H
                            clear H
                            have H := H1
                            clear H1
                            by_cases c28 : 0 ≤ t441
                            · rw [if_pos c28] at H
                              have c28b0 := eq_true c28
                              have c28b1 : decide (0 ≤ t441) = true := decide_eq_true c28
                              clear c28
                              by_cases c29 : t441 ≤ (a0.size : Int)
                              · rw [if_pos c29] at H
                                have c29b0 := eq_true c29
                                have c29b1 : decide (t441 ≤ (a0.size : Int)) = true := decide_eq_true c29
                                clear c29
                                replace H := Option.bind_eq_some_iff.mp H
                                obtain ⟨t444, A300, H⟩ := H
                                replace H : (if (wrap64 (t444 + 1)) > t441 then (shibbolethref22_Parse.j3 kj20 a0 x4_15 t441 (wrap64 (t444 + 1)) true) else (shibbolethref22_Parse.j3 kj20 a0 x4_15 t441 (wrap64 (t444 + 1)) (decide ((wrap64 (t444 + 1)) < (wrap64 (x4_15 + 3)))))) = some (r1, r2, r3) := H
                                have A30 := Aside0.mk A300
                                clear A300
                                have HC31 := Aside0.mk H
                                clear H
                                go_upto_region 14 with (first | ((with_reducible refine gate_callee (f := 41) rfl ?_); refine goesL_ (some 60) rfl rfl Try.func41 (by kernel_rfl) rfl #[.string (a0.extract 0 (t441 : Int).toNat), .string (⟨#[93]⟩ : ByteArray), .int .i64 x4_15] rfl (by (try simp only [List.map_toArray, List.map_cons, List.map_nil]); first | done | rfl | (simp only [List.length_drop, List.length_take]; rfl)) ?_; (with_reducible refine (shibbolethref22_first.calls kj20 (a0.extract 0 (t441 : Int).toNat) (⟨#[93]⟩ : ByteArray) x4_15 t444 _ A30.out).mono ?_); rintro e w' ⟨rfl, ⟨nd, rfl⟩⟩; refine ⟨_, rfl, ?_⟩))
                                (try simp only [Act.put, List.setIfInBounds_toArray, List.set_cons_zero, List.set_cons_succ])
                                go_cut [70] (fun v70 wc => ∃ (kq : Nat) (x70_30 : Bool), v70 = .bool x70_30 ∧ Aside0 (shibbolethref22_Parse.j3 kq a0 x4_15 t441 (wrap64 (t444 + 1)) x70_30 = some (r1, r2, r3)) ∧ Aside0 (kq ≤ kj20) ∧ Aside0 (wc.heap[gb439]? = some (.cells #[.bool x440000_1, .string x440001_1, .string x440002_1] 24 (0, 0))) ∧ Aside0 (Below w.heap.size w wc))
                                case first =>
                                  have H := HC31.out
                                  clear HC31
                                  by_cases c32 : (wrap64 (t444 + 1)) > t441
                                  · rw [if_pos c32] at H
                                    have c32b0 : decide (t441 < (wrap64 (t444 + 1))) = true := decide_eq_true c32
                                    clear c32
                                    (first | rw [c32b0] | (simp only [i64_w, i32_w]; rw [c32b0]) | skip)
                                    have H' := Aside0.mk H
                                    clear H
                                    go_wp2
                                    go_meet
                                    case rel => exact ⟨_, (true), (by first | rfl | (simp; done) | (simp [*]; done)), H', ⟨by have := HK1.out; have := HJ15.out; have := HJ20.out; first | omega | exact Nat.le_refl _⟩, ⟨by (with_reducible repeat (first | refine blk_drewN ?_ _ | refine blk_drew ?_ | refine blk_alloc ?_ _)); exact BK439.out⟩, ⟨by repeat (first | (with_reducible first | exact HB.out | apply below_alloc | apply pw_below_drewN | apply below_drew1 | refine below_set ?_ GE439.out) | exact HB.out)⟩⟩
                                  · rw [if_neg c32] at H
                                    have c32b0 : decide (t441 < (wrap64 (t444 + 1))) = false := decide_eq_false c32
                                    clear c32
                                    (first | rw [c32b0] | (simp only [i64_w, i32_w]; rw [c32b0]) | skip)
                                    have H' := Aside0.mk H
                                    clear H
                                    go_wp2
                                    go_meet
                                    case rel => exact ⟨_, (decide ((wrap64 (t444 + 1)) < (wrap64 (x4_15 + 3)))), (by first | rfl | (simp; done) | (simp [*]; done)), H', ⟨by have := HK1.out; have := HJ15.out; have := HJ20.out; first | omega | exact Nat.le_refl _⟩, ⟨by (with_reducible repeat (first | refine blk_drewN ?_ _ | refine blk_drew ?_ | refine blk_alloc ?_ _)); exact BK439.out⟩, ⟨by repeat (first | (with_reducible first | exact HB.out | apply below_alloc | apply pw_below_drewN | apply below_drew1 | refine below_set ?_ GE439.out) | exact HB.out)⟩⟩
                                case rest =>
                                  clear HC31
                                  try clear c1
                                  try clear c2
                                  try clear p2
                                  try clear q2
                                  try clear hx2
                                  try clear c3
                                  try clear c3b0
                                  try clear c4
                                  try clear c4b0
                                  try clear p5
                                  try clear q5
                                  try clear hx5
                                  try clear c6
                                  try clear c6b0
                                  try clear p6
                                  try clear p8
                                  try clear q8
                                  try clear hx8
                                  try clear c9
                                  try clear c9b0
                                  try clear c9b1
                                  try clear c13
                                  try clear c13b0
                                  try clear c13b1
                                  try clear c14
                                  try clear c14b0
                                  try clear c14b1
                                  try clear c17
                                  try clear c17b0
                                  try clear c18
                                  try clear c18b0
                                  try clear c18b1
                                  try clear c19
                                  try clear c19b0
                                  try clear c19b1
                                  try clear c22
                                  try clear c22b0
                                  try clear c23
                                  try clear c23b0
                                  try clear c24
                                  try clear c24b0
                                  try clear p25
                                  try clear q25
                                  try clear hx25
                                  try clear c27
                                  try clear c28
                                  try clear c28b0
                                  try clear c28b1
                                  try clear c29
                                  try clear c29b0
                                  try clear c29b1
                                  try clear c32
                                  try clear c32b0
                                  try clear hcz10_0
                                  try clear hcz10_1
                                  try clear hcz10_2
                                  try clear hcz7_0
                                  try clear hcz7_1
                                  try clear hcz7_2
                                  try clear hfz10_0
                                  try clear hfz10_1
                                  try clear hfz10_2
                                  try clear hfz7_0
                                  try clear hfz7_1
                                  try clear hfz7_2
                                  try clear p2
                                  try clear p25
                                  try clear p5
                                  try clear p6
                                  try clear p8
                                  try clear q2
                                  try clear q25
                                  try clear q5
                                  try clear q8
                                  obtain ⟨kq, x70_30, rfl, HA, HJ30, BK439, HB⟩ := hcut
                                  cases kq with
                                  | zero => exact absurd HA.out (by simp [shibbolethref22_Parse.j3])
                                  | succ kj30 =>
                                    have H := HA.out
                                    clear HA
                                    simp only [shibbolethref22_Parse.j3] at H
                                    by_cases c33 : x70_30 = true
                                    · subst c33
                                      have H1 : (some (false, (⟨#[]⟩ : ByteArray), (⟨#[]⟩ : ByteArray))) = some (r1, r2, r3) := by rw [if_pos rfl] at H; exact H
                                      clear H
                                      have H := H1
                                      clear H1
                                      simp only [Option.some.injEq, Prod.mk.injEq] at H
                                      obtain ⟨rfl, rfl, rfl⟩ := H
                                      have hcz34_0 : wc.cell? ⟨gb439, 0, none⟩ = some (.bool x440000_1) := (blk_cell BK439.out 0).trans rfl
                                      have hcz34_1 : wc.cell? ⟨gb439, 1, none⟩ = some (.string x440001_1) := (blk_cell BK439.out 1).trans rfl
                                      have hcz34_2 : wc.cell? ⟨gb439, 2, none⟩ = some (.string x440002_1) := (blk_cell BK439.out 2).trans rfl
                                      have hfz34_0 := blk_frozen BK439.out 0
                                      have hfz34_1 := blk_frozen BK439.out 1
                                      have hfz34_2 := blk_frozen BK439.out 2
                                      go_wp2
                                      refine bodyPost_ret (results_cell_row rfl _ _ gb439 24 #[.bool false, .string (⟨#[]⟩ : ByteArray), .string (⟨#[]⟩ : ByteArray)] (0, 0) _ rfl (by (with_reducible repeat (first | refine blk_drewN ?_ _ | refine blk_drew ?_ | refine blk_alloc ?_ _)); refine blk_put (cs := #[.bool false, .string (⟨#[]⟩ : ByteArray), .string x440002_1]) ?_ 2 _ rfl; (with_reducible repeat (first | refine blk_drewN ?_ _ | refine blk_drew ?_ | refine blk_alloc ?_ _)); refine blk_put (cs := #[.bool false, .string x440001_1, .string x440002_1]) ?_ 1 _ rfl; (with_reducible repeat (first | refine blk_drewN ?_ _ | refine blk_drew ?_ | refine blk_alloc ?_ _)); refine blk_put (cs := #[.bool x440000_1, .string x440001_1, .string x440002_1]) ?_ 0 _ rfl; (with_reducible repeat (first | refine blk_drewN ?_ _ | refine blk_drew ?_ | refine blk_alloc ?_ _)); exact BK439.out) Try.underlying24 rfl (by kernel_rfl)) rfl ?_
                                      exact ⟨by first | rfl | (simp [errW_none, errW_some] <;> rfl) | (simp [*, errW_none, errW_some] <;> rfl), by repeat (first | (with_reducible first | exact HB.out | apply below_alloc | apply pw_below_drewN | apply below_drew1 | refine below_set ?_ GE439.out) | exact HB.out)⟩
                                    · replace c33 := Bool.eq_false_iff.mpr c33
                                      subst c33
                                      have H1 : (shibbolethref22_Parse.l1 kj30 a0 x4_15 t441 (wrap64 (t444 + 1)) (wrap64 (x4_15 + 1))) = some (r1, r2, r3) := by rw [if_neg (show ¬ (false = true) by decide)] at H; exact H
                                      clear H
                                      have H := H1
                                      clear H1
                                      have H' := Aside0.mk H
                                      clear H
                                      go_wp2
                                      go_loopg [8] kj30 (fun kq v8 w' => ∃ (x8_5 : Int) (x440000_5 : Bool) (x440001_5 : ByteArray) (x440002_5 : ByteArray), v8 = .int .i64 x8_5 ∧ Aside0 (shibbolethref22_Parse.l1 kq a0 x4_15 t441 (wrap64 (t444 + 1)) x8_5 = some (r1, r2, r3)) ∧ Aside0 (kq ≤ kj30) ∧ Aside0 (w'.heap[gb439]? = some (.cells #[.bool x440000_5, .string x440001_5, .string x440002_5] 24 (0, 0))) ∧ Aside0 (Below w.heap.size w w'))
                                      case atStart => exact ⟨(wrap64 (x4_15 + 1)), (x440000_1), (x440001_1), (x440002_1), (by first | rfl | (simp; done) | (simp [*]; done)), H', ⟨Nat.le_refl _⟩, ⟨by (with_reducible repeat (first | refine blk_drewN ?_ _ | refine blk_drew ?_ | refine blk_alloc ?_ _)); exact BK439.out⟩, ⟨by repeat (first | (with_reducible first | exact HB.out | apply below_alloc | apply pw_below_drewN | apply below_drew1 | refine below_set ?_ GE439.out) | exact HB.out)⟩⟩
                                      case round =>
                                        clear H'
                                        try clear c1
                                        try clear c2
                                        try clear p2
                                        try clear q2
                                        try clear hx2
                                        try clear c3
                                        try clear c3b0
                                        try clear c4
                                        try clear c4b0
                                        try clear p5
                                        try clear q5
                                        try clear hx5
                                        try clear c6
                                        try clear c6b0
                                        try clear p6
                                        try clear p8
                                        try clear q8
                                        try clear hx8
                                        try clear c9
                                        try clear c9b0
                                        try clear c9b1
                                        try clear c13
                                        try clear c13b0
                                        try clear c13b1
                                        try clear c14
                                        try clear c14b0
                                        try clear c14b1
                                        try clear c17
                                        try clear c17b0
                                        try clear c18
                                        try clear c18b0
                                        try clear c18b1
                                        try clear c19
                                        try clear c19b0
                                        try clear c19b1
                                        try clear c22
                                        try clear c22b0
                                        try clear c23
                                        try clear c23b0
                                        try clear c24
                                        try clear c24b0
                                        try clear p25
                                        try clear q25
                                        try clear hx25
                                        try clear c27
                                        try clear c28
                                        try clear c28b0
                                        try clear c28b1
                                        try clear c29
                                        try clear c29b0
                                        try clear c29b1
                                        try clear c32
                                        try clear c32b0
                                        try clear c33
                                        try clear hcz10_0
                                        try clear hcz10_1
                                        try clear hcz10_2
                                        try clear hcz34_0
                                        try clear hcz34_1
                                        try clear hcz34_2
                                        try clear hcz7_0
                                        try clear hcz7_1
                                        try clear hcz7_2
                                        try clear hfz10_0
                                        try clear hfz10_1
                                        try clear hfz10_2
                                        try clear hfz34_0
                                        try clear hfz34_1
                                        try clear hfz34_2
                                        try clear hfz7_0
                                        try clear hfz7_1
                                        try clear hfz7_2
                                        try clear p2
                                        try clear p25
                                        try clear p5
                                        try clear p6
                                        try clear p8
                                        try clear q2
                                        try clear q25
                                        try clear q5
                                        try clear q8
                                        obtain ⟨x8_5, x440000_5, x440001_5, x440002_5, rfl, HA, HK5, BK439, HB⟩ := hrel
                                        cases gk with
                                        | zero => exact absurd HA.out (by simp [shibbolethref22_Parse.l1])
                                        | succ k5 =>
                                          have H := HA.out
                                          clear HA
                                          simp only [shibbolethref22_Parse.l1] at H
                                          by_cases c35 : x8_5 < (wrap64 ((wrap64 (t444 + 1)) - 1))
                                          · rw [if_pos c35] at H
                                            have c35b0 : decide (x8_5 < (wrap64 ((wrap64 (t444 + 1)) - 1))) = true := decide_eq_true c35
                                            clear c35
                                            by_cases c36 : 0 ≤ x8_5
                                            · rw [if_pos c36] at H
                                              have c36b0 : decide (0 ≤ x8_5) = true := decide_eq_true c36
                                              clear c36
                                              by_cases c37 : x8_5 < (a0.size : Int)
                                              · rw [if_pos c37] at H
                                                have c37b0 : decide (x8_5 < (a0.size : Int)) = true := decide_eq_true c37
                                                clear c37
                                                replace H := Option.bind_eq_some_iff.mp H
                                                obtain ⟨t445, A390, H⟩ := H
                                                replace H : (if t445 = true then (shibbolethref22_Parse.l1 k5 a0 x4_15 t441 (wrap64 (t444 + 1)) (wrap64 (x8_5 + 1))) else ((shibbolethref22_is.f k5 (bt a0 x8_5) (⟨#[58, 46]⟩ : ByteArray)).bind fun t446 => (if t446 = true then (shibbolethref22_Parse.l1 k5 a0 x4_15 t441 (wrap64 (t444 + 1)) (wrap64 (x8_5 + 1))) else (some (false, (⟨#[]⟩ : ByteArray), (⟨#[]⟩ : ByteArray)))))) = some (r1, r2, r3) := H
                                                have A39 := Aside0.mk A390
                                                clear A390
                                                by_cases c40 : t445 = true
                                                · subst c40
                                                  have H1 : (shibbolethref22_Parse.l1 k5 a0 x4_15 t441 (wrap64 (t444 + 1)) (wrap64 (x8_5 + 1))) = some (r1, r2, r3) := by rw [if_pos rfl] at H; exact H
                                                  clear H
                                                  have H := H1
                                                  clear H1
                                                  have H' := Aside0.mk H
                                                  clear H
                                                  have p38 : 0 ≤ (x8_5 : Int) := of_decide_eq_true (by first | (with_reducible assumption) | assumption)
                                                  have q38 : x8_5 < (a0.size : Int) := of_decide_eq_true (by first | (with_reducible assumption) | assumption)
                                                  have hx38 := bt_at a0 x8_5
                                                  replace p38 := eq_true p38
                                                  replace q38 := eq_true q38
                                                  go_wp2_with (first | ((with_reducible refine gate_callee (f := 42) rfl ?_); refine goesL_ (some 83) rfl rfl Try.func42 (by kernel_rfl) rfl #[.int .u8 (bt a0 x8_5)] rfl (by (try simp only [List.map_toArray, List.map_cons, List.map_nil]); first | done | rfl | (simp only [List.length_drop, List.length_take]; rfl)) ?_; (with_reducible refine (shibbolethref22_hex.calls (bt a0 x8_5) true _ A39.out).mono ?_); rintro e w' ⟨rfl, ⟨nd, rfl⟩⟩; refine ⟨_, rfl, ?_⟩))
                                                  go_roundg k5
                                                  case measure => have := HK1.out; have := HJ15.out; have := HJ20.out; have := HJ30.out; have := HK5.out; omega
                                                  case rel => exact ⟨(wrap64 (x8_5 + 1)), (x440000_5), (x440001_5), (x440002_5), (by first | rfl | (simp; done) | (simp [*]; done)), H', ⟨by have := HK1.out; have := HJ15.out; have := HJ20.out; have := HJ30.out; have := HK5.out; omega⟩, ⟨by (with_reducible repeat (first | refine blk_drewN ?_ _ | refine blk_drew ?_ | refine blk_alloc ?_ _)); exact BK439.out⟩, ⟨by repeat (first | (with_reducible first | exact HB.out | apply below_alloc | apply pw_below_drewN | apply below_drew1 | refine below_set ?_ GE439.out) | exact HB.out)⟩⟩
                                                · replace c40 := Bool.eq_false_iff.mpr c40
                                                  subst c40
                                                  have H1 : ((shibbolethref22_is.f k5 (bt a0 x8_5) (⟨#[58, 46]⟩ : ByteArray)).bind fun t446 => (if t446 = true then (shibbolethref22_Parse.l1 k5 a0 x4_15 t441 (wrap64 (t444 + 1)) (wrap64 (x8_5 + 1))) else (some (false, (⟨#[]⟩ : ByteArray), (⟨#[]⟩ : ByteArray))))) = some (r1, r2, r3) := by rw [if_neg (show ¬ (false = true) by decide)] at H; exact H
                                                  clear H
                                                  have H := H1
                                                  clear H1
                                                  replace H := Option.bind_eq_some_iff.mp H
                                                  obtain ⟨t446, A420, H⟩ := H
                                                  replace H : (if t446 = true then (shibbolethref22_Parse.l1 k5 a0 x4_15 t441 (wrap64 (t444 + 1)) (wrap64 (x8_5 + 1))) else (some (false, (⟨#[]⟩ : ByteArray), (⟨#[]⟩ : ByteArray)))) = some (r1, r2, r3) := H
                                                  have A42 := Aside0.mk A420
                                                  clear A420
                                                  by_cases c43 : t446 = true
                                                  · subst c43
                                                    have H1 : (shibbolethref22_Parse.l1 k5 a0 x4_15 t441 (wrap64 (t444 + 1)) (wrap64 (x8_5 + 1))) = some (r1, r2, r3) := by rw [if_pos rfl] at H; exact H
                                                    clear H
                                                    have H := H1
                                                    clear H1
                                                    have H' := Aside0.mk H
                                                    clear H
                                                    have p38 : 0 ≤ (x8_5 : Int) := of_decide_eq_true (by first | (with_reducible assumption) | assumption)
                                                    have q38 : x8_5 < (a0.size : Int) := of_decide_eq_true (by first | (with_reducible assumption) | assumption)
                                                    have hx38 := bt_at a0 x8_5
                                                    replace p38 := eq_true p38
                                                    replace q38 := eq_true q38
                                                    go_wp2_with (first | ((with_reducible refine gate_callee (f := 42) rfl ?_); refine goesL_ (some 83) rfl rfl Try.func42 (by kernel_rfl) rfl #[.int .u8 (bt a0 x8_5)] rfl (by (try simp only [List.map_toArray, List.map_cons, List.map_nil]); first | done | rfl | (simp only [List.length_drop, List.length_take]; rfl)) ?_; (with_reducible refine (shibbolethref22_hex.calls (bt a0 x8_5) false _ A39.out).mono ?_); rintro e w' ⟨rfl, ⟨nd, rfl⟩⟩; refine ⟨_, rfl, ?_⟩; have p41 : 0 ≤ (x8_5 : Int) := of_decide_eq_true (by first | (with_reducible assumption) | assumption); have q41 : x8_5 < (a0.size : Int) := of_decide_eq_true (by first | (with_reducible assumption) | assumption); have hx41 := bt_at a0 x8_5; replace p41 := eq_true p41; replace q41 := eq_true q41) | (go_at_call 43; (with_reducible refine (shibbolethref22_is.calls k5 (bt a0 x8_5) (⟨#[58, 46]⟩ : ByteArray) true _ A42.out).mono ?_); rintro e w' ⟨rfl, ⟨nd, rfl⟩⟩))
                                                    go_roundg k5
                                                    case measure => have := HK1.out; have := HJ15.out; have := HJ20.out; have := HJ30.out; have := HK5.out; omega
                                                    case rel => exact ⟨(wrap64 (x8_5 + 1)), (x440000_5), (x440001_5), (x440002_5), (by first | rfl | (simp; done) | (simp [*]; done)), H', ⟨by have := HK1.out; have := HJ15.out; have := HJ20.out; have := HJ30.out; have := HK5.out; omega⟩, ⟨by (with_reducible repeat (first | refine blk_drewN ?_ _ | refine blk_drew ?_ | refine blk_alloc ?_ _)); exact BK439.out⟩, ⟨by repeat (first | (with_reducible first | exact HB.out | apply below_alloc | apply pw_below_drewN | apply below_drew1 | refine below_set ?_ GE439.out) | exact HB.out)⟩⟩
                                                  · replace c43 := Bool.eq_false_iff.mpr c43
                                                    subst c43
                                                    have H1 : (some (false, (⟨#[]⟩ : ByteArray), (⟨#[]⟩ : ByteArray))) = some (r1, r2, r3) := by rw [if_neg (show ¬ (false = true) by decide)] at H; exact H
                                                    clear H
                                                    have H := H1
                                                    clear H1
                                                    simp only [Option.some.injEq, Prod.mk.injEq] at H
                                                    obtain ⟨rfl, rfl, rfl⟩ := H
                                                    have p38 : 0 ≤ (x8_5 : Int) := of_decide_eq_true (by first | (with_reducible assumption) | assumption)
                                                    have q38 : x8_5 < (a0.size : Int) := of_decide_eq_true (by first | (with_reducible assumption) | assumption)
                                                    have hx38 := bt_at a0 x8_5
                                                    replace p38 := eq_true p38
                                                    replace q38 := eq_true q38
                                                    go_wp2_with (first | ((with_reducible refine gate_callee (f := 42) rfl ?_); refine goesL_ (some 83) rfl rfl Try.func42 (by kernel_rfl) rfl #[.int .u8 (bt a0 x8_5)] rfl (by (try simp only [List.map_toArray, List.map_cons, List.map_nil]); first | done | rfl | (simp only [List.length_drop, List.length_take]; rfl)) ?_; (with_reducible refine (shibbolethref22_hex.calls (bt a0 x8_5) false _ A39.out).mono ?_); rintro e w' ⟨rfl, ⟨nd, rfl⟩⟩; refine ⟨_, rfl, ?_⟩; (try (rw [drewN_self wr]; generalize hq_ : World.drewN wr _ = wr; have n0_ : Aside0 (wr.heap[gb439]? = some (.cells #[.bool x440000_5, .string x440001_5, .string x440002_5] 24 (0, 0))) := ⟨by rw [← hq_]; exact (by (with_reducible repeat (first | refine blk_drewN ?_ _ | refine blk_drew ?_ | refine blk_alloc ?_ _)); exact BK439.out)⟩; have n1_ : Aside0 (Below w.heap.size w wr) := ⟨by rw [← hq_]; exact (by repeat (first | (with_reducible first | exact HB.out | apply below_alloc | apply pw_below_drewN | apply below_drew1 | refine below_set ?_ GE439.out) | exact HB.out))⟩; clear BK439 HB hq_; have BK439 := n0_; have HB := n1_; clear n0_ n1_)); have p41 : 0 ≤ (x8_5 : Int) := of_decide_eq_true (by first | (with_reducible assumption) | assumption); have q41 : x8_5 < (a0.size : Int) := of_decide_eq_true (by first | (with_reducible assumption) | assumption); have hx41 := bt_at a0 x8_5; replace p41 := eq_true p41; replace q41 := eq_true q41) | (go_at_call 43; (with_reducible refine (shibbolethref22_is.calls k5 (bt a0 x8_5) (⟨#[58, 46]⟩ : ByteArray) false _ A42.out).mono ?_); rintro e w' ⟨rfl, ⟨nd, rfl⟩⟩; (try (rw [drewN_self wr]; generalize hq_ : World.drewN wr _ = wr; have n0_ : Aside0 (wr.heap[gb439]? = some (.cells #[.bool x440000_5, .string x440001_5, .string x440002_5] 24 (0, 0))) := ⟨by rw [← hq_]; exact (by (with_reducible repeat (first | refine blk_drewN ?_ _ | refine blk_drew ?_ | refine blk_alloc ?_ _)); exact BK439.out)⟩; have n1_ : Aside0 (Below w.heap.size w wr) := ⟨by rw [← hq_]; exact (by repeat (first | (with_reducible first | exact HB.out | apply below_alloc | apply pw_below_drewN | apply below_drew1 | refine below_set ?_ GE439.out) | exact HB.out))⟩; clear BK439 HB hq_; have BK439 := n0_; have HB := n1_; clear n0_ n1_)); have hcz44_0 : wr.cell? ⟨gb439, 0, none⟩ = some (.bool x440000_5) := (blk_cell BK439.out 0).trans rfl; have hcz44_1 : wr.cell? ⟨gb439, 1, none⟩ = some (.string x440001_5) := (blk_cell BK439.out 1).trans rfl; have hcz44_2 : wr.cell? ⟨gb439, 2, none⟩ = some (.string x440002_5) := (blk_cell BK439.out 2).trans rfl; have hfz44_0 := blk_frozen BK439.out 0; have hfz44_1 := blk_frozen BK439.out 1; have hfz44_2 := blk_frozen BK439.out 2))
                                                    refine bodyPost_ret (results_cell_row rfl _ _ gb439 24 #[.bool false, .string (⟨#[]⟩ : ByteArray), .string (⟨#[]⟩ : ByteArray)] (0, 0) _ rfl (by (with_reducible repeat (first | refine blk_drewN ?_ _ | refine blk_drew ?_ | refine blk_alloc ?_ _)); refine blk_put (cs := #[.bool false, .string (⟨#[]⟩ : ByteArray), .string x440002_5]) ?_ 2 _ rfl; (with_reducible repeat (first | refine blk_drewN ?_ _ | refine blk_drew ?_ | refine blk_alloc ?_ _)); refine blk_put (cs := #[.bool false, .string x440001_5, .string x440002_5]) ?_ 1 _ rfl; (with_reducible repeat (first | refine blk_drewN ?_ _ | refine blk_drew ?_ | refine blk_alloc ?_ _)); refine blk_put (cs := #[.bool x440000_5, .string x440001_5, .string x440002_5]) ?_ 0 _ rfl; (with_reducible repeat (first | refine blk_drewN ?_ _ | refine blk_drew ?_ | refine blk_alloc ?_ _)); exact BK439.out) Try.underlying24 rfl (by kernel_rfl)) rfl ?_
                                                    exact ⟨by first | rfl | (simp [errW_none, errW_some] <;> rfl) | (simp [*, errW_none, errW_some] <;> rfl), by repeat (first | (with_reducible first | exact HB.out | apply below_alloc | apply pw_below_drewN | apply below_drew1 | refine below_set ?_ GE439.out) | exact HB.out)⟩
                                              · rw [if_neg c37] at H
                                                exact absurd H (by simp)
                                            · rw [if_neg c36] at H
                                              exact absurd H (by simp)
                                          · rw [if_neg c35] at H
                                            have c35b0 : decide (x8_5 < (wrap64 ((wrap64 (t444 + 1)) - 1))) = false := decide_eq_false c35
                                            clear c35
                                            have H' := Aside0.mk H
                                            clear H
                                            go_wp2
                                            go_meet
                                            case rel => exact ⟨_, ((wrap64 (t444 + 1))), (x440000_5), (x440001_5), (x440002_5), (by first | rfl | (simp; done) | (simp [*]; done)), H', ⟨by have := HK1.out; have := HJ15.out; have := HJ20.out; have := HJ30.out; have := HK5.out; first | omega | exact Nat.le_refl _⟩, ⟨by (with_reducible repeat (first | refine blk_drewN ?_ _ | refine blk_drew ?_ | refine blk_alloc ?_ _)); exact BK439.out⟩, ⟨by repeat (first | (with_reducible first | exact HB.out | apply below_alloc | apply pw_below_drewN | apply below_drew1 | refine below_set ?_ GE439.out) | exact HB.out)⟩⟩
                              · rw [if_neg c29] at H
                                exact absurd H (by simp)
                            · rw [if_neg c28] at H
                              exact absurd H (by simp)
                          · replace c27 := Bool.eq_false_iff.mpr c27
                            subst c27
                            have H1 : (shibbolethref22_Parse.j5 kj20 a0 x4_15 t441 t443) = some (r1, r2, r3) := by rw [if_neg (show ¬ (false = true) by decide)] at H; exact H
                            clear H
                            have H := H1
                            clear H1
                            have H' := Aside0.mk H
                            clear H
                            go_wp2
                            go_meet
                            case rel => exact ⟨_, (t443), (x440000_1), (x440001_1), (x440002_1), (by first | rfl | (simp; done) | (simp [*]; done)), H', ⟨by have := HK1.out; have := HJ15.out; have := HJ20.out; first | omega | exact Nat.le_refl _⟩, ⟨by (with_reducible repeat (first | refine blk_drewN ?_ _ | refine blk_drew ?_ | refine blk_alloc ?_ _)); exact BK439.out⟩, ⟨by repeat (first | (with_reducible first | exact HB.out | apply below_alloc | apply pw_below_drewN | apply below_drew1 | refine below_set ?_ GE439.out) | exact HB.out)⟩⟩
                        case rest =>
                          clear HC26
                          try clear c1
                          try clear c2
                          try clear p2
                          try clear q2
                          try clear hx2
                          try clear c3
                          try clear c3b0
                          try clear p3
                          try clear q3
                          try clear hx3
                          try clear c4
                          try clear c4b0
                          try clear p4
                          try clear q4
                          try clear hx4
                          try clear p5
                          try clear q5
                          try clear hx5
                          try clear c6
                          try clear c6b0
                          try clear p6
                          try clear p8
                          try clear q8
                          try clear hx8
                          try clear c9
                          try clear c9b0
                          try clear c9b1
                          try clear c13
                          try clear c13b0
                          try clear c13b1
                          try clear c14
                          try clear c14b0
                          try clear c14b1
                          try clear c17
                          try clear c17b0
                          try clear c18
                          try clear c18b0
                          try clear c18b1
                          try clear c19
                          try clear c19b0
                          try clear c19b1
                          try clear c22
                          try clear c22b0
                          try clear c23
                          try clear c23b0
                          try clear c24
                          try clear c24b0
                          try clear p25
                          try clear q25
                          try clear hx25
                          try clear c27
                          try clear c28
                          try clear c28b0
                          try clear c28b1
                          try clear c29
                          try clear c29b0
                          try clear c29b1
                          try clear c32
                          try clear c32b0
                          try clear c33
                          try clear c35
                          try clear c35b0
                          try clear c36
                          try clear c36b0
                          try clear c37
                          try clear c37b0
                          try clear p38
                          try clear q38
                          try clear hx38
                          try clear c40
                          try clear c41
                          try clear p41
                          try clear q41
                          try clear hx41
                          try clear c42
                          try clear c43
                          try clear hcz10_0
                          try clear hcz10_1
                          try clear hcz10_2
                          try clear hcz34_0
                          try clear hcz34_1
                          try clear hcz34_2
                          try clear hcz44_0
                          try clear hcz44_1
                          try clear hcz44_2
                          try clear hcz7_0
                          try clear hcz7_1
                          try clear hcz7_2
                          try clear hfz10_0
                          try clear hfz10_1
                          try clear hfz10_2
                          try clear hfz34_0
                          try clear hfz34_1
                          try clear hfz34_2
                          try clear hfz44_0
                          try clear hfz44_1
                          try clear hfz44_2
                          try clear hfz7_0
                          try clear hfz7_1
                          try clear hfz7_2
                          try clear p2
                          try clear p25
                          try clear p38
                          try clear p41
                          try clear p5
                          try clear p6
                          try clear p8
                          try clear q2
                          try clear q25
                          try clear q38
                          try clear q41
                          try clear q5
                          try clear q8
                          obtain ⟨kq, x7_25, x440000_25, x440001_25, x440002_25, rfl, HA, HJ25, BK439, HB⟩ := hcut
                          cases kq with
                          | zero => exact absurd HA.out (by simp [shibbolethref22_Parse.j5])
                          | succ kj25 =>
                            have H := HA.out
                            clear HA
                            simp only [shibbolethref22_Parse.j5] at H
                            by_cases c45 : x7_25 = x4_15
                            · rw [if_pos c45] at H
                              have c45b0 : (x7_25 == x4_15) = true := beq_iff_eq.mpr c45
                              have c45b1 : (x7_25 != x4_15) = false := bne_eq_false_iff_eq.mpr c45
                              clear c45
                              simp only [Option.some.injEq, Prod.mk.injEq] at H
                              obtain ⟨rfl, rfl, rfl⟩ := H
                              have hcz46_0 : wc.cell? ⟨gb439, 0, none⟩ = some (.bool x440000_25) := (blk_cell BK439.out 0).trans rfl
                              have hcz46_1 : wc.cell? ⟨gb439, 1, none⟩ = some (.string x440001_25) := (blk_cell BK439.out 1).trans rfl
                              have hcz46_2 : wc.cell? ⟨gb439, 2, none⟩ = some (.string x440002_25) := (blk_cell BK439.out 2).trans rfl
                              have hfz46_0 := blk_frozen BK439.out 0
                              have hfz46_1 := blk_frozen BK439.out 1
                              have hfz46_2 := blk_frozen BK439.out 2
                              go_wp2
                              refine bodyPost_ret (results_cell_row rfl _ _ gb439 24 #[.bool false, .string (⟨#[]⟩ : ByteArray), .string (⟨#[]⟩ : ByteArray)] (0, 0) _ rfl (by (with_reducible repeat (first | refine blk_drewN ?_ _ | refine blk_drew ?_ | refine blk_alloc ?_ _)); refine blk_put (cs := #[.bool false, .string (⟨#[]⟩ : ByteArray), .string x440002_25]) ?_ 2 _ rfl; (with_reducible repeat (first | refine blk_drewN ?_ _ | refine blk_drew ?_ | refine blk_alloc ?_ _)); refine blk_put (cs := #[.bool false, .string x440001_25, .string x440002_25]) ?_ 1 _ rfl; (with_reducible repeat (first | refine blk_drewN ?_ _ | refine blk_drew ?_ | refine blk_alloc ?_ _)); refine blk_put (cs := #[.bool x440000_25, .string x440001_25, .string x440002_25]) ?_ 0 _ rfl; (with_reducible repeat (first | refine blk_drewN ?_ _ | refine blk_drew ?_ | refine blk_alloc ?_ _)); exact BK439.out) Try.underlying24 rfl (by kernel_rfl)) rfl ?_
                              exact ⟨by first | rfl | (simp [errW_none, errW_some] <;> rfl) | (simp [*, errW_none, errW_some] <;> rfl), by repeat (first | (with_reducible first | exact HB.out | apply below_alloc | apply pw_below_drewN | apply below_drew1 | refine below_set ?_ GE439.out) | exact HB.out)⟩
                            · rw [if_neg c45] at H
                              have c45b0 : (x7_25 == x4_15) = false := beq_eq_false_iff_ne.mpr c45
                              have c45b1 : (x7_25 != x4_15) = true := bne_iff_ne.mpr c45
                              have H' := Aside0.mk H
                              clear H
                              go_wp2
                              go_loopg [9] kj25 (fun kq v9 w' => ∃ (x9_5 : Int) (x440000_5 : Bool) (x440001_5 : ByteArray) (x440002_5 : ByteArray), v9 = .int .i64 x9_5 ∧ Aside0 (shibbolethref22_Parse.l2 kq a0 x4_15 t441 x7_25 x9_5 = some (r1, r2, r3)) ∧ Aside0 (kq ≤ kj25) ∧ Aside0 (w'.heap[gb439]? = some (.cells #[.bool x440000_5, .string x440001_5, .string x440002_5] 24 (0, 0))) ∧ Aside0 (Below w.heap.size w w'))
                              case atStart => exact ⟨(x7_25), (x440000_25), (x440001_25), (x440002_25), (by first | rfl | (simp; done) | (simp [*]; done)), H', ⟨Nat.le_refl _⟩, ⟨by (with_reducible repeat (first | refine blk_drewN ?_ _ | refine blk_drew ?_ | refine blk_alloc ?_ _)); exact BK439.out⟩, ⟨by repeat (first | (with_reducible first | exact HB.out | apply below_alloc | apply pw_below_drewN | apply below_drew1 | refine below_set ?_ GE439.out) | exact HB.out)⟩⟩
                              case round =>
                                clear H'
                                try clear c1
                                try clear c2
                                try clear p2
                                try clear q2
                                try clear hx2
                                try clear c3
                                try clear c3b0
                                try clear p3
                                try clear q3
                                try clear hx3
                                try clear c4
                                try clear c4b0
                                try clear p4
                                try clear q4
                                try clear hx4
                                try clear p5
                                try clear q5
                                try clear hx5
                                try clear c6
                                try clear c6b0
                                try clear p6
                                try clear p8
                                try clear q8
                                try clear hx8
                                try clear c9
                                try clear c9b0
                                try clear c9b1
                                try clear c13
                                try clear c13b0
                                try clear c13b1
                                try clear c14
                                try clear c14b0
                                try clear c14b1
                                try clear c17
                                try clear c17b0
                                try clear c18
                                try clear c18b0
                                try clear c18b1
                                try clear c19
                                try clear c19b0
                                try clear c19b1
                                try clear c22
                                try clear c22b0
                                try clear c23
                                try clear c23b0
                                try clear c24
                                try clear c24b0
                                try clear p25
                                try clear q25
                                try clear hx25
                                try clear c27
                                try clear c28
                                try clear c28b0
                                try clear c28b1
                                try clear c29
                                try clear c29b0
                                try clear c29b1
                                try clear c32
                                try clear c32b0
                                try clear c33
                                try clear c35
                                try clear c35b0
                                try clear c36
                                try clear c36b0
                                try clear c37
                                try clear c37b0
                                try clear p38
                                try clear q38
                                try clear hx38
                                try clear c40
                                try clear c41
                                try clear p41
                                try clear q41
                                try clear hx41
                                try clear c42
                                try clear c43
                                try clear c45
                                try clear c45b0
                                try clear c45b1
                                try clear hcz10_0
                                try clear hcz10_1
                                try clear hcz10_2
                                try clear hcz34_0
                                try clear hcz34_1
                                try clear hcz34_2
                                try clear hcz44_0
                                try clear hcz44_1
                                try clear hcz44_2
                                try clear hcz46_0
                                try clear hcz46_1
                                try clear hcz46_2
                                try clear hcz7_0
                                try clear hcz7_1
                                try clear hcz7_2
                                try clear hfz10_0
                                try clear hfz10_1
                                try clear hfz10_2
                                try clear hfz34_0
                                try clear hfz34_1
                                try clear hfz34_2
                                try clear hfz44_0
                                try clear hfz44_1
                                try clear hfz44_2
                                try clear hfz46_0
                                try clear hfz46_1
                                try clear hfz46_2
                                try clear hfz7_0
                                try clear hfz7_1
                                try clear hfz7_2
                                try clear p2
                                try clear p25
                                try clear p3
                                try clear p38
                                try clear p4
                                try clear p41
                                try clear p5
                                try clear p6
                                try clear p8
                                try clear q2
                                try clear q25
                                try clear q3
                                try clear q38
                                try clear q4
                                try clear q41
                                try clear q5
                                try clear q8
                                obtain ⟨x9_5, x440000_5, x440001_5, x440002_5, rfl, HA, HK5, BK439, HB⟩ := hrel
                                cases gk with
                                | zero => exact absurd HA.out (by simp [shibbolethref22_Parse.l2])
                                | succ k5 =>
                                  have H := HA.out
                                  clear HA
                                  simp only [shibbolethref22_Parse.l2] at H
                                  by_cases c47 : x9_5 < t441
                                  · rw [if_pos c47] at H
                                    have c47b0 : decide (x9_5 < t441) = true := decide_eq_true c47
                                    clear c47
                                    by_cases c48 : x9_5 = x7_25
                                    · rw [if_pos c48] at H
                                      have c48b0 : (x9_5 == x7_25) = true := beq_iff_eq.mpr c48
                                      have c48b1 : (x9_5 != x7_25) = false := bne_eq_false_iff_eq.mpr c48
                                      clear c48
                                      by_cases c49 : 0 ≤ x9_5
                                      · rw [if_pos c49] at H
                                        have c49b0 : decide (0 ≤ x9_5) = true := decide_eq_true c49
                                        clear c49
                                        by_cases c50 : x9_5 < (a0.size : Int)
                                        · rw [if_pos c50] at H
                                          have c50b0 : decide (x9_5 < (a0.size : Int)) = true := decide_eq_true c50
                                          clear c50
                                          by_cases c52 : (bt a0 x9_5) = 58
                                          · rw [if_pos c52] at H
                                            have c52b0 : ((bt a0 x9_5) == 58) = true := beq_iff_eq.mpr c52
                                            have c52b1 : ((bt a0 x9_5) != 58) = false := bne_eq_false_iff_eq.mpr c52
                                            clear c52
                                            by_cases c53 : x9_5 > x7_25
                                            · rw [if_pos c53] at H
                                              have c53b0 : decide (x7_25 < x9_5) = true := decide_eq_true c53
                                              clear c53
                                              replace H := Option.bind_eq_some_iff.mp H
                                              obtain ⟨t447, A550, H⟩ := H
                                              replace H : (if t447 = true then (shibbolethref22_Parse.l2 k5 a0 x4_15 t441 x7_25 (wrap64 (x9_5 + 1))) else (some (false, (⟨#[]⟩ : ByteArray), (⟨#[]⟩ : ByteArray)))) = some (r1, r2, r3) := H
                                              have A55 := Aside0.mk A550
                                              clear A550
                                              by_cases c56 : t447 = true
                                              · subst c56
                                                have H1 : (shibbolethref22_Parse.l2 k5 a0 x4_15 t441 x7_25 (wrap64 (x9_5 + 1))) = some (r1, r2, r3) := by rw [if_pos rfl] at H; exact H
                                                clear H
                                                have H := H1
                                                clear H1
                                                have H' := Aside0.mk H
                                                clear H
                                                have p51 : 0 ≤ (x9_5 : Int) := of_decide_eq_true (by first | (with_reducible assumption) | assumption)
                                                have q51 : x9_5 < (a0.size : Int) := of_decide_eq_true (by first | (with_reducible assumption) | assumption)
                                                have hx51 := bt_at a0 x9_5
                                                replace p51 := eq_true p51
                                                replace q51 := eq_true q51
                                                have p54 : 0 ≤ (x9_5 : Int) := of_decide_eq_true (by first | (with_reducible assumption) | assumption)
                                                have q54 : x9_5 < (a0.size : Int) := of_decide_eq_true (by first | (with_reducible assumption) | assumption)
                                                have hx54 := bt_at a0 x9_5
                                                replace p54 := eq_true p54
                                                replace q54 := eq_true q54
                                                go_wp2_with (first | (go_at_call 44; (with_reducible refine (shibbolethref22_digit.calls (bt a0 x9_5) true _ A55.out).mono ?_); rintro e w' ⟨rfl, ⟨nd, rfl⟩⟩))
                                                go_roundg k5
                                                case measure => have := HK1.out; have := HJ15.out; have := HJ20.out; have := HJ25.out; have := HK5.out; omega
                                                case rel => exact ⟨(wrap64 (x9_5 + 1)), (x440000_5), (x440001_5), (x440002_5), (by first | rfl | (simp; done) | (simp [*]; done)), H', ⟨by have := HK1.out; have := HJ15.out; have := HJ20.out; have := HJ25.out; have := HK5.out; omega⟩, ⟨by (with_reducible repeat (first | refine blk_drewN ?_ _ | refine blk_drew ?_ | refine blk_alloc ?_ _)); exact BK439.out⟩, ⟨by repeat (first | (with_reducible first | exact HB.out | apply below_alloc | apply pw_below_drewN | apply below_drew1 | refine below_set ?_ GE439.out) | exact HB.out)⟩⟩
                                              · replace c56 := Bool.eq_false_iff.mpr c56
                                                subst c56
                                                have H1 : (some (false, (⟨#[]⟩ : ByteArray), (⟨#[]⟩ : ByteArray))) = some (r1, r2, r3) := by rw [if_neg (show ¬ (false = true) by decide)] at H; exact H
                                                clear H
                                                have H := H1
                                                clear H1
                                                simp only [Option.some.injEq, Prod.mk.injEq] at H
                                                obtain ⟨rfl, rfl, rfl⟩ := H
                                                have p51 : 0 ≤ (x9_5 : Int) := of_decide_eq_true (by first | (with_reducible assumption) | assumption)
                                                have q51 : x9_5 < (a0.size : Int) := of_decide_eq_true (by first | (with_reducible assumption) | assumption)
                                                have hx51 := bt_at a0 x9_5
                                                replace p51 := eq_true p51
                                                replace q51 := eq_true q51
                                                have p54 : 0 ≤ (x9_5 : Int) := of_decide_eq_true (by first | (with_reducible assumption) | assumption)
                                                have q54 : x9_5 < (a0.size : Int) := of_decide_eq_true (by first | (with_reducible assumption) | assumption)
                                                have hx54 := bt_at a0 x9_5
                                                replace p54 := eq_true p54
                                                replace q54 := eq_true q54
                                                go_wp2_with (first | (go_at_call 44; (with_reducible refine (shibbolethref22_digit.calls (bt a0 x9_5) false _ A55.out).mono ?_); rintro e w' ⟨rfl, ⟨nd, rfl⟩⟩; (try (rw [drewN_self wr]; generalize hq_ : World.drewN wr _ = wr; have n0_ : Aside0 (wr.heap[gb439]? = some (.cells #[.bool x440000_5, .string x440001_5, .string x440002_5] 24 (0, 0))) := ⟨by rw [← hq_]; exact (by (with_reducible repeat (first | refine blk_drewN ?_ _ | refine blk_drew ?_ | refine blk_alloc ?_ _)); exact BK439.out)⟩; have n1_ : Aside0 (Below w.heap.size w wr) := ⟨by rw [← hq_]; exact (by repeat (first | (with_reducible first | exact HB.out | apply below_alloc | apply pw_below_drewN | apply below_drew1 | refine below_set ?_ GE439.out) | exact HB.out))⟩; clear BK439 HB hq_; have BK439 := n0_; have HB := n1_; clear n0_ n1_)); have hcz57_0 : wr.cell? ⟨gb439, 0, none⟩ = some (.bool x440000_5) := (blk_cell BK439.out 0).trans rfl; have hcz57_1 : wr.cell? ⟨gb439, 1, none⟩ = some (.string x440001_5) := (blk_cell BK439.out 1).trans rfl; have hcz57_2 : wr.cell? ⟨gb439, 2, none⟩ = some (.string x440002_5) := (blk_cell BK439.out 2).trans rfl; have hfz57_0 := blk_frozen BK439.out 0; have hfz57_1 := blk_frozen BK439.out 1; have hfz57_2 := blk_frozen BK439.out 2))
                                                refine bodyPost_ret (results_cell_row rfl _ _ gb439 24 #[.bool false, .string (⟨#[]⟩ : ByteArray), .string (⟨#[]⟩ : ByteArray)] (0, 0) _ rfl (by (with_reducible repeat (first | refine blk_drewN ?_ _ | refine blk_drew ?_ | refine blk_alloc ?_ _)); refine blk_put (cs := #[.bool false, .string (⟨#[]⟩ : ByteArray), .string x440002_5]) ?_ 2 _ rfl; (with_reducible repeat (first | refine blk_drewN ?_ _ | refine blk_drew ?_ | refine blk_alloc ?_ _)); refine blk_put (cs := #[.bool false, .string x440001_5, .string x440002_5]) ?_ 1 _ rfl; (with_reducible repeat (first | refine blk_drewN ?_ _ | refine blk_drew ?_ | refine blk_alloc ?_ _)); refine blk_put (cs := #[.bool x440000_5, .string x440001_5, .string x440002_5]) ?_ 0 _ rfl; (with_reducible repeat (first | refine blk_drewN ?_ _ | refine blk_drew ?_ | refine blk_alloc ?_ _)); exact BK439.out) Try.underlying24 rfl (by kernel_rfl)) rfl ?_
                                                exact ⟨by first | rfl | (simp [errW_none, errW_some] <;> rfl) | (simp [*, errW_none, errW_some] <;> rfl), by repeat (first | (with_reducible first | exact HB.out | apply below_alloc | apply pw_below_drewN | apply below_drew1 | refine below_set ?_ GE439.out) | exact HB.out)⟩
                                            · rw [if_neg c53] at H
                                              have c53b0 : decide (x7_25 < x9_5) = false := decide_eq_false c53
                                              clear c53
                                              have H' := Aside0.mk H
                                              clear H
                                              have p51 : 0 ≤ (x9_5 : Int) := of_decide_eq_true (by first | (with_reducible assumption) | assumption)
                                              have q51 : x9_5 < (a0.size : Int) := of_decide_eq_true (by first | (with_reducible assumption) | assumption)
                                              have hx51 := bt_at a0 x9_5
                                              replace p51 := eq_true p51
                                              replace q51 := eq_true q51
                                              go_wp2
                                              go_roundg k5
                                              case measure => have := HK1.out; have := HJ15.out; have := HJ20.out; have := HJ25.out; have := HK5.out; omega
                                              case rel => exact ⟨(wrap64 (x9_5 + 1)), (x440000_5), (x440001_5), (x440002_5), (by first | rfl | (simp; done) | (simp [*]; done)), H', ⟨by have := HK1.out; have := HJ15.out; have := HJ20.out; have := HJ25.out; have := HK5.out; omega⟩, ⟨by (with_reducible repeat (first | refine blk_drewN ?_ _ | refine blk_drew ?_ | refine blk_alloc ?_ _)); exact BK439.out⟩, ⟨by repeat (first | (with_reducible first | exact HB.out | apply below_alloc | apply pw_below_drewN | apply below_drew1 | refine below_set ?_ GE439.out) | exact HB.out)⟩⟩
                                          · rw [if_neg c52] at H
                                            have c52b0 : ((bt a0 x9_5) == 58) = false := beq_eq_false_iff_ne.mpr c52
                                            have c52b1 : ((bt a0 x9_5) != 58) = true := bne_iff_ne.mpr c52
                                            simp only [Option.some.injEq, Prod.mk.injEq] at H
                                            obtain ⟨rfl, rfl, rfl⟩ := H
                                            have p51 : 0 ≤ (x9_5 : Int) := of_decide_eq_true (by first | (with_reducible assumption) | assumption)
                                            have q51 : x9_5 < (a0.size : Int) := of_decide_eq_true (by first | (with_reducible assumption) | assumption)
                                            have hx51 := bt_at a0 x9_5
                                            replace p51 := eq_true p51
                                            replace q51 := eq_true q51
                                            have hcz58_0 : wr.cell? ⟨gb439, 0, none⟩ = some (.bool x440000_5) := (blk_cell BK439.out 0).trans rfl
                                            have hcz58_1 : wr.cell? ⟨gb439, 1, none⟩ = some (.string x440001_5) := (blk_cell BK439.out 1).trans rfl
                                            have hcz58_2 : wr.cell? ⟨gb439, 2, none⟩ = some (.string x440002_5) := (blk_cell BK439.out 2).trans rfl
                                            have hfz58_0 := blk_frozen BK439.out 0
                                            have hfz58_1 := blk_frozen BK439.out 1
                                            have hfz58_2 := blk_frozen BK439.out 2
                                            go_wp2
                                            refine bodyPost_ret (results_cell_row rfl _ _ gb439 24 #[.bool false, .string (⟨#[]⟩ : ByteArray), .string (⟨#[]⟩ : ByteArray)] (0, 0) _ rfl (by (with_reducible repeat (first | refine blk_drewN ?_ _ | refine blk_drew ?_ | refine blk_alloc ?_ _)); refine blk_put (cs := #[.bool false, .string (⟨#[]⟩ : ByteArray), .string x440002_5]) ?_ 2 _ rfl; (with_reducible repeat (first | refine blk_drewN ?_ _ | refine blk_drew ?_ | refine blk_alloc ?_ _)); refine blk_put (cs := #[.bool false, .string x440001_5, .string x440002_5]) ?_ 1 _ rfl; (with_reducible repeat (first | refine blk_drewN ?_ _ | refine blk_drew ?_ | refine blk_alloc ?_ _)); refine blk_put (cs := #[.bool x440000_5, .string x440001_5, .string x440002_5]) ?_ 0 _ rfl; (with_reducible repeat (first | refine blk_drewN ?_ _ | refine blk_drew ?_ | refine blk_alloc ?_ _)); exact BK439.out) Try.underlying24 rfl (by kernel_rfl)) rfl ?_
                                            exact ⟨by first | rfl | (simp [errW_none, errW_some] <;> rfl) | (simp [*, errW_none, errW_some] <;> rfl), by repeat (first | (with_reducible first | exact HB.out | apply below_alloc | apply pw_below_drewN | apply below_drew1 | refine below_set ?_ GE439.out) | exact HB.out)⟩
                                        · rw [if_neg c50] at H
                                          exact absurd H (by simp)
                                      · rw [if_neg c49] at H
                                        exact absurd H (by simp)
                                    · rw [if_neg c48] at H
                                      have c48b0 : (x9_5 == x7_25) = false := beq_eq_false_iff_ne.mpr c48
                                      have c48b1 : (x9_5 != x7_25) = true := bne_iff_ne.mpr c48
                                      by_cases c59 : x9_5 > x7_25
                                      · rw [if_pos c59] at H
                                        have c59b0 : decide (x7_25 < x9_5) = true := decide_eq_true c59
                                        clear c59
                                        by_cases c60 : 0 ≤ x9_5
                                        · rw [if_pos c60] at H
                                          have c60b0 : decide (0 ≤ x9_5) = true := decide_eq_true c60
                                          clear c60
                                          by_cases c61 : x9_5 < (a0.size : Int)
                                          · rw [if_pos c61] at H
                                            have c61b0 : decide (x9_5 < (a0.size : Int)) = true := decide_eq_true c61
                                            clear c61
                                            replace H := Option.bind_eq_some_iff.mp H
                                            obtain ⟨t448, A630, H⟩ := H
                                            replace H : (if t448 = true then (shibbolethref22_Parse.l2 k5 a0 x4_15 t441 x7_25 (wrap64 (x9_5 + 1))) else (some (false, (⟨#[]⟩ : ByteArray), (⟨#[]⟩ : ByteArray)))) = some (r1, r2, r3) := H
                                            have A63 := Aside0.mk A630
                                            clear A630
                                            by_cases c64 : t448 = true
                                            · subst c64
                                              have H1 : (shibbolethref22_Parse.l2 k5 a0 x4_15 t441 x7_25 (wrap64 (x9_5 + 1))) = some (r1, r2, r3) := by rw [if_pos rfl] at H; exact H
                                              clear H
                                              have H := H1
                                              clear H1
                                              have H' := Aside0.mk H
                                              clear H
                                              have p62 : 0 ≤ (x9_5 : Int) := of_decide_eq_true (by first | (with_reducible assumption) | assumption)
                                              have q62 : x9_5 < (a0.size : Int) := of_decide_eq_true (by first | (with_reducible assumption) | assumption)
                                              have hx62 := bt_at a0 x9_5
                                              replace p62 := eq_true p62
                                              replace q62 := eq_true q62
                                              go_wp2_with (first | (go_at_call 44; (with_reducible refine (shibbolethref22_digit.calls (bt a0 x9_5) true _ A63.out).mono ?_); rintro e w' ⟨rfl, ⟨nd, rfl⟩⟩))
                                              go_roundg k5
                                              case measure => have := HK1.out; have := HJ15.out; have := HJ20.out; have := HJ25.out; have := HK5.out; omega
                                              case rel => exact ⟨(wrap64 (x9_5 + 1)), (x440000_5), (x440001_5), (x440002_5), (by first | rfl | (simp; done) | (simp [*]; done)), H', ⟨by have := HK1.out; have := HJ15.out; have := HJ20.out; have := HJ25.out; have := HK5.out; omega⟩, ⟨by (with_reducible repeat (first | refine blk_drewN ?_ _ | refine blk_drew ?_ | refine blk_alloc ?_ _)); exact BK439.out⟩, ⟨by repeat (first | (with_reducible first | exact HB.out | apply below_alloc | apply pw_below_drewN | apply below_drew1 | refine below_set ?_ GE439.out) | exact HB.out)⟩⟩
                                            · replace c64 := Bool.eq_false_iff.mpr c64
                                              subst c64
                                              have H1 : (some (false, (⟨#[]⟩ : ByteArray), (⟨#[]⟩ : ByteArray))) = some (r1, r2, r3) := by rw [if_neg (show ¬ (false = true) by decide)] at H; exact H
                                              clear H
                                              have H := H1
                                              clear H1
                                              simp only [Option.some.injEq, Prod.mk.injEq] at H
                                              obtain ⟨rfl, rfl, rfl⟩ := H
                                              have p62 : 0 ≤ (x9_5 : Int) := of_decide_eq_true (by first | (with_reducible assumption) | assumption)
                                              have q62 : x9_5 < (a0.size : Int) := of_decide_eq_true (by first | (with_reducible assumption) | assumption)
                                              have hx62 := bt_at a0 x9_5
                                              replace p62 := eq_true p62
                                              replace q62 := eq_true q62
                                              go_wp2_with (first | (go_at_call 44; (with_reducible refine (shibbolethref22_digit.calls (bt a0 x9_5) false _ A63.out).mono ?_); rintro e w' ⟨rfl, ⟨nd, rfl⟩⟩; (try (rw [drewN_self wr]; generalize hq_ : World.drewN wr _ = wr; have n0_ : Aside0 (wr.heap[gb439]? = some (.cells #[.bool x440000_5, .string x440001_5, .string x440002_5] 24 (0, 0))) := ⟨by rw [← hq_]; exact (by (with_reducible repeat (first | refine blk_drewN ?_ _ | refine blk_drew ?_ | refine blk_alloc ?_ _)); exact BK439.out)⟩; have n1_ : Aside0 (Below w.heap.size w wr) := ⟨by rw [← hq_]; exact (by repeat (first | (with_reducible first | exact HB.out | apply below_alloc | apply pw_below_drewN | apply below_drew1 | refine below_set ?_ GE439.out) | exact HB.out))⟩; clear BK439 HB hq_; have BK439 := n0_; have HB := n1_; clear n0_ n1_)); have hcz65_0 : wr.cell? ⟨gb439, 0, none⟩ = some (.bool x440000_5) := (blk_cell BK439.out 0).trans rfl; have hcz65_1 : wr.cell? ⟨gb439, 1, none⟩ = some (.string x440001_5) := (blk_cell BK439.out 1).trans rfl; have hcz65_2 : wr.cell? ⟨gb439, 2, none⟩ = some (.string x440002_5) := (blk_cell BK439.out 2).trans rfl; have hfz65_0 := blk_frozen BK439.out 0; have hfz65_1 := blk_frozen BK439.out 1; have hfz65_2 := blk_frozen BK439.out 2))
                                              refine bodyPost_ret (results_cell_row rfl _ _ gb439 24 #[.bool false, .string (⟨#[]⟩ : ByteArray), .string (⟨#[]⟩ : ByteArray)] (0, 0) _ rfl (by (with_reducible repeat (first | refine blk_drewN ?_ _ | refine blk_drew ?_ | refine blk_alloc ?_ _)); refine blk_put (cs := #[.bool false, .string (⟨#[]⟩ : ByteArray), .string x440002_5]) ?_ 2 _ rfl; (with_reducible repeat (first | refine blk_drewN ?_ _ | refine blk_drew ?_ | refine blk_alloc ?_ _)); refine blk_put (cs := #[.bool false, .string x440001_5, .string x440002_5]) ?_ 1 _ rfl; (with_reducible repeat (first | refine blk_drewN ?_ _ | refine blk_drew ?_ | refine blk_alloc ?_ _)); refine blk_put (cs := #[.bool x440000_5, .string x440001_5, .string x440002_5]) ?_ 0 _ rfl; (with_reducible repeat (first | refine blk_drewN ?_ _ | refine blk_drew ?_ | refine blk_alloc ?_ _)); exact BK439.out) Try.underlying24 rfl (by kernel_rfl)) rfl ?_
                                              exact ⟨by first | rfl | (simp [errW_none, errW_some] <;> rfl) | (simp [*, errW_none, errW_some] <;> rfl), by repeat (first | (with_reducible first | exact HB.out | apply below_alloc | apply pw_below_drewN | apply below_drew1 | refine below_set ?_ GE439.out) | exact HB.out)⟩
                                          · rw [if_neg c61] at H
                                            exact absurd H (by simp)
                                        · rw [if_neg c60] at H
                                          exact absurd H (by simp)
                                      · rw [if_neg c59] at H
                                        have c59b0 : decide (x7_25 < x9_5) = false := decide_eq_false c59
                                        clear c59
                                        have H' := Aside0.mk H
                                        clear H
                                        go_wp2
                                        go_roundg k5
                                        case measure => have := HK1.out; have := HJ15.out; have := HJ20.out; have := HJ25.out; have := HK5.out; omega
                                        case rel => exact ⟨(wrap64 (x9_5 + 1)), (x440000_5), (x440001_5), (x440002_5), (by first | rfl | (simp; done) | (simp [*]; done)), H', ⟨by have := HK1.out; have := HJ15.out; have := HJ20.out; have := HJ25.out; have := HK5.out; omega⟩, ⟨by (with_reducible repeat (first | refine blk_drewN ?_ _ | refine blk_drew ?_ | refine blk_alloc ?_ _)); exact BK439.out⟩, ⟨by repeat (first | (with_reducible first | exact HB.out | apply below_alloc | apply pw_below_drewN | apply below_drew1 | refine below_set ?_ GE439.out) | exact HB.out)⟩⟩
                                  · rw [if_neg c47] at H
                                    have c47b0 : decide (x9_5 < t441) = false := decide_eq_false c47
                                    clear c47
                                    by_cases c66 : 0 ≤ x4_15
                                    · rw [if_pos c66] at H
                                      have c66b0 := eq_true c66
                                      have c66b1 : decide (0 ≤ x4_15) = true := decide_eq_true c66
                                      clear c66
                                      by_cases c67 : x4_15 ≤ x7_25
                                      · rw [if_pos c67] at H
                                        have c67b0 := eq_true c67
                                        have c67b1 : decide (x4_15 ≤ x7_25) = true := decide_eq_true c67
                                        clear c67
                                        by_cases c68 : x7_25 ≤ (a0.size : Int)
                                        · rw [if_pos c68] at H
                                          have c68b0 := eq_true c68
                                          have c68b1 : decide (x7_25 ≤ (a0.size : Int)) = true := decide_eq_true c68
                                          clear c68
                                          replace H := Option.bind_eq_some_iff.mp H
                                          obtain ⟨t449, A690, H⟩ := H
                                          replace H : (if 0 ≤ t441 then (if t441 ≤ t449 then (if t449 ≤ (a0.size : Int) then (some (true, a0.extract (x4_15 : Int).toNat (x7_25 : Int).toNat, a0.extract (t441 : Int).toNat (t449 : Int).toNat)) else (none)) else (none)) else (none)) = some (r1, r2, r3) := H
                                          have A69 := Aside0.mk A690
                                          clear A690
                                          by_cases c70 : 0 ≤ t441
                                          · rw [if_pos c70] at H
                                            have c70b0 := eq_true c70
                                            have c70b1 : decide (0 ≤ t441) = true := decide_eq_true c70
                                            clear c70
                                            by_cases c71 : t441 ≤ t449
                                            · rw [if_pos c71] at H
                                              have c71b0 := eq_true c71
                                              have c71b1 : decide (t441 ≤ t449) = true := decide_eq_true c71
                                              clear c71
                                              by_cases c72 : t449 ≤ (a0.size : Int)
                                              · rw [if_pos c72] at H
                                                have c72b0 := eq_true c72
                                                have c72b1 : decide (t449 ≤ (a0.size : Int)) = true := decide_eq_true c72
                                                clear c72
                                                simp only [Option.some.injEq, Prod.mk.injEq] at H
                                                obtain ⟨rfl, rfl, rfl⟩ := H
                                                try go_wp2
                                                have n0_ := Aside0.mk (blk_drew BK439.out)
                                                have n1_ := Aside0.mk (below_drew1 HB.out)
                                                clear BK439
                                                clear HB
                                                have BK439 := n0_
                                                have HB := n1_
                                                clear n0_ n1_
                                                refine start_ (n := 12) (S := fun w' => True) (ds := []) #[false, false, false, false, false, false, false, false, false, false, false, false] (by kernel_rfl) rfl rfl trivial (fun hHeld => ?_); refine with_tabW shibbolethref22_Parse.tab28 shibbolethref22_Parse.bits28 (fun HT_ HW_ => ?_)
                                                generalize wr.drew = w73 at BK439 HB hHeld ⊢
                                                refine pure_ (i := 0) (N := some 125) (v := ?_) (a' := ?_) #[true, false, false, false, false, false, false, false, false, false, false, false] rfl rfl (any_of HT_.out (by kernel_rfl)) (fun _ _ _ h => h) (Or.inl ⟨by rfl, ?_⟩) ?_ ?_
                                                rotate_left
                                                · intro w'
                                                  go_simp
                                                  with_reducible rfl
                                                rotate_left
                                                · simp only [Act.put, List.setIfInBounds_toArray, List.set_cons_zero, List.set_cons_succ, i64_w, i32_w]
                                                  rfl
                                                refine pure_ (i := 1) (N := some 126) (v := ?_) (a' := ?_) #[true, true, false, false, false, false, false, false, false, false, false, false] rfl rfl (any_of HT_.out (by kernel_rfl)) (fun _ _ _ h => h) (Or.inl ⟨by rfl, ?_⟩) ?_ ?_
                                                rotate_left
                                                · intro w'
                                                  go_simp
                                                  with_reducible rfl
                                                rotate_left
                                                · simp only [Act.put, List.setIfInBounds_toArray, List.set_cons_zero, List.set_cons_succ, i64_w, i32_w]
                                                  rfl
                                                refine pure_ (i := 2) (N := some 127) (v := ?_) (a' := ?_) #[true, true, true, false, false, false, false, false, false, false, false, false] rfl rfl (any_of HT_.out (by kernel_rfl)) (fun _ _ _ h => h) (Or.inl ⟨by rfl, ?_⟩) ?_ ?_
                                                rotate_left
                                                · intro w'
                                                  go_simp
                                                  with_reducible rfl
                                                rotate_left
                                                · simp only [Act.put, List.setIfInBounds_toArray, List.set_cons_zero, List.set_cons_succ, i64_w, i32_w]
                                                  rfl
                                                refine pure_ (i := 3) (N := some 128) (v := ?_) (a' := ?_) #[true, true, true, true, false, false, false, false, false, false, false, false] rfl rfl (any_of HT_.out (by kernel_rfl)) (fun _ _ _ h => h) (Or.inl ⟨by rfl, ?_⟩) ?_ ?_
                                                rotate_left
                                                · intro w'
                                                  go_simp
                                                  with_reducible rfl
                                                rotate_left
                                                · simp only [Act.put, List.setIfInBounds_toArray, List.set_cons_zero, List.set_cons_succ, i64_w, i32_w]
                                                  rfl
                                                refine pure_ (i := 4) (N := some 129) (v := ?_) (a' := ?_) #[true, true, true, true, true, false, false, false, false, false, false, false] rfl rfl (any_of HT_.out (by kernel_rfl)) (fun _ _ _ h => h) (Or.inl ⟨by rfl, ?_⟩) ?_ ?_
                                                rotate_left
                                                · intro w'
                                                  go_simp
                                                  with_reducible rfl
                                                rotate_left
                                                · simp only [Act.put, List.setIfInBounds_toArray, List.set_cons_zero, List.set_cons_succ, i64_w, i32_w]
                                                  rfl
                                                refine pure_ (i := 5) (N := some 130) (v := ?_) (a' := ?_) #[true, true, true, true, true, true, false, false, false, false, false, false] rfl rfl (any_of HT_.out (by kernel_rfl)) (fun _ _ _ h => h) (Or.inl ⟨by rfl, ?_⟩) ?_ ?_
                                                rotate_left
                                                · intro w'
                                                  go_simp
                                                  with_reducible rfl
                                                rotate_left
                                                · simp only [Act.put, List.setIfInBounds_toArray, List.set_cons_zero, List.set_cons_succ, i64_w, i32_w]
                                                  rfl
                                                refine pure_ (i := 6) (N := some 131) (v := ?_) (a' := ?_) #[true, true, true, true, true, true, true, false, false, false, false, false] rfl rfl (any_of HT_.out (by kernel_rfl)) (fun _ _ _ h => h) (Or.inl ⟨by rfl, ?_⟩) ?_ ?_
                                                rotate_left
                                                · intro w'
                                                  go_simp
                                                  with_reducible rfl
                                                rotate_left
                                                · simp only [Act.put, List.setIfInBounds_toArray, List.set_cons_zero, List.set_cons_succ, i64_w, i32_w]
                                                  rfl
                                                refine pure_ (i := 7) (N := some 132) (v := ?_) (a' := ?_) #[true, true, true, true, true, true, true, true, false, false, false, false] rfl rfl (any_of HT_.out (by kernel_rfl)) (fun _ _ _ h => h) (Or.inl ⟨by rfl, ?_⟩) ?_ ?_
                                                rotate_left
                                                · intro w'
                                                  go_simp
                                                  with_reducible rfl
                                                rotate_left
                                                · simp only [Act.put, List.setIfInBounds_toArray, List.set_cons_zero, List.set_cons_succ, i64_w, i32_w]
                                                  rfl
                                                refine one_ (i := 8) (N := some 133) #[true, true, true, true, true, true, true, true, true, false, false, false] rfl rfl (one_of HT_.out (by kernel_rfl)) (by decide) (fun K hK => ?_)
                                                refine goes_ Try.func41 (by kernel_rfl) rfl #[.string a0, .string (⟨#[63, 35]⟩ : ByteArray), .int .i64 t441] (by rfl) rfl rfl (by (try simp only [List.map_toArray, List.map_cons, List.map_nil]); first | done | rfl | (simp only [List.length_drop, List.length_take]; rfl)) ?_
                                                with_reducible refine (shibbolethref22_first.calls k5 a0 (⟨#[63, 35]⟩ : ByteArray) t441 t449 _ A69.out).mono ?_
                                                rintro e w' ⟨rfl, ⟨nd, rfl⟩⟩
                                                refine ⟨_, rfl, ?_⟩
                                                refine hK.out _ _ trivial (fun hHeld => ?_)
                                                clear hK K
                                                refine norm_ (a' := ?_) ?_ ?_
                                                rotate_left
                                                · show Act.put _ (some 133) _ = _
                                                  simp only [Act.put, List.setIfInBounds_toArray, List.set_cons_zero, List.set_cons_succ, i64_w, i32_w]
                                                  rfl
                                                refine pure_ (i := 9) (N := some 134) (v := ?_) (a' := ?_) #[true, true, true, true, true, true, true, true, true, true, false, false] rfl rfl (any_of HT_.out (by kernel_rfl)) (fun _ _ _ h => h) (Or.inl ⟨by rfl, ?_⟩) ?_ ?_
                                                rotate_left
                                                · intro w'
                                                  go_simp
                                                  with_reducible rfl
                                                rotate_left
                                                · simp only [Act.put, List.setIfInBounds_toArray, List.set_cons_zero, List.set_cons_succ, i64_w, i32_w]
                                                  rfl
                                                refine pure_ (i := 10) (N := some 135) (v := ?_) (a' := ?_) #[true, true, true, true, true, true, true, true, true, true, true, false] rfl rfl (any_of HT_.out (by kernel_rfl)) (fun _ _ _ h => h) (Or.inl ⟨by rfl, ?_⟩) ?_ ?_
                                                rotate_left
                                                · intro w'
                                                  go_simp
                                                  with_reducible rfl
                                                rotate_left
                                                · simp only [Act.put, List.setIfInBounds_toArray, List.set_cons_zero, List.set_cons_succ, i64_w, i32_w]
                                                  rfl
                                                refine one_ (i := 11) (N := none) #[true, true, true, true, true, true, true, true, true, true, true, true] rfl rfl (one_of HT_.out (by kernel_rfl)) (by decide) (fun K hK => ?_)
                                                have hs74 : w73.cell? ⟨gb439, 0, none⟩ = some (.bool x440000_5) := (blk_cell BK439.out 0).trans rfl
                                                have hfs74 := blk_frozen BK439.out 0
                                                have hs75 : w73.cell? ⟨gb439, 1, none⟩ = some (.string x440001_5) := (blk_cell BK439.out 1).trans rfl
                                                have hfs75 := blk_frozen BK439.out 1
                                                have hs76 : w73.cell? ⟨gb439, 2, none⟩ = some (.string x440002_5) := (blk_cell BK439.out 2).trans rfl
                                                have hfs76 := blk_frozen BK439.out 2
                                                refine skip_ (w1 := ?_) (by rfl) rfl ?_ ?_
                                                rotate_left
                                                · go_simp
                                                  rfl
                                                refine hK.out _ _ trivial (fun hHeld => ?_)
                                                clear hK K
                                                refine done_ (done_of HT_.out (by kernel_rfl)) ?_
                                                try go_wp2
                                                refine bodyPost_ret (results_cell_row rfl _ _ gb439 24 #[.bool true, .string (a0.extract (x4_15 : Int).toNat (x7_25 : Int).toNat), .string (a0.extract (t441 : Int).toNat (t449 : Int).toNat)] (0, 0) _ rfl (by (with_reducible repeat (first | refine blk_drewN ?_ _ | refine blk_drew ?_ | refine blk_alloc ?_ _)); refine blk_put (cs := #[.bool true, .string (a0.extract (x4_15 : Int).toNat (x7_25 : Int).toNat), .string x440002_5]) ?_ 2 _ rfl; (with_reducible repeat (first | refine blk_drewN ?_ _ | refine blk_drew ?_ | refine blk_alloc ?_ _)); refine blk_put (cs := #[.bool true, .string x440001_5, .string x440002_5]) ?_ 1 _ rfl; (with_reducible repeat (first | refine blk_drewN ?_ _ | refine blk_drew ?_ | refine blk_alloc ?_ _)); refine blk_put (cs := #[.bool x440000_5, .string x440001_5, .string x440002_5]) ?_ 0 _ rfl; (with_reducible repeat (first | refine blk_drewN ?_ _ | refine blk_drew ?_ | refine blk_alloc ?_ _)); exact BK439.out) Try.underlying24 rfl (by kernel_rfl)) rfl ?_
                                                exact ⟨by first | rfl | (simp [errW_none, errW_some] <;> rfl) | (simp [*, errW_none, errW_some] <;> rfl), by repeat (first | (with_reducible first | exact HB.out | apply below_alloc | apply pw_below_drewN | apply below_drew1 | refine below_set ?_ GE439.out) | exact HB.out)⟩
                                              · rw [if_neg c72] at H
                                                exact absurd H (by simp)
                                            · rw [if_neg c71] at H
                                              exact absurd H (by simp)
                                          · rw [if_neg c70] at H
                                            exact absurd H (by simp)
                                        · rw [if_neg c68] at H
                                          exact absurd H (by simp)
                                      · rw [if_neg c67] at H
                                        exact absurd H (by simp)
                                    · rw [if_neg c66] at H
                                      exact absurd H (by simp)
                  · rw [if_neg c19] at H
                    exact absurd H (by simp)
                · rw [if_neg c18] at H
                  exact absurd H (by simp)
          · rw [if_neg c14] at H
            exact absurd H (by simp)
        · rw [if_neg c13] at H
          exact absurd H (by simp)

end Go.Proofs.Ytbjfcnhaedhbaaa.ZA

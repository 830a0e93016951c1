/- My own print (tools/mp.py) of functions of this seat: each function as a plain Lean function, and the proof that the code does what that function says. -/
import Derived.Test.YtbjfcnhaedhbaaaZA0
import Derived.Test.YtbjfcnhaedhbaaaZA1
import Derived.Test.YtbjfcnhaedhbaaaZA5
namespace Go.Proofs.Ytbjfcnhaedhbaaa.ZA
open Go.RowKit Go.Proofs.YtbjfcnhaedhbaaaW.PrintWords Go.Proofs.YtbjfcnhaedhbaaaW.PrintLast Go.Proofs.YtbjfcnhaedhbaaaW.PrintMore
attribute [local go_sem] max2_int min2_int max_two min_two max_three min_three max_four min_four   -- for this text's walks alone
set_option linter.unusedVariables false
set_option linter.unusedSimpArgs false

attribute [local go_sem high] eqA24
/-! ### shibbolethlaw21_PyurlBuilt: function 6 -/
def shibbolethlaw21_PyurlBuilt.j0 : Nat → ByteArray → ByteArray → ByteArray → ByteArray → ByteArray → ByteArray → Bool → Option (Bool)
  | 0, _, _, _, _, _, _, _ => none
  | k + 1, x0, x1, x2, x3, x4, x5, x46 => if x46 = true then ((shibbolethlaw21_awake.f k).bind fun t196 => (some t196)) else ((shibbolethlaw21_without.f k x1 (⟨#[9, 10, 13, 47, 63, 35, 64, 91, 93, 58]⟩ : ByteArray)).bind fun t197 => ((shibbolethlaw21_without.f k x3 (⟨#[9, 10, 13, 63, 35]⟩ : ByteArray)).bind fun t198 => (if 1 + t198.size ≤ 9223372036854775807 then ((shibbolethlaw21_without.f k x0 (⟨#[47, 63, 35]⟩ : ByteArray)).bind fun t199 => (if 2 + t199.size ≤ 9223372036854775807 then (if ((⟨#[47, 47]⟩ : ByteArray) ++ t199).size + 1 ≤ 9223372036854775807 then (if (((⟨#[47, 47]⟩ : ByteArray) ++ t199) ++ (⟨#[64]⟩ : ByteArray)).size + t197.size ≤ 9223372036854775807 then (if ((((⟨#[47, 47]⟩ : ByteArray) ++ t199) ++ (⟨#[64]⟩ : ByteArray)) ++ t197).size + 1 ≤ 9223372036854775807 then ((shibbolethlaw21_without.f k x2 (⟨#[47, 63, 35, 64, 91, 93]⟩ : ByteArray)).bind fun t200 => (if (((((⟨#[47, 47]⟩ : ByteArray) ++ t199) ++ (⟨#[64]⟩ : ByteArray)) ++ t197) ++ (⟨#[58]⟩ : ByteArray)).size + t200.size ≤ 9223372036854775807 then (if ((((((⟨#[47, 47]⟩ : ByteArray) ++ t199) ++ (⟨#[64]⟩ : ByteArray)) ++ t197) ++ (⟨#[58]⟩ : ByteArray)) ++ t200).size + ((⟨#[47]⟩ : ByteArray) ++ t198).size ≤ 9223372036854775807 then (if (((((((⟨#[47, 47]⟩ : ByteArray) ++ t199) ++ (⟨#[64]⟩ : ByteArray)) ++ t197) ++ (⟨#[58]⟩ : ByteArray)) ++ t200) ++ ((⟨#[47]⟩ : ByteArray) ++ t198)).size + 1 ≤ 9223372036854775807 then ((shibbolethlaw21_without.f k x4 (⟨#[35]⟩ : ByteArray)).bind fun t201 => (if ((((((((⟨#[47, 47]⟩ : ByteArray) ++ t199) ++ (⟨#[64]⟩ : ByteArray)) ++ t197) ++ (⟨#[58]⟩ : ByteArray)) ++ t200) ++ ((⟨#[47]⟩ : ByteArray) ++ t198)) ++ (⟨#[63]⟩ : ByteArray)).size + t201.size ≤ 9223372036854775807 then (if (((((((((⟨#[47, 47]⟩ : ByteArray) ++ t199) ++ (⟨#[64]⟩ : ByteArray)) ++ t197) ++ (⟨#[58]⟩ : ByteArray)) ++ t200) ++ ((⟨#[47]⟩ : ByteArray) ++ t198)) ++ (⟨#[63]⟩ : ByteArray)) ++ t201).size + 1 ≤ 9223372036854775807 then (if ((((((((((⟨#[47, 47]⟩ : ByteArray) ++ t199) ++ (⟨#[64]⟩ : ByteArray)) ++ t197) ++ (⟨#[58]⟩ : ByteArray)) ++ t200) ++ ((⟨#[47]⟩ : ByteArray) ++ t198)) ++ (⟨#[63]⟩ : ByteArray)) ++ t201) ++ (⟨#[35]⟩ : ByteArray)).size + x5.size ≤ 9223372036854775807 then ((shibbolethlaw21_without.f k x1 (⟨#[9, 10, 13, 47, 63, 35, 64, 91, 93]⟩ : ByteArray)).bind fun t203 => ((shibbolethlaw21_without.f k x0 (⟨#[47, 63, 35]⟩ : ByteArray)).bind fun t204 => (if 2 + t204.size ≤ 9223372036854775807 then (if ((⟨#[47, 47]⟩ : ByteArray) ++ t204).size + 2 ≤ 9223372036854775807 then (if (((⟨#[47, 47]⟩ : ByteArray) ++ t204) ++ (⟨#[64, 91]⟩ : ByteArray)).size + t203.size ≤ 9223372036854775807 then (if ((((⟨#[47, 47]⟩ : ByteArray) ++ t204) ++ (⟨#[64, 91]⟩ : ByteArray)) ++ t203).size + 1 ≤ 9223372036854775807 then ((shibbolethlaw21_without.f k x2 (⟨#[47, 63, 35, 64]⟩ : ByteArray)).bind fun t205 => (if (((((⟨#[47, 47]⟩ : ByteArray) ++ t204) ++ (⟨#[64, 91]⟩ : ByteArray)) ++ t203) ++ (⟨#[93]⟩ : ByteArray)).size + t205.size ≤ 9223372036854775807 then (if ((((((⟨#[47, 47]⟩ : ByteArray) ++ t204) ++ (⟨#[64, 91]⟩ : ByteArray)) ++ t203) ++ (⟨#[93]⟩ : ByteArray)) ++ t205).size + ((⟨#[47]⟩ : ByteArray) ++ t198).size ≤ 9223372036854775807 then ((pyurl_Parse.f k (((((((((((⟨#[47, 47]⟩ : ByteArray) ++ t199) ++ (⟨#[64]⟩ : ByteArray)) ++ t197) ++ (⟨#[58]⟩ : ByteArray)) ++ t200) ++ ((⟨#[47]⟩ : ByteArray) ++ t198)) ++ (⟨#[63]⟩ : ByteArray)) ++ t201) ++ (⟨#[35]⟩ : ByteArray)) ++ x5)).bind fun bt206 => (if (bt206.1 && (bt206.2.1.toList == t197.toList && (bt206.2.2.toList == (((⟨#[47]⟩ : ByteArray) ++ t198).toList)))) = true then (if 4 + (((((((((((⟨#[47, 47]⟩ : ByteArray) ++ t199) ++ (⟨#[64]⟩ : ByteArray)) ++ t197) ++ (⟨#[58]⟩ : ByteArray)) ++ t200) ++ ((⟨#[47]⟩ : ByteArray) ++ t198)) ++ (⟨#[63]⟩ : ByteArray)) ++ t201) ++ (⟨#[35]⟩ : ByteArray)) ++ x5).size ≤ 9223372036854775807 then ((pyurl_Parse.f k ((⟨#[97, 49, 43, 58]⟩ : ByteArray) ++ (((((((((((⟨#[47, 47]⟩ : ByteArray) ++ t199) ++ (⟨#[64]⟩ : ByteArray)) ++ t197) ++ (⟨#[58]⟩ : ByteArray)) ++ t200) ++ ((⟨#[47]⟩ : ByteArray) ++ t198)) ++ (⟨#[63]⟩ : ByteArray)) ++ t201) ++ (⟨#[35]⟩ : ByteArray)) ++ x5))).bind fun bt209 => (if (bt209.1 && (bt209.2.1.toList == t197.toList && (bt209.2.2.toList == (((⟨#[47]⟩ : ByteArray) ++ t198).toList)))) = true then ((pyurl_Parse.f k (((((((⟨#[47, 47]⟩ : ByteArray) ++ t204) ++ (⟨#[64, 91]⟩ : ByteArray)) ++ t203) ++ (⟨#[93]⟩ : ByteArray)) ++ t205) ++ ((⟨#[47]⟩ : ByteArray) ++ t198))).bind fun bt212 => (if (bt212.1 && (bt212.2.1.toList == t203.toList && (bt212.2.2.toList == (((⟨#[47]⟩ : ByteArray) ++ t198).toList)))) = true then ((shibbolethlaw21_awake.f k).bind fun t215 => (some t215)) else (some false))) else (some false))) else (none)) else (some false))) else (none)) else (none))) else (none)) else (none)) else (none)) else (none)))) else (none)) else (none)) else (none))) else (none)) else (none)) else (none))) else (none)) else (none)) else (none)) else (none))) else (none))))
def shibbolethlaw21_PyurlBuilt.f (k : Nat) (a0 : ByteArray) (a1 : ByteArray) (a2 : ByteArray) (a3 : ByteArray) (a4 : ByteArray) (a5 : ByteArray) : Option (Bool) := if (a0.size : Int) > 60 then (shibbolethlaw21_PyurlBuilt.j0 k a0 a1 a2 a3 a4 a5 true) else (if (a1.size : Int) > 60 then (shibbolethlaw21_PyurlBuilt.j0 k a0 a1 a2 a3 a4 a5 true) else (if (a2.size : Int) > 60 then (shibbolethlaw21_PyurlBuilt.j0 k a0 a1 a2 a3 a4 a5 true) else (if (a3.size : Int) > 60 then (shibbolethlaw21_PyurlBuilt.j0 k a0 a1 a2 a3 a4 a5 true) else (if (a4.size : Int) > 60 then (shibbolethlaw21_PyurlBuilt.j0 k a0 a1 a2 a3 a4 a5 true) else (shibbolethlaw21_PyurlBuilt.j0 k a0 a1 a2 a3 a4 a5 (decide ((a5.size : Int) > 60)))))))
theorem shibbolethlaw21_PyurlBuilt.mono_l : ∀ k, (∀ y0 y1 y2 y3 y4 y5 y6, LeO (shibbolethlaw21_PyurlBuilt.j0 k y0 y1 y2 y3 y4 y5 y6) (shibbolethlaw21_PyurlBuilt.j0 (k + 1) y0 y1 y2 y3 y4 y5 y6))
  | 0 => fun _ _ _ _ _ _ _ r h => by simp [shibbolethlaw21_PyurlBuilt.j0] at h
  | k + 1 => by
    have ih0 := shibbolethlaw21_PyurlBuilt.mono_l k
    · intro y0 y1 y2 y3 y4 y5 y6
      unfold shibbolethlaw21_PyurlBuilt.j0
      repeat' first
      | (with_reducible exact ih0 _ _ _ _ _ _ _)
      | (with_reducible exact pyurl_Parse.mono _ _)
      | (with_reducible exact shibbolethlaw21_awake.mono _)
      | (with_reducible exact shibbolethlaw21_without.mono _ _ _)
      | (with_reducible exact LeO.refl _)
      | (with_reducible exact LeO.none _)
      | (with_reducible refine LeO.ite ?_ ?_)
      | (with_reducible refine LeO.bind ?_ (fun _ => ?_))
      | exact ih0 _ _ _ _ _ _ _
      | exact pyurl_Parse.mono _ _
      | exact shibbolethlaw21_awake.mono _
      | exact shibbolethlaw21_without.mono _ _ _
      | exact LeO.none _
      | refine LeO.ite ?_ ?_
      | refine LeO.bind ?_ (fun _ => ?_)
theorem shibbolethlaw21_PyurlBuilt.mono : ∀ a0 a1 a2 a3 a4 a5 k, LeO (shibbolethlaw21_PyurlBuilt.f k a0 a1 a2 a3 a4 a5) (shibbolethlaw21_PyurlBuilt.f (k + 1) a0 a1 a2 a3 a4 a5) := by
  intro a0 a1 a2 a3 a4 a5 k
  have ih0 := shibbolethlaw21_PyurlBuilt.mono_l k
  unfold shibbolethlaw21_PyurlBuilt.f
  repeat' first
      | (with_reducible exact ih0 _ _ _ _ _ _ _)
      | (with_reducible exact pyurl_Parse.mono _ _)
      | (with_reducible exact shibbolethlaw21_awake.mono _)
      | (with_reducible exact shibbolethlaw21_without.mono _ _ _)
      | (with_reducible exact LeO.refl _)
      | (with_reducible exact LeO.none _)
      | (with_reducible refine LeO.ite ?_ ?_)
      | (with_reducible refine LeO.bind ?_ (fun _ => ?_))
      | exact ih0 _ _ _ _ _ _ _
      | exact pyurl_Parse.mono _ _
      | exact shibbolethlaw21_awake.mono _
      | exact shibbolethlaw21_without.mono _ _ _
      | exact LeO.none _
      | refine LeO.ite ?_ ?_
      | refine LeO.bind ?_ (fun _ => ?_)
def shibbolethlaw21_PyurlBuilt.T9 : Bool × List (List Nat × List Nat) := (true, [([], []), ([0], [0]), ([], []), ([1, 2], [1, 2]), ([3, 1], [3]), ([4], [4]), ([5, 4], [4, 5]), ([6, 4, 4], [4, 6]), ([4], [4]), ([7, 8, 4], [4, 7, 8]), ([4, 9], [4, 9]), ([10, 7], [10]), ([11], [11]), ([12, 11, 11], [11, 12]), ([11], [11]), ([11], [11]), ([14, 15, 11], [11, 14, 15]), ([13, 16, 11], [11, 13, 16]), ([11, 17], [11, 17]), ([18, 13], [18]), ([19, 19], [19]), ([19, 20], [19, 20]), ([21, 20, 0, 1, 2, 3, 4, 5, 6, 7, 8, 9, 10, 11, 12, 13, 14, 15, 16, 17, 18, 19, 20, 21], [21])])
def shibbolethlaw21_PyurlBuilt.B9 : List Nat := [0, 1, 0, 7, 15, 31, 63, 127, 31, 511, 1023, 2047, 4095, 8191, 4095, 4095, 53247, 131071, 262143, 524287, 1048575, 2097151, 4194303]
theorem shibbolethlaw21_PyurlBuilt.tab9 : rtab .any (opsOf Try.f6 9) = shibbolethlaw21_PyurlBuilt.T9 := by kernel_rfl
theorem shibbolethlaw21_PyurlBuilt.bits9 : waitsOk shibbolethlaw21_PyurlBuilt.T9.2 shibbolethlaw21_PyurlBuilt.B9 = true := by kernel_rfl
set_option maxHeartbeats 8000000 in
set_option maxRecDepth 100000 in
theorem shibbolethlaw21_PyurlBuilt.calls (k : Nat) (a0 : ByteArray) (a1 : ByteArray) (a2 : ByteArray) (a3 : ByteArray) (a4 : ByteArray) (a5 : ByteArray) (r : Bool) (w : World) (h : shibbolethlaw21_PyurlBuilt.f k a0 a1 a2 a3 a4 a5 = some r) :
    Calls Try.prog 6 #[.string a0, .string a1, .string a2, .string a3, .string a4, .string a5] w fun e w' => e = .returned (.bool r) ∧ Below w.heap.size w w' := by
  have hu24 := Try.underlying24
  have HB := Aside0.mk (Below.refl w.heap.size w)
  have H : (if (a0.size : Int) > 60 then (shibbolethlaw21_PyurlBuilt.j0 k a0 a1 a2 a3 a4 a5 true) else (if (a1.size : Int) > 60 then (shibbolethlaw21_PyurlBuilt.j0 k a0 a1 a2 a3 a4 a5 true) else (if (a2.size : Int) > 60 then (shibbolethlaw21_PyurlBuilt.j0 k a0 a1 a2 a3 a4 a5 true) else (if (a3.size : Int) > 60 then (shibbolethlaw21_PyurlBuilt.j0 k a0 a1 a2 a3 a4 a5 true) else (if (a4.size : Int) > 60 then (shibbolethlaw21_PyurlBuilt.j0 k a0 a1 a2 a3 a4 a5 true) else (shibbolethlaw21_PyurlBuilt.j0 k a0 a1 a2 a3 a4 a5 (decide ((a5.size : Int) > 60)))))))) = some r := h
  clear h
  have HC7 := Aside0.mk H
  clear H
  go_enter Try.func6, Try.ntmps6
  go_upto_region 1 with (fail)
  go_cut [46] (fun v46 wc => ∃ (kq : Nat) (x46_6 : Bool), v46 = .bool x46_6 ∧ Aside0 (shibbolethlaw21_PyurlBuilt.j0 kq a0 a1 a2 a3 a4 a5 x46_6 = some r) ∧ Aside0 (kq ≤ k) ∧ Aside0 (Below w.heap.size w wc))
  case first =>
    have H := HC7.out
    clear HC7
    by_cases c8 : (a0.size : Int) > 60
    · rw [if_pos c8] at H
      have c8b0 : decide (60 < (a0.size : Int)) = true := decide_eq_true c8
      have c8b1 : decide (60 < a0.size) = true := decide_eq_true (by omega)
      clear c8
      (first | rw [c8b0] | (simp only [i64_w, i32_w]; rw [c8b0]) | skip)
      have H' := Aside0.mk H
      clear H
      go_wp2
      go_meet
      case rel => exact ⟨_, (true), (by first | rfl | (simp; done) | (simp [*]; done)), H', ⟨by first | omega | exact Nat.le_refl _⟩, ⟨by repeat (first | (with_reducible first | exact HB.out | apply below_alloc | apply pw_below_drewN | apply below_drew1) | exact HB.out)⟩⟩
    · rw [if_neg c8] at H
      have c8b0 : decide (60 < (a0.size : Int)) = false := decide_eq_false c8
      have c8b1 : decide (60 < a0.size) = false := decide_eq_false (by omega)
      clear c8
      (first | rw [c8b0] | (simp only [i64_w, i32_w]; rw [c8b0]) | skip)
      by_cases c9 : (a1.size : Int) > 60
      · rw [if_pos c9] at H
        have c9b0 : decide (60 < (a1.size : Int)) = true := decide_eq_true c9
        have c9b1 : decide (60 < a1.size) = true := decide_eq_true (by omega)
        clear c9
        have H' := Aside0.mk H
        clear H
        go_wp2
        go_meet
        case rel => exact ⟨_, (true), (by first | rfl | (simp; done) | (simp [*]; done)), H', ⟨by first | omega | exact Nat.le_refl _⟩, ⟨by repeat (first | (with_reducible first | exact HB.out | apply below_alloc | apply pw_below_drewN | apply below_drew1) | exact HB.out)⟩⟩
      · rw [if_neg c9] at H
        have c9b0 : decide (60 < (a1.size : Int)) = false := decide_eq_false c9
        have c9b1 : decide (60 < a1.size) = false := decide_eq_false (by omega)
        clear c9
        by_cases c10 : (a2.size : Int) > 60
        · rw [if_pos c10] at H
          have c10b0 : decide (60 < (a2.size : Int)) = true := decide_eq_true c10
          have c10b1 : decide (60 < a2.size) = true := decide_eq_true (by omega)
          clear c10
          have H' := Aside0.mk H
          clear H
          go_wp2
          go_meet
          case rel => exact ⟨_, (true), (by first | rfl | (simp; done) | (simp [*]; done)), H', ⟨by first | omega | exact Nat.le_refl _⟩, ⟨by repeat (first | (with_reducible first | exact HB.out | apply below_alloc | apply pw_below_drewN | apply below_drew1) | exact HB.out)⟩⟩
        · rw [if_neg c10] at H
          have c10b0 : decide (60 < (a2.size : Int)) = false := decide_eq_false c10
          have c10b1 : decide (60 < a2.size) = false := decide_eq_false (by omega)
          clear c10
          by_cases c11 : (a3.size : Int) > 60
          · rw [if_pos c11] at H
            have c11b0 : decide (60 < (a3.size : Int)) = true := decide_eq_true c11
            have c11b1 : decide (60 < a3.size) = true := decide_eq_true (by omega)
            clear c11
            have H' := Aside0.mk H
            clear H
            go_wp2
            go_meet
            case rel => exact ⟨_, (true), (by first | rfl | (simp; done) | (simp [*]; done)), H', ⟨by first | omega | exact Nat.le_refl _⟩, ⟨by repeat (first | (with_reducible first | exact HB.out | apply below_alloc | apply pw_below_drewN | apply below_drew1) | exact HB.out)⟩⟩
          · rw [if_neg c11] at H
            have c11b0 : decide (60 < (a3.size : Int)) = false := decide_eq_false c11
            have c11b1 : decide (60 < a3.size) = false := decide_eq_false (by omega)
            clear c11
            by_cases c12 : (a4.size : Int) > 60
            · rw [if_pos c12] at H
              have c12b0 : decide (60 < (a4.size : Int)) = true := decide_eq_true c12
              have c12b1 : decide (60 < a4.size) = true := decide_eq_true (by omega)
              clear c12
              have H' := Aside0.mk H
              clear H
              go_wp2
              go_meet
              case rel => exact ⟨_, (true), (by first | rfl | (simp; done) | (simp [*]; done)), H', ⟨by first | omega | exact Nat.le_refl _⟩, ⟨by repeat (first | (with_reducible first | exact HB.out | apply below_alloc | apply pw_below_drewN | apply below_drew1) | exact HB.out)⟩⟩
            · rw [if_neg c12] at H
              have c12b0 : decide (60 < (a4.size : Int)) = false := decide_eq_false c12
              have c12b1 : decide (60 < a4.size) = false := decide_eq_false (by omega)
              clear c12
              have H' := Aside0.mk H
              clear H
              go_wp2
              go_meet
              case rel => exact ⟨_, (decide ((a5.size : Int) > 60)), (by first | rfl | (simp; done) | (simp [*]; done)), H', ⟨by first | omega | exact Nat.le_refl _⟩, ⟨by repeat (first | (with_reducible first | exact HB.out | apply below_alloc | apply pw_below_drewN | apply below_drew1) | exact HB.out)⟩⟩
  case rest =>
    clear HC7
    try clear c1
    try clear p2
    try clear c6
    try clear c8
    try clear c8b0
    try clear c8b1
    try clear c9
    try clear c9b0
    try clear c9b1
    try clear c10
    try clear c10b0
    try clear c10b1
    try clear c11
    try clear c11b0
    try clear c11b1
    try clear c12
    try clear c12b0
    try clear c12b1
    obtain ⟨kq, x46_6, rfl, HA, HJ6, HB⟩ := hcut
    cases kq with
    | zero => exact absurd HA.out (by simp [shibbolethlaw21_PyurlBuilt.j0])
    | succ kj6 =>
      have H := HA.out
      clear HA
      simp only [shibbolethlaw21_PyurlBuilt.j0] at H
      by_cases c13 : x46_6 = true
      · subst c13
        have H1 : ((shibbolethlaw21_awake.f kj6).bind fun t196 => (some t196)) = some r := by rw [if_pos rfl] at H; exact H
        clear H
        have H := H1
        clear H1
        replace H := Option.bind_eq_some_iff.mp H
        obtain ⟨t196, A140, H⟩ := H
        replace H : (some t196) = some r := H
        have A14 := Aside0.mk A140
        clear A140
        obtain rfl := Option.some.inj H
        go_wp2_with (first | ((with_reducible refine gate_callee (f := 12) rfl ?_); refine goesL_ (some 47) rfl rfl Try.func12 (by kernel_rfl) rfl #[] rfl (by (try simp only [List.map_toArray, List.map_cons, List.map_nil]); first | done | rfl | (simp only [List.length_drop, List.length_take]; rfl)) ?_; (with_reducible refine (shibbolethlaw21_awake.calls kj6  t196 _ A14.out).mono ?_); rintro e w15 ⟨rfl, hb⟩; refine ⟨_, rfl, ?_⟩; have n0_ := Aside0.mk (below_step (by repeat (first | (with_reducible first | exact HB.out | apply below_alloc | apply pw_below_drewN | apply below_drew1) | exact HB.out)) hb); clear HB; have HB := n0_; clear n0_; (try clear hb); (try clear hb2); (try clear hk); (try clear hi)))
        go_ret
        exact ⟨by first | rfl | (simp [errW_none, errW_some] <;> rfl) | (simp [*, errW_none, errW_some] <;> rfl), by repeat (first | (with_reducible first | exact HB.out | apply below_alloc | apply pw_below_drewN | apply below_drew1) | exact HB.out)⟩
      · replace c13 := Bool.eq_false_iff.mpr c13
        subst c13
        have H1 : ((shibbolethlaw21_without.f kj6 a1 (⟨#[9, 10, 13, 47, 63, 35, 64, 91, 93, 58]⟩ : ByteArray)).bind fun t197 => ((shibbolethlaw21_without.f kj6 a3 (⟨#[9, 10, 13, 63, 35]⟩ : ByteArray)).bind fun t198 => (if 1 + t198.size ≤ 9223372036854775807 then ((shibbolethlaw21_without.f kj6 a0 (⟨#[47, 63, 35]⟩ : ByteArray)).bind fun t199 => (if 2 + t199.size ≤ 9223372036854775807 then (if ((⟨#[47, 47]⟩ : ByteArray) ++ t199).size + 1 ≤ 9223372036854775807 then (if (((⟨#[47, 47]⟩ : ByteArray) ++ t199) ++ (⟨#[64]⟩ : ByteArray)).size + t197.size ≤ 9223372036854775807 then (if ((((⟨#[47, 47]⟩ : ByteArray) ++ t199) ++ (⟨#[64]⟩ : ByteArray)) ++ t197).size + 1 ≤ 9223372036854775807 then ((shibbolethlaw21_without.f kj6 a2 (⟨#[47, 63, 35, 64, 91, 93]⟩ : ByteArray)).bind fun t200 => (if (((((⟨#[47, 47]⟩ : ByteArray) ++ t199) ++ (⟨#[64]⟩ : ByteArray)) ++ t197) ++ (⟨#[58]⟩ : ByteArray)).size + t200.size ≤ 9223372036854775807 then (if ((((((⟨#[47, 47]⟩ : ByteArray) ++ t199) ++ (⟨#[64]⟩ : ByteArray)) ++ t197) ++ (⟨#[58]⟩ : ByteArray)) ++ t200).size + ((⟨#[47]⟩ : ByteArray) ++ t198).size ≤ 9223372036854775807 then (if (((((((⟨#[47, 47]⟩ : ByteArray) ++ t199) ++ (⟨#[64]⟩ : ByteArray)) ++ t197) ++ (⟨#[58]⟩ : ByteArray)) ++ t200) ++ ((⟨#[47]⟩ : ByteArray) ++ t198)).size + 1 ≤ 9223372036854775807 then ((shibbolethlaw21_without.f kj6 a4 (⟨#[35]⟩ : ByteArray)).bind fun t201 => (if ((((((((⟨#[47, 47]⟩ : ByteArray) ++ t199) ++ (⟨#[64]⟩ : ByteArray)) ++ t197) ++ (⟨#[58]⟩ : ByteArray)) ++ t200) ++ ((⟨#[47]⟩ : ByteArray) ++ t198)) ++ (⟨#[63]⟩ : ByteArray)).size + t201.size ≤ 9223372036854775807 then (if (((((((((⟨#[47, 47]⟩ : ByteArray) ++ t199) ++ (⟨#[64]⟩ : ByteArray)) ++ t197) ++ (⟨#[58]⟩ : ByteArray)) ++ t200) ++ ((⟨#[47]⟩ : ByteArray) ++ t198)) ++ (⟨#[63]⟩ : ByteArray)) ++ t201).size + 1 ≤ 9223372036854775807 then (if ((((((((((⟨#[47, 47]⟩ : ByteArray) ++ t199) ++ (⟨#[64]⟩ : ByteArray)) ++ t197) ++ (⟨#[58]⟩ : ByteArray)) ++ t200) ++ ((⟨#[47]⟩ : ByteArray) ++ t198)) ++ (⟨#[63]⟩ : ByteArray)) ++ t201) ++ (⟨#[35]⟩ : ByteArray)).size + a5.size ≤ 9223372036854775807 then ((shibbolethlaw21_without.f kj6 a1 (⟨#[9, 10, 13, 47, 63, 35, 64, 91, 93]⟩ : ByteArray)).bind fun t203 => ((shibbolethlaw21_without.f kj6 a0 (⟨#[47, 63, 35]⟩ : ByteArray)).bind fun t204 => (if 2 + t204.size ≤ 9223372036854775807 then (if ((⟨#[47, 47]⟩ : ByteArray) ++ t204).size + 2 ≤ 9223372036854775807 then (if (((⟨#[47, 47]⟩ : ByteArray) ++ t204) ++ (⟨#[64, 91]⟩ : ByteArray)).size + t203.size ≤ 9223372036854775807 then (if ((((⟨#[47, 47]⟩ : ByteArray) ++ t204) ++ (⟨#[64, 91]⟩ : ByteArray)) ++ t203).size + 1 ≤ 9223372036854775807 then ((shibbolethlaw21_without.f kj6 a2 (⟨#[47, 63, 35, 64]⟩ : ByteArray)).bind fun t205 => (if (((((⟨#[47, 47]⟩ : ByteArray) ++ t204) ++ (⟨#[64, 91]⟩ : ByteArray)) ++ t203) ++ (⟨#[93]⟩ : ByteArray)).size + t205.size ≤ 9223372036854775807 then (if ((((((⟨#[47, 47]⟩ : ByteArray) ++ t204) ++ (⟨#[64, 91]⟩ : ByteArray)) ++ t203) ++ (⟨#[93]⟩ : ByteArray)) ++ t205).size + ((⟨#[47]⟩ : ByteArray) ++ t198).size ≤ 9223372036854775807 then ((pyurl_Parse.f kj6 (((((((((((⟨#[47, 47]⟩ : ByteArray) ++ t199) ++ (⟨#[64]⟩ : ByteArray)) ++ t197) ++ (⟨#[58]⟩ : ByteArray)) ++ t200) ++ ((⟨#[47]⟩ : ByteArray) ++ t198)) ++ (⟨#[63]⟩ : ByteArray)) ++ t201) ++ (⟨#[35]⟩ : ByteArray)) ++ a5)).bind fun bt206 => (if (bt206.1 && (bt206.2.1.toList == t197.toList && (bt206.2.2.toList == (((⟨#[47]⟩ : ByteArray) ++ t198).toList)))) = true then (if 4 + (((((((((((⟨#[47, 47]⟩ : ByteArray) ++ t199) ++ (⟨#[64]⟩ : ByteArray)) ++ t197) ++ (⟨#[58]⟩ : ByteArray)) ++ t200) ++ ((⟨#[47]⟩ : ByteArray) ++ t198)) ++ (⟨#[63]⟩ : ByteArray)) ++ t201) ++ (⟨#[35]⟩ : ByteArray)) ++ a5).size ≤ 9223372036854775807 then ((pyurl_Parse.f kj6 ((⟨#[97, 49, 43, 58]⟩ : ByteArray) ++ (((((((((((⟨#[47, 47]⟩ : ByteArray) ++ t199) ++ (⟨#[64]⟩ : ByteArray)) ++ t197) ++ (⟨#[58]⟩ : ByteArray)) ++ t200) ++ ((⟨#[47]⟩ : ByteArray) ++ t198)) ++ (⟨#[63]⟩ : ByteArray)) ++ t201) ++ (⟨#[35]⟩ : ByteArray)) ++ a5))).bind fun bt209 => (if (bt209.1 && (bt209.2.1.toList == t197.toList && (bt209.2.2.toList == (((⟨#[47]⟩ : ByteArray) ++ t198).toList)))) = true then ((pyurl_Parse.f kj6 (((((((⟨#[47, 47]⟩ : ByteArray) ++ t204) ++ (⟨#[64, 91]⟩ : ByteArray)) ++ t203) ++ (⟨#[93]⟩ : ByteArray)) ++ t205) ++ ((⟨#[47]⟩ : ByteArray) ++ t198))).bind fun bt212 => (if (bt212.1 && (bt212.2.1.toList == t203.toList && (bt212.2.2.toList == (((⟨#[47]⟩ : ByteArray) ++ t198).toList)))) = true then ((shibbolethlaw21_awake.f kj6).bind fun t215 => (some t215)) else (some false))) else (some false))) else (none)) else (some false))) else (none)) else (none))) else (none)) else (none)) else (none)) else (none)))) else (none)) else (none)) else (none))) else (none)) else (none)) else (none))) else (none)) else (none)) else (none)) else (none))) else (none)))) = some r := by rw [if_neg (show ¬ (false = true) by decide)] at H; exact H
        clear H
        have H := H1
        clear H1
        replace H := Option.bind_eq_some_iff.mp H
        obtain ⟨t197, A160, H⟩ := H
        replace H : ((shibbolethlaw21_without.f kj6 a3 (⟨#[9, 10, 13, 63, 35]⟩ : ByteArray)).bind fun t198 => (if 1 + t198.size ≤ 9223372036854775807 then ((shibbolethlaw21_without.f kj6 a0 (⟨#[47, 63, 35]⟩ : ByteArray)).bind fun t199 => (if 2 + t199.size ≤ 9223372036854775807 then (if ((⟨#[47, 47]⟩ : ByteArray) ++ t199).size + 1 ≤ 9223372036854775807 then (if (((⟨#[47, 47]⟩ : ByteArray) ++ t199) ++ (⟨#[64]⟩ : ByteArray)).size + t197.size ≤ 9223372036854775807 then (if ((((⟨#[47, 47]⟩ : ByteArray) ++ t199) ++ (⟨#[64]⟩ : ByteArray)) ++ t197).size + 1 ≤ 9223372036854775807 then ((shibbolethlaw21_without.f kj6 a2 (⟨#[47, 63, 35, 64, 91, 93]⟩ : ByteArray)).bind fun t200 => (if (((((⟨#[47, 47]⟩ : ByteArray) ++ t199) ++ (⟨#[64]⟩ : ByteArray)) ++ t197) ++ (⟨#[58]⟩ : ByteArray)).size + t200.size ≤ 9223372036854775807 then (if ((((((⟨#[47, 47]⟩ : ByteArray) ++ t199) ++ (⟨#[64]⟩ : ByteArray)) ++ t197) ++ (⟨#[58]⟩ : ByteArray)) ++ t200).size + ((⟨#[47]⟩ : ByteArray) ++ t198).size ≤ 9223372036854775807 then (if (((((((⟨#[47, 47]⟩ : ByteArray) ++ t199) ++ (⟨#[64]⟩ : ByteArray)) ++ t197) ++ (⟨#[58]⟩ : ByteArray)) ++ t200) ++ ((⟨#[47]⟩ : ByteArray) ++ t198)).size + 1 ≤ 9223372036854775807 then ((shibbolethlaw21_without.f kj6 a4 (⟨#[35]⟩ : ByteArray)).bind fun t201 => (if ((((((((⟨#[47, 47]⟩ : ByteArray) ++ t199) ++ (⟨#[64]⟩ : ByteArray)) ++ t197) ++ (⟨#[58]⟩ : ByteArray)) ++ t200) ++ ((⟨#[47]⟩ : ByteArray) ++ t198)) ++ (⟨#[63]⟩ : ByteArray)).size + t201.size ≤ 9223372036854775807 then (if (((((((((⟨#[47, 47]⟩ : ByteArray) ++ t199) ++ (⟨#[64]⟩ : ByteArray)) ++ t197) ++ (⟨#[58]⟩ : ByteArray)) ++ t200) ++ ((⟨#[47]⟩ : ByteArray) ++ t198)) ++ (⟨#[63]⟩ : ByteArray)) ++ t201).size + 1 ≤ 9223372036854775807 then (if ((((((((((⟨#[47, 47]⟩ : ByteArray) ++ t199) ++ (⟨#[64]⟩ : ByteArray)) ++ t197) ++ (⟨#[58]⟩ : ByteArray)) ++ t200) ++ ((⟨#[47]⟩ : ByteArray) ++ t198)) ++ (⟨#[63]⟩ : ByteArray)) ++ t201) ++ (⟨#[35]⟩ : ByteArray)).size + a5.size ≤ 9223372036854775807 then ((shibbolethlaw21_without.f kj6 a1 (⟨#[9, 10, 13, 47, 63, 35, 64, 91, 93]⟩ : ByteArray)).bind fun t203 => ((shibbolethlaw21_without.f kj6 a0 (⟨#[47, 63, 35]⟩ : ByteArray)).bind fun t204 => (if 2 + t204.size ≤ 9223372036854775807 then (if ((⟨#[47, 47]⟩ : ByteArray) ++ t204).size + 2 ≤ 9223372036854775807 then (if (((⟨#[47, 47]⟩ : ByteArray) ++ t204) ++ (⟨#[64, 91]⟩ : ByteArray)).size + t203.size ≤ 9223372036854775807 then (if ((((⟨#[47, 47]⟩ : ByteArray) ++ t204) ++ (⟨#[64, 91]⟩ : ByteArray)) ++ t203).size + 1 ≤ 9223372036854775807 then ((shibbolethlaw21_without.f kj6 a2 (⟨#[47, 63, 35, 64]⟩ : ByteArray)).bind fun t205 => (if (((((⟨#[47, 47]⟩ : ByteArray) ++ t204) ++ (⟨#[64, 91]⟩ : ByteArray)) ++ t203) ++ (⟨#[93]⟩ : ByteArray)).size + t205.size ≤ 9223372036854775807 then (if ((((((⟨#[47, 47]⟩ : ByteArray) ++ t204) ++ (⟨#[64, 91]⟩ : ByteArray)) ++ t203) ++ (⟨#[93]⟩ : ByteArray)) ++ t205).size + ((⟨#[47]⟩ : ByteArray) ++ t198).size ≤ 9223372036854775807 then ((pyurl_Parse.f kj6 (((((((((((⟨#[47, 47]⟩ : ByteArray) ++ t199) ++ (⟨#[64]⟩ : ByteArray)) ++ t197) ++ (⟨#[58]⟩ : ByteArray)) ++ t200) ++ ((⟨#[47]⟩ : ByteArray) ++ t198)) ++ (⟨#[63]⟩ : ByteArray)) ++ t201) ++ (⟨#[35]⟩ : ByteArray)) ++ a5)).bind fun bt206 => (if (bt206.1 && (bt206.2.1.toList == t197.toList && (bt206.2.2.toList == (((⟨#[47]⟩ : ByteArray) ++ t198).toList)))) = true then (if 4 + (((((((((((⟨#[47, 47]⟩ : ByteArray) ++ t199) ++ (⟨#[64]⟩ : ByteArray)) ++ t197) ++ (⟨#[58]⟩ : ByteArray)) ++ t200) ++ ((⟨#[47]⟩ : ByteArray) ++ t198)) ++ (⟨#[63]⟩ : ByteArray)) ++ t201) ++ (⟨#[35]⟩ : ByteArray)) ++ a5).size ≤ 9223372036854775807 then ((pyurl_Parse.f kj6 ((⟨#[97, 49, 43, 58]⟩ : ByteArray) ++ (((((((((((⟨#[47, 47]⟩ : ByteArray) ++ t199) ++ (⟨#[64]⟩ : ByteArray)) ++ t197) ++ (⟨#[58]⟩ : ByteArray)) ++ t200) ++ ((⟨#[47]⟩ : ByteArray) ++ t198)) ++ (⟨#[63]⟩ : ByteArray)) ++ t201) ++ (⟨#[35]⟩ : ByteArray)) ++ a5))).bind fun bt209 => (if (bt209.1 && (bt209.2.1.toList == t197.toList && (bt209.2.2.toList == (((⟨#[47]⟩ : ByteArray) ++ t198).toList)))) = true then ((pyurl_Parse.f kj6 (((((((⟨#[47, 47]⟩ : ByteArray) ++ t204) ++ (⟨#[64, 91]⟩ : ByteArray)) ++ t203) ++ (⟨#[93]⟩ : ByteArray)) ++ t205) ++ ((⟨#[47]⟩ : ByteArray) ++ t198))).bind fun bt212 => (if (bt212.1 && (bt212.2.1.toList == t203.toList && (bt212.2.2.toList == (((⟨#[47]⟩ : ByteArray) ++ t198).toList)))) = true then ((shibbolethlaw21_awake.f kj6).bind fun t215 => (some t215)) else (some false))) else (some false))) else (none)) else (some false))) else (none)) else (none))) else (none)) else (none)) else (none)) else (none)))) else (none)) else (none)) else (none))) else (none)) else (none)) else (none))) else (none)) else (none)) else (none)) else (none))) else (none))) = some r := H
        have A16 := Aside0.mk A160
        clear A160
        replace H := Option.bind_eq_some_iff.mp H
        obtain ⟨t198, A170, H⟩ := H
        replace H : (if 1 + t198.size ≤ 9223372036854775807 then ((shibbolethlaw21_without.f kj6 a0 (⟨#[47, 63, 35]⟩ : ByteArray)).bind fun t199 => (if 2 + t199.size ≤ 9223372036854775807 then (if ((⟨#[47, 47]⟩ : ByteArray) ++ t199).size + 1 ≤ 9223372036854775807 then (if (((⟨#[47, 47]⟩ : ByteArray) ++ t199) ++ (⟨#[64]⟩ : ByteArray)).size + t197.size ≤ 9223372036854775807 then (if ((((⟨#[47, 47]⟩ : ByteArray) ++ t199) ++ (⟨#[64]⟩ : ByteArray)) ++ t197).size + 1 ≤ 9223372036854775807 then ((shibbolethlaw21_without.f kj6 a2 (⟨#[47, 63, 35, 64, 91, 93]⟩ : ByteArray)).bind fun t200 => (if (((((⟨#[47, 47]⟩ : ByteArray) ++ t199) ++ (⟨#[64]⟩ : ByteArray)) ++ t197) ++ (⟨#[58]⟩ : ByteArray)).size + t200.size ≤ 9223372036854775807 then (if ((((((⟨#[47, 47]⟩ : ByteArray) ++ t199) ++ (⟨#[64]⟩ : ByteArray)) ++ t197) ++ (⟨#[58]⟩ : ByteArray)) ++ t200).size + ((⟨#[47]⟩ : ByteArray) ++ t198).size ≤ 9223372036854775807 then (if (((((((⟨#[47, 47]⟩ : ByteArray) ++ t199) ++ (⟨#[64]⟩ : ByteArray)) ++ t197) ++ (⟨#[58]⟩ : ByteArray)) ++ t200) ++ ((⟨#[47]⟩ : ByteArray) ++ t198)).size + 1 ≤ 9223372036854775807 then ((shibbolethlaw21_without.f kj6 a4 (⟨#[35]⟩ : ByteArray)).bind fun t201 => (if ((((((((⟨#[47, 47]⟩ : ByteArray) ++ t199) ++ (⟨#[64]⟩ : ByteArray)) ++ t197) ++ (⟨#[58]⟩ : ByteArray)) ++ t200) ++ ((⟨#[47]⟩ : ByteArray) ++ t198)) ++ (⟨#[63]⟩ : ByteArray)).size + t201.size ≤ 9223372036854775807 then (if (((((((((⟨#[47, 47]⟩ : ByteArray) ++ t199) ++ (⟨#[64]⟩ : ByteArray)) ++ t197) ++ (⟨#[58]⟩ : ByteArray)) ++ t200) ++ ((⟨#[47]⟩ : ByteArray) ++ t198)) ++ (⟨#[63]⟩ : ByteArray)) ++ t201).size + 1 ≤ 9223372036854775807 then (if ((((((((((⟨#[47, 47]⟩ : ByteArray) ++ t199) ++ (⟨#[64]⟩ : ByteArray)) ++ t197) ++ (⟨#[58]⟩ : ByteArray)) ++ t200) ++ ((⟨#[47]⟩ : ByteArray) ++ t198)) ++ (⟨#[63]⟩ : ByteArray)) ++ t201) ++ (⟨#[35]⟩ : ByteArray)).size + a5.size ≤ 9223372036854775807 then ((shibbolethlaw21_without.f kj6 a1 (⟨#[9, 10, 13, 47, 63, 35, 64, 91, 93]⟩ : ByteArray)).bind fun t203 => ((shibbolethlaw21_without.f kj6 a0 (⟨#[47, 63, 35]⟩ : ByteArray)).bind fun t204 => (if 2 + t204.size ≤ 9223372036854775807 then (if ((⟨#[47, 47]⟩ : ByteArray) ++ t204).size + 2 ≤ 9223372036854775807 then (if (((⟨#[47, 47]⟩ : ByteArray) ++ t204) ++ (⟨#[64, 91]⟩ : ByteArray)).size + t203.size ≤ 9223372036854775807 then (if ((((⟨#[47, 47]⟩ : ByteArray) ++ t204) ++ (⟨#[64, 91]⟩ : ByteArray)) ++ t203).size + 1 ≤ 9223372036854775807 then ((shibbolethlaw21_without.f kj6 a2 (⟨#[47, 63, 35, 64]⟩ : ByteArray)).bind fun t205 => (if (((((⟨#[47, 47]⟩ : ByteArray) ++ t204) ++ (⟨#[64, 91]⟩ : ByteArray)) ++ t203) ++ (⟨#[93]⟩ : ByteArray)).size + t205.size ≤ 9223372036854775807 then (if ((((((⟨#[47, 47]⟩ : ByteArray) ++ t204) ++ (⟨#[64, 91]⟩ : ByteArray)) ++ t203) ++ (⟨#[93]⟩ : ByteArray)) ++ t205).size + ((⟨#[47]⟩ : ByteArray) ++ t198).size ≤ 9223372036854775807 then ((pyurl_Parse.f kj6 (((((((((((⟨#[47, 47]⟩ : ByteArray) ++ t199) ++ (⟨#[64]⟩ : ByteArray)) ++ t197) ++ (⟨#[58]⟩ : ByteArray)) ++ t200) ++ ((⟨#[47]⟩ : ByteArray) ++ t198)) ++ (⟨#[63]⟩ : ByteArray)) ++ t201) ++ (⟨#[35]⟩ : ByteArray)) ++ a5)).bind fun bt206 => (if (bt206.1 && (bt206.2.1.toList == t197.toList && (bt206.2.2.toList == (((⟨#[47]⟩ : ByteArray) ++ t198).toList)))) = true then (if 4 + (((((((((((⟨#[47, 47]⟩ : ByteArray) ++ t199) ++ (⟨#[64]⟩ : ByteArray)) ++ t197) ++ (⟨#[58]⟩ : ByteArray)) ++ t200) ++ ((⟨#[47]⟩ : ByteArray) ++ t198)) ++ (⟨#[63]⟩ : ByteArray)) ++ t201) ++ (⟨#[35]⟩ : ByteArray)) ++ a5).size ≤ 9223372036854775807 then ((pyurl_Parse.f kj6 ((⟨#[97, 49, 43, 58]⟩ : ByteArray) ++ (((((((((((⟨#[47, 47]⟩ : ByteArray) ++ t199) ++ (⟨#[64]⟩ : ByteArray)) ++ t197) ++ (⟨#[58]⟩ : ByteArray)) ++ t200) ++ ((⟨#[47]⟩ : ByteArray) ++ t198)) ++ (⟨#[63]⟩ : ByteArray)) ++ t201) ++ (⟨#[35]⟩ : ByteArray)) ++ a5))).bind fun bt209 => (if (bt209.1 && (bt209.2.1.toList == t197.toList && (bt209.2.2.toList == (((⟨#[47]⟩ : ByteArray) ++ t198).toList)))) = true then ((pyurl_Parse.f kj6 (((((((⟨#[47, 47]⟩ : ByteArray) ++ t204) ++ (⟨#[64, 91]⟩ : ByteArray)) ++ t203) ++ (⟨#[93]⟩ : ByteArray)) ++ t205) ++ ((⟨#[47]⟩ : ByteArray) ++ t198))).bind fun bt212 => (if (bt212.1 && (bt212.2.1.toList == t203.toList && (bt212.2.2.toList == (((⟨#[47]⟩ : ByteArray) ++ t198).toList)))) = true then ((shibbolethlaw21_awake.f kj6).bind fun t215 => (some t215)) else (some false))) else (some false))) else (none)) else (some false))) else (none)) else (none))) else (none)) else (none)) else (none)) else (none)))) else (none)) else (none)) else (none))) else (none)) else (none)) else (none))) else (none)) else (none)) else (none)) else (none))) else (none)) = some r := H
        have A17 := Aside0.mk A170
        clear A170
        by_cases c18 : 1 + t198.size ≤ 9223372036854775807
        · rw [if_pos c18] at H
          have c18b0 := eq_true c18
          have c18b1 : decide (1 + t198.size ≤ 9223372036854775807) = true := decide_eq_true c18
          try have c18b2 : (9223372036854775807 < 1 + t198.size) = False := eq_false (Nat.not_lt.2 c18)
          obtain ⟨ji19, hji19⟩ : ∃ j_ : ByteArray, ((⟨#[47]⟩ : ByteArray) ++ t198) = j_ := ⟨_, rfl⟩
          replace H : ((shibbolethlaw21_without.f kj6 a0 (⟨#[47, 63, 35]⟩ : ByteArray)).bind fun t199 => (if 2 + t199.size ≤ 9223372036854775807 then (if ((⟨#[47, 47]⟩ : ByteArray) ++ t199).size + 1 ≤ 9223372036854775807 then (if (((⟨#[47, 47]⟩ : ByteArray) ++ t199) ++ (⟨#[64]⟩ : ByteArray)).size + t197.size ≤ 9223372036854775807 then (if ((((⟨#[47, 47]⟩ : ByteArray) ++ t199) ++ (⟨#[64]⟩ : ByteArray)) ++ t197).size + 1 ≤ 9223372036854775807 then ((shibbolethlaw21_without.f kj6 a2 (⟨#[47, 63, 35, 64, 91, 93]⟩ : ByteArray)).bind fun t200 => (if (((((⟨#[47, 47]⟩ : ByteArray) ++ t199) ++ (⟨#[64]⟩ : ByteArray)) ++ t197) ++ (⟨#[58]⟩ : ByteArray)).size + t200.size ≤ 9223372036854775807 then (if ((((((⟨#[47, 47]⟩ : ByteArray) ++ t199) ++ (⟨#[64]⟩ : ByteArray)) ++ t197) ++ (⟨#[58]⟩ : ByteArray)) ++ t200).size + (ji19).size ≤ 9223372036854775807 then (if (((((((⟨#[47, 47]⟩ : ByteArray) ++ t199) ++ (⟨#[64]⟩ : ByteArray)) ++ t197) ++ (⟨#[58]⟩ : ByteArray)) ++ t200) ++ (ji19)).size + 1 ≤ 9223372036854775807 then ((shibbolethlaw21_without.f kj6 a4 (⟨#[35]⟩ : ByteArray)).bind fun t201 => (if ((((((((⟨#[47, 47]⟩ : ByteArray) ++ t199) ++ (⟨#[64]⟩ : ByteArray)) ++ t197) ++ (⟨#[58]⟩ : ByteArray)) ++ t200) ++ (ji19)) ++ (⟨#[63]⟩ : ByteArray)).size + t201.size ≤ 9223372036854775807 then (if (((((((((⟨#[47, 47]⟩ : ByteArray) ++ t199) ++ (⟨#[64]⟩ : ByteArray)) ++ t197) ++ (⟨#[58]⟩ : ByteArray)) ++ t200) ++ (ji19)) ++ (⟨#[63]⟩ : ByteArray)) ++ t201).size + 1 ≤ 9223372036854775807 then (if ((((((((((⟨#[47, 47]⟩ : ByteArray) ++ t199) ++ (⟨#[64]⟩ : ByteArray)) ++ t197) ++ (⟨#[58]⟩ : ByteArray)) ++ t200) ++ (ji19)) ++ (⟨#[63]⟩ : ByteArray)) ++ t201) ++ (⟨#[35]⟩ : ByteArray)).size + a5.size ≤ 9223372036854775807 then ((shibbolethlaw21_without.f kj6 a1 (⟨#[9, 10, 13, 47, 63, 35, 64, 91, 93]⟩ : ByteArray)).bind fun t203 => ((shibbolethlaw21_without.f kj6 a0 (⟨#[47, 63, 35]⟩ : ByteArray)).bind fun t204 => (if 2 + t204.size ≤ 9223372036854775807 then (if ((⟨#[47, 47]⟩ : ByteArray) ++ t204).size + 2 ≤ 9223372036854775807 then (if (((⟨#[47, 47]⟩ : ByteArray) ++ t204) ++ (⟨#[64, 91]⟩ : ByteArray)).size + t203.size ≤ 9223372036854775807 then (if ((((⟨#[47, 47]⟩ : ByteArray) ++ t204) ++ (⟨#[64, 91]⟩ : ByteArray)) ++ t203).size + 1 ≤ 9223372036854775807 then ((shibbolethlaw21_without.f kj6 a2 (⟨#[47, 63, 35, 64]⟩ : ByteArray)).bind fun t205 => (if (((((⟨#[47, 47]⟩ : ByteArray) ++ t204) ++ (⟨#[64, 91]⟩ : ByteArray)) ++ t203) ++ (⟨#[93]⟩ : ByteArray)).size + t205.size ≤ 9223372036854775807 then (if ((((((⟨#[47, 47]⟩ : ByteArray) ++ t204) ++ (⟨#[64, 91]⟩ : ByteArray)) ++ t203) ++ (⟨#[93]⟩ : ByteArray)) ++ t205).size + (ji19).size ≤ 9223372036854775807 then ((pyurl_Parse.f kj6 (((((((((((⟨#[47, 47]⟩ : ByteArray) ++ t199) ++ (⟨#[64]⟩ : ByteArray)) ++ t197) ++ (⟨#[58]⟩ : ByteArray)) ++ t200) ++ (ji19)) ++ (⟨#[63]⟩ : ByteArray)) ++ t201) ++ (⟨#[35]⟩ : ByteArray)) ++ a5)).bind fun bt206 => (if (bt206.1 && (bt206.2.1.toList == t197.toList && (bt206.2.2.toList == ((ji19).toList)))) = true then (if 4 + (((((((((((⟨#[47, 47]⟩ : ByteArray) ++ t199) ++ (⟨#[64]⟩ : ByteArray)) ++ t197) ++ (⟨#[58]⟩ : ByteArray)) ++ t200) ++ (ji19)) ++ (⟨#[63]⟩ : ByteArray)) ++ t201) ++ (⟨#[35]⟩ : ByteArray)) ++ a5).size ≤ 9223372036854775807 then ((pyurl_Parse.f kj6 ((⟨#[97, 49, 43, 58]⟩ : ByteArray) ++ (((((((((((⟨#[47, 47]⟩ : ByteArray) ++ t199) ++ (⟨#[64]⟩ : ByteArray)) ++ t197) ++ (⟨#[58]⟩ : ByteArray)) ++ t200) ++ (ji19)) ++ (⟨#[63]⟩ : ByteArray)) ++ t201) ++ (⟨#[35]⟩ : ByteArray)) ++ a5))).bind fun bt209 => (if (bt209.1 && (bt209.2.1.toList == t197.toList && (bt209.2.2.toList == ((ji19).toList)))) = true then ((pyurl_Parse.f kj6 (((((((⟨#[47, 47]⟩ : ByteArray) ++ t204) ++ (⟨#[64, 91]⟩ : ByteArray)) ++ t203) ++ (⟨#[93]⟩ : ByteArray)) ++ t205) ++ (ji19))).bind fun bt212 => (if (bt212.1 && (bt212.2.1.toList == t203.toList && (bt212.2.2.toList == ((ji19).toList)))) = true then ((shibbolethlaw21_awake.f kj6).bind fun t215 => (some t215)) else (some false))) else (some false))) else (none)) else (some false))) else (none)) else (none))) else (none)) else (none)) else (none)) else (none)))) else (none)) else (none)) else (none))) else (none)) else (none)) else (none))) else (none)) else (none)) else (none)) else (none))) = some r := by first | (rw [hji19] at H; exact H) | (simp only [hji19] at H ⊢; exact H) | exact H
          (try rw [hji19] at A16)
          (try rw [hji19] at A17)
          replace H := Option.bind_eq_some_iff.mp H
          obtain ⟨t199, A200, H⟩ := H
          replace H : (if 2 + t199.size ≤ 9223372036854775807 then (if ((⟨#[47, 47]⟩ : ByteArray) ++ t199).size + 1 ≤ 9223372036854775807 then (if (((⟨#[47, 47]⟩ : ByteArray) ++ t199) ++ (⟨#[64]⟩ : ByteArray)).size + t197.size ≤ 9223372036854775807 then (if ((((⟨#[47, 47]⟩ : ByteArray) ++ t199) ++ (⟨#[64]⟩ : ByteArray)) ++ t197).size + 1 ≤ 9223372036854775807 then ((shibbolethlaw21_without.f kj6 a2 (⟨#[47, 63, 35, 64, 91, 93]⟩ : ByteArray)).bind fun t200 => (if (((((⟨#[47, 47]⟩ : ByteArray) ++ t199) ++ (⟨#[64]⟩ : ByteArray)) ++ t197) ++ (⟨#[58]⟩ : ByteArray)).size + t200.size ≤ 9223372036854775807 then (if ((((((⟨#[47, 47]⟩ : ByteArray) ++ t199) ++ (⟨#[64]⟩ : ByteArray)) ++ t197) ++ (⟨#[58]⟩ : ByteArray)) ++ t200).size + (ji19).size ≤ 9223372036854775807 then (if (((((((⟨#[47, 47]⟩ : ByteArray) ++ t199) ++ (⟨#[64]⟩ : ByteArray)) ++ t197) ++ (⟨#[58]⟩ : ByteArray)) ++ t200) ++ (ji19)).size + 1 ≤ 9223372036854775807 then ((shibbolethlaw21_without.f kj6 a4 (⟨#[35]⟩ : ByteArray)).bind fun t201 => (if ((((((((⟨#[47, 47]⟩ : ByteArray) ++ t199) ++ (⟨#[64]⟩ : ByteArray)) ++ t197) ++ (⟨#[58]⟩ : ByteArray)) ++ t200) ++ (ji19)) ++ (⟨#[63]⟩ : ByteArray)).size + t201.size ≤ 9223372036854775807 then (if (((((((((⟨#[47, 47]⟩ : ByteArray) ++ t199) ++ (⟨#[64]⟩ : ByteArray)) ++ t197) ++ (⟨#[58]⟩ : ByteArray)) ++ t200) ++ (ji19)) ++ (⟨#[63]⟩ : ByteArray)) ++ t201).size + 1 ≤ 9223372036854775807 then (if ((((((((((⟨#[47, 47]⟩ : ByteArray) ++ t199) ++ (⟨#[64]⟩ : ByteArray)) ++ t197) ++ (⟨#[58]⟩ : ByteArray)) ++ t200) ++ (ji19)) ++ (⟨#[63]⟩ : ByteArray)) ++ t201) ++ (⟨#[35]⟩ : ByteArray)).size + a5.size ≤ 9223372036854775807 then ((shibbolethlaw21_without.f kj6 a1 (⟨#[9, 10, 13, 47, 63, 35, 64, 91, 93]⟩ : ByteArray)).bind fun t203 => ((shibbolethlaw21_without.f kj6 a0 (⟨#[47, 63, 35]⟩ : ByteArray)).bind fun t204 => (if 2 + t204.size ≤ 9223372036854775807 then (if ((⟨#[47, 47]⟩ : ByteArray) ++ t204).size + 2 ≤ 9223372036854775807 then (if (((⟨#[47, 47]⟩ : ByteArray) ++ t204) ++ (⟨#[64, 91]⟩ : ByteArray)).size + t203.size ≤ 9223372036854775807 then (if ((((⟨#[47, 47]⟩ : ByteArray) ++ t204) ++ (⟨#[64, 91]⟩ : ByteArray)) ++ t203).size + 1 ≤ 9223372036854775807 then ((shibbolethlaw21_without.f kj6 a2 (⟨#[47, 63, 35, 64]⟩ : ByteArray)).bind fun t205 => (if (((((⟨#[47, 47]⟩ : ByteArray) ++ t204) ++ (⟨#[64, 91]⟩ : ByteArray)) ++ t203) ++ (⟨#[93]⟩ : ByteArray)).size + t205.size ≤ 9223372036854775807 then (if ((((((⟨#[47, 47]⟩ : ByteArray) ++ t204) ++ (⟨#[64, 91]⟩ : ByteArray)) ++ t203) ++ (⟨#[93]⟩ : ByteArray)) ++ t205).size + (ji19).size ≤ 9223372036854775807 then ((pyurl_Parse.f kj6 (((((((((((⟨#[47, 47]⟩ : ByteArray) ++ t199) ++ (⟨#[64]⟩ : ByteArray)) ++ t197) ++ (⟨#[58]⟩ : ByteArray)) ++ t200) ++ (ji19)) ++ (⟨#[63]⟩ : ByteArray)) ++ t201) ++ (⟨#[35]⟩ : ByteArray)) ++ a5)).bind fun bt206 => (if (bt206.1 && (bt206.2.1.toList == t197.toList && (bt206.2.2.toList == ((ji19).toList)))) = true then (if 4 + (((((((((((⟨#[47, 47]⟩ : ByteArray) ++ t199) ++ (⟨#[64]⟩ : ByteArray)) ++ t197) ++ (⟨#[58]⟩ : ByteArray)) ++ t200) ++ (ji19)) ++ (⟨#[63]⟩ : ByteArray)) ++ t201) ++ (⟨#[35]⟩ : ByteArray)) ++ a5).size ≤ 9223372036854775807 then ((pyurl_Parse.f kj6 ((⟨#[97, 49, 43, 58]⟩ : ByteArray) ++ (((((((((((⟨#[47, 47]⟩ : ByteArray) ++ t199) ++ (⟨#[64]⟩ : ByteArray)) ++ t197) ++ (⟨#[58]⟩ : ByteArray)) ++ t200) ++ (ji19)) ++ (⟨#[63]⟩ : ByteArray)) ++ t201) ++ (⟨#[35]⟩ : ByteArray)) ++ a5))).bind fun bt209 => (if (bt209.1 && (bt209.2.1.toList == t197.toList && (bt209.2.2.toList == ((ji19).toList)))) = true then ((pyurl_Parse.f kj6 (((((((⟨#[47, 47]⟩ : ByteArray) ++ t204) ++ (⟨#[64, 91]⟩ : ByteArray)) ++ t203) ++ (⟨#[93]⟩ : ByteArray)) ++ t205) ++ (ji19))).bind fun bt212 => (if (bt212.1 && (bt212.2.1.toList == t203.toList && (bt212.2.2.toList == ((ji19).toList)))) = true then ((shibbolethlaw21_awake.f kj6).bind fun t215 => (some t215)) else (some false))) else (some false))) else (none)) else (some false))) else (none)) else (none))) else (none)) else (none)) else (none)) else (none)))) else (none)) else (none)) else (none))) else (none)) else (none)) else (none))) else (none)) else (none)) else (none)) else (none)) = some r := H
          have A20 := Aside0.mk A200
          clear A200
          by_cases c21 : 2 + t199.size ≤ 9223372036854775807
          · rw [if_pos c21] at H
            have c21b0 := eq_true c21
            have c21b1 : decide (2 + t199.size ≤ 9223372036854775807) = true := decide_eq_true c21
            try have c21b2 : (9223372036854775807 < 2 + t199.size) = False := eq_false (Nat.not_lt.2 c21)
            obtain ⟨ji22, hji22⟩ : ∃ j_ : ByteArray, ((⟨#[47, 47]⟩ : ByteArray) ++ t199) = j_ := ⟨_, rfl⟩
            replace H : (if (ji22).size + 1 ≤ 9223372036854775807 then (if ((ji22) ++ (⟨#[64]⟩ : ByteArray)).size + t197.size ≤ 9223372036854775807 then (if (((ji22) ++ (⟨#[64]⟩ : ByteArray)) ++ t197).size + 1 ≤ 9223372036854775807 then ((shibbolethlaw21_without.f kj6 a2 (⟨#[47, 63, 35, 64, 91, 93]⟩ : ByteArray)).bind fun t200 => (if ((((ji22) ++ (⟨#[64]⟩ : ByteArray)) ++ t197) ++ (⟨#[58]⟩ : ByteArray)).size + t200.size ≤ 9223372036854775807 then (if (((((ji22) ++ (⟨#[64]⟩ : ByteArray)) ++ t197) ++ (⟨#[58]⟩ : ByteArray)) ++ t200).size + (ji19).size ≤ 9223372036854775807 then (if ((((((ji22) ++ (⟨#[64]⟩ : ByteArray)) ++ t197) ++ (⟨#[58]⟩ : ByteArray)) ++ t200) ++ (ji19)).size + 1 ≤ 9223372036854775807 then ((shibbolethlaw21_without.f kj6 a4 (⟨#[35]⟩ : ByteArray)).bind fun t201 => (if (((((((ji22) ++ (⟨#[64]⟩ : ByteArray)) ++ t197) ++ (⟨#[58]⟩ : ByteArray)) ++ t200) ++ (ji19)) ++ (⟨#[63]⟩ : ByteArray)).size + t201.size ≤ 9223372036854775807 then (if ((((((((ji22) ++ (⟨#[64]⟩ : ByteArray)) ++ t197) ++ (⟨#[58]⟩ : ByteArray)) ++ t200) ++ (ji19)) ++ (⟨#[63]⟩ : ByteArray)) ++ t201).size + 1 ≤ 9223372036854775807 then (if (((((((((ji22) ++ (⟨#[64]⟩ : ByteArray)) ++ t197) ++ (⟨#[58]⟩ : ByteArray)) ++ t200) ++ (ji19)) ++ (⟨#[63]⟩ : ByteArray)) ++ t201) ++ (⟨#[35]⟩ : ByteArray)).size + a5.size ≤ 9223372036854775807 then ((shibbolethlaw21_without.f kj6 a1 (⟨#[9, 10, 13, 47, 63, 35, 64, 91, 93]⟩ : ByteArray)).bind fun t203 => ((shibbolethlaw21_without.f kj6 a0 (⟨#[47, 63, 35]⟩ : ByteArray)).bind fun t204 => (if 2 + t204.size ≤ 9223372036854775807 then (if ((⟨#[47, 47]⟩ : ByteArray) ++ t204).size + 2 ≤ 9223372036854775807 then (if (((⟨#[47, 47]⟩ : ByteArray) ++ t204) ++ (⟨#[64, 91]⟩ : ByteArray)).size + t203.size ≤ 9223372036854775807 then (if ((((⟨#[47, 47]⟩ : ByteArray) ++ t204) ++ (⟨#[64, 91]⟩ : ByteArray)) ++ t203).size + 1 ≤ 9223372036854775807 then ((shibbolethlaw21_without.f kj6 a2 (⟨#[47, 63, 35, 64]⟩ : ByteArray)).bind fun t205 => (if (((((⟨#[47, 47]⟩ : ByteArray) ++ t204) ++ (⟨#[64, 91]⟩ : ByteArray)) ++ t203) ++ (⟨#[93]⟩ : ByteArray)).size + t205.size ≤ 9223372036854775807 then (if ((((((⟨#[47, 47]⟩ : ByteArray) ++ t204) ++ (⟨#[64, 91]⟩ : ByteArray)) ++ t203) ++ (⟨#[93]⟩ : ByteArray)) ++ t205).size + (ji19).size ≤ 9223372036854775807 then ((pyurl_Parse.f kj6 ((((((((((ji22) ++ (⟨#[64]⟩ : ByteArray)) ++ t197) ++ (⟨#[58]⟩ : ByteArray)) ++ t200) ++ (ji19)) ++ (⟨#[63]⟩ : ByteArray)) ++ t201) ++ (⟨#[35]⟩ : ByteArray)) ++ a5)).bind fun bt206 => (if (bt206.1 && (bt206.2.1.toList == t197.toList && (bt206.2.2.toList == ((ji19).toList)))) = true then (if 4 + ((((((((((ji22) ++ (⟨#[64]⟩ : ByteArray)) ++ t197) ++ (⟨#[58]⟩ : ByteArray)) ++ t200) ++ (ji19)) ++ (⟨#[63]⟩ : ByteArray)) ++ t201) ++ (⟨#[35]⟩ : ByteArray)) ++ a5).size ≤ 9223372036854775807 then ((pyurl_Parse.f kj6 ((⟨#[97, 49, 43, 58]⟩ : ByteArray) ++ ((((((((((ji22) ++ (⟨#[64]⟩ : ByteArray)) ++ t197) ++ (⟨#[58]⟩ : ByteArray)) ++ t200) ++ (ji19)) ++ (⟨#[63]⟩ : ByteArray)) ++ t201) ++ (⟨#[35]⟩ : ByteArray)) ++ a5))).bind fun bt209 => (if (bt209.1 && (bt209.2.1.toList == t197.toList && (bt209.2.2.toList == ((ji19).toList)))) = true then ((pyurl_Parse.f kj6 (((((((⟨#[47, 47]⟩ : ByteArray) ++ t204) ++ (⟨#[64, 91]⟩ : ByteArray)) ++ t203) ++ (⟨#[93]⟩ : ByteArray)) ++ t205) ++ (ji19))).bind fun bt212 => (if (bt212.1 && (bt212.2.1.toList == t203.toList && (bt212.2.2.toList == ((ji19).toList)))) = true then ((shibbolethlaw21_awake.f kj6).bind fun t215 => (some t215)) else (some false))) else (some false))) else (none)) else (some false))) else (none)) else (none))) else (none)) else (none)) else (none)) else (none)))) else (none)) else (none)) else (none))) else (none)) else (none)) else (none))) else (none)) else (none)) else (none)) = some r := by first | (rw [hji22] at H; exact H) | (simp only [hji22] at H ⊢; exact H) | exact H
            (try rw [hji22] at A16)
            (try rw [hji22] at A17)
            (try rw [hji22] at A20)
            by_cases c23 : (ji22).size + 1 ≤ 9223372036854775807
            · rw [if_pos c23] at H
              have c23b0 := eq_true c23
              have c23b1 : decide ((ji22).size + 1 ≤ 9223372036854775807) = true := decide_eq_true c23
              try have c23b2 : (9223372036854775807 < (ji22).size + 1) = False := eq_false (Nat.not_lt.2 c23)
              obtain ⟨ji24, hji24⟩ : ∃ j_ : ByteArray, ((ji22) ++ (⟨#[64]⟩ : ByteArray)) = j_ := ⟨_, rfl⟩
              replace H : (if (ji24).size + t197.size ≤ 9223372036854775807 then (if ((ji24) ++ t197).size + 1 ≤ 9223372036854775807 then ((shibbolethlaw21_without.f kj6 a2 (⟨#[47, 63, 35, 64, 91, 93]⟩ : ByteArray)).bind fun t200 => (if (((ji24) ++ t197) ++ (⟨#[58]⟩ : ByteArray)).size + t200.size ≤ 9223372036854775807 then (if ((((ji24) ++ t197) ++ (⟨#[58]⟩ : ByteArray)) ++ t200).size + (ji19).size ≤ 9223372036854775807 then (if (((((ji24) ++ t197) ++ (⟨#[58]⟩ : ByteArray)) ++ t200) ++ (ji19)).size + 1 ≤ 9223372036854775807 then ((shibbolethlaw21_without.f kj6 a4 (⟨#[35]⟩ : ByteArray)).bind fun t201 => (if ((((((ji24) ++ t197) ++ (⟨#[58]⟩ : ByteArray)) ++ t200) ++ (ji19)) ++ (⟨#[63]⟩ : ByteArray)).size + t201.size ≤ 9223372036854775807 then (if (((((((ji24) ++ t197) ++ (⟨#[58]⟩ : ByteArray)) ++ t200) ++ (ji19)) ++ (⟨#[63]⟩ : ByteArray)) ++ t201).size + 1 ≤ 9223372036854775807 then (if ((((((((ji24) ++ t197) ++ (⟨#[58]⟩ : ByteArray)) ++ t200) ++ (ji19)) ++ (⟨#[63]⟩ : ByteArray)) ++ t201) ++ (⟨#[35]⟩ : ByteArray)).size + a5.size ≤ 9223372036854775807 then ((shibbolethlaw21_without.f kj6 a1 (⟨#[9, 10, 13, 47, 63, 35, 64, 91, 93]⟩ : ByteArray)).bind fun t203 => ((shibbolethlaw21_without.f kj6 a0 (⟨#[47, 63, 35]⟩ : ByteArray)).bind fun t204 => (if 2 + t204.size ≤ 9223372036854775807 then (if ((⟨#[47, 47]⟩ : ByteArray) ++ t204).size + 2 ≤ 9223372036854775807 then (if (((⟨#[47, 47]⟩ : ByteArray) ++ t204) ++ (⟨#[64, 91]⟩ : ByteArray)).size + t203.size ≤ 9223372036854775807 then (if ((((⟨#[47, 47]⟩ : ByteArray) ++ t204) ++ (⟨#[64, 91]⟩ : ByteArray)) ++ t203).size + 1 ≤ 9223372036854775807 then ((shibbolethlaw21_without.f kj6 a2 (⟨#[47, 63, 35, 64]⟩ : ByteArray)).bind fun t205 => (if (((((⟨#[47, 47]⟩ : ByteArray) ++ t204) ++ (⟨#[64, 91]⟩ : ByteArray)) ++ t203) ++ (⟨#[93]⟩ : ByteArray)).size + t205.size ≤ 9223372036854775807 then (if ((((((⟨#[47, 47]⟩ : ByteArray) ++ t204) ++ (⟨#[64, 91]⟩ : ByteArray)) ++ t203) ++ (⟨#[93]⟩ : ByteArray)) ++ t205).size + (ji19).size ≤ 9223372036854775807 then ((pyurl_Parse.f kj6 (((((((((ji24) ++ t197) ++ (⟨#[58]⟩ : ByteArray)) ++ t200) ++ (ji19)) ++ (⟨#[63]⟩ : ByteArray)) ++ t201) ++ (⟨#[35]⟩ : ByteArray)) ++ a5)).bind fun bt206 => (if (bt206.1 && (bt206.2.1.toList == t197.toList && (bt206.2.2.toList == ((ji19).toList)))) = true then (if 4 + (((((((((ji24) ++ t197) ++ (⟨#[58]⟩ : ByteArray)) ++ t200) ++ (ji19)) ++ (⟨#[63]⟩ : ByteArray)) ++ t201) ++ (⟨#[35]⟩ : ByteArray)) ++ a5).size ≤ 9223372036854775807 then ((pyurl_Parse.f kj6 ((⟨#[97, 49, 43, 58]⟩ : ByteArray) ++ (((((((((ji24) ++ t197) ++ (⟨#[58]⟩ : ByteArray)) ++ t200) ++ (ji19)) ++ (⟨#[63]⟩ : ByteArray)) ++ t201) ++ (⟨#[35]⟩ : ByteArray)) ++ a5))).bind fun bt209 => (if (bt209.1 && (bt209.2.1.toList == t197.toList && (bt209.2.2.toList == ((ji19).toList)))) = true then ((pyurl_Parse.f kj6 (((((((⟨#[47, 47]⟩ : ByteArray) ++ t204) ++ (⟨#[64, 91]⟩ : ByteArray)) ++ t203) ++ (⟨#[93]⟩ : ByteArray)) ++ t205) ++ (ji19))).bind fun bt212 => (if (bt212.1 && (bt212.2.1.toList == t203.toList && (bt212.2.2.toList == ((ji19).toList)))) = true then ((shibbolethlaw21_awake.f kj6).bind fun t215 => (some t215)) else (some false))) else (some false))) else (none)) else (some false))) else (none)) else (none))) else (none)) else (none)) else (none)) else (none)))) else (none)) else (none)) else (none))) else (none)) else (none)) else (none))) else (none)) else (none)) = some r := by first | (rw [hji24] at H; exact H) | (simp only [hji24] at H ⊢; exact H) | exact H
              (try rw [hji24] at A16)
              (try rw [hji24] at A17)
              (try rw [hji24] at A20)
              by_cases c25 : (ji24).size + t197.size ≤ 9223372036854775807
              · rw [if_pos c25] at H
                have c25b0 := eq_true c25
                have c25b1 : decide ((ji24).size + t197.size ≤ 9223372036854775807) = true := decide_eq_true c25
                try have c25b2 : (9223372036854775807 < (ji24).size + t197.size) = False := eq_false (Nat.not_lt.2 c25)
                obtain ⟨ji26, hji26⟩ : ∃ j_ : ByteArray, ((ji24) ++ t197) = j_ := ⟨_, rfl⟩
                replace H : (if (ji26).size + 1 ≤ 9223372036854775807 then ((shibbolethlaw21_without.f kj6 a2 (⟨#[47, 63, 35, 64, 91, 93]⟩ : ByteArray)).bind fun t200 => (if ((ji26) ++ (⟨#[58]⟩ : ByteArray)).size + t200.size ≤ 9223372036854775807 then (if (((ji26) ++ (⟨#[58]⟩ : ByteArray)) ++ t200).size + (ji19).size ≤ 9223372036854775807 then (if ((((ji26) ++ (⟨#[58]⟩ : ByteArray)) ++ t200) ++ (ji19)).size + 1 ≤ 9223372036854775807 then ((shibbolethlaw21_without.f kj6 a4 (⟨#[35]⟩ : ByteArray)).bind fun t201 => (if (((((ji26) ++ (⟨#[58]⟩ : ByteArray)) ++ t200) ++ (ji19)) ++ (⟨#[63]⟩ : ByteArray)).size + t201.size ≤ 9223372036854775807 then (if ((((((ji26) ++ (⟨#[58]⟩ : ByteArray)) ++ t200) ++ (ji19)) ++ (⟨#[63]⟩ : ByteArray)) ++ t201).size + 1 ≤ 9223372036854775807 then (if (((((((ji26) ++ (⟨#[58]⟩ : ByteArray)) ++ t200) ++ (ji19)) ++ (⟨#[63]⟩ : ByteArray)) ++ t201) ++ (⟨#[35]⟩ : ByteArray)).size + a5.size ≤ 9223372036854775807 then ((shibbolethlaw21_without.f kj6 a1 (⟨#[9, 10, 13, 47, 63, 35, 64, 91, 93]⟩ : ByteArray)).bind fun t203 => ((shibbolethlaw21_without.f kj6 a0 (⟨#[47, 63, 35]⟩ : ByteArray)).bind fun t204 => (if 2 + t204.size ≤ 9223372036854775807 then (if ((⟨#[47, 47]⟩ : ByteArray) ++ t204).size + 2 ≤ 9223372036854775807 then (if (((⟨#[47, 47]⟩ : ByteArray) ++ t204) ++ (⟨#[64, 91]⟩ : ByteArray)).size + t203.size ≤ 9223372036854775807 then (if ((((⟨#[47, 47]⟩ : ByteArray) ++ t204) ++ (⟨#[64, 91]⟩ : ByteArray)) ++ t203).size + 1 ≤ 9223372036854775807 then ((shibbolethlaw21_without.f kj6 a2 (⟨#[47, 63, 35, 64]⟩ : ByteArray)).bind fun t205 => (if (((((⟨#[47, 47]⟩ : ByteArray) ++ t204) ++ (⟨#[64, 91]⟩ : ByteArray)) ++ t203) ++ (⟨#[93]⟩ : ByteArray)).size + t205.size ≤ 9223372036854775807 then (if ((((((⟨#[47, 47]⟩ : ByteArray) ++ t204) ++ (⟨#[64, 91]⟩ : ByteArray)) ++ t203) ++ (⟨#[93]⟩ : ByteArray)) ++ t205).size + (ji19).size ≤ 9223372036854775807 then ((pyurl_Parse.f kj6 ((((((((ji26) ++ (⟨#[58]⟩ : ByteArray)) ++ t200) ++ (ji19)) ++ (⟨#[63]⟩ : ByteArray)) ++ t201) ++ (⟨#[35]⟩ : ByteArray)) ++ a5)).bind fun bt206 => (if (bt206.1 && (bt206.2.1.toList == t197.toList && (bt206.2.2.toList == ((ji19).toList)))) = true then (if 4 + ((((((((ji26) ++ (⟨#[58]⟩ : ByteArray)) ++ t200) ++ (ji19)) ++ (⟨#[63]⟩ : ByteArray)) ++ t201) ++ (⟨#[35]⟩ : ByteArray)) ++ a5).size ≤ 9223372036854775807 then ((pyurl_Parse.f kj6 ((⟨#[97, 49, 43, 58]⟩ : ByteArray) ++ ((((((((ji26) ++ (⟨#[58]⟩ : ByteArray)) ++ t200) ++ (ji19)) ++ (⟨#[63]⟩ : ByteArray)) ++ t201) ++ (⟨#[35]⟩ : ByteArray)) ++ a5))).bind fun bt209 => (if (bt209.1 && (bt209.2.1.toList == t197.toList && (bt209.2.2.toList == ((ji19).toList)))) = true then ((pyurl_Parse.f kj6 (((((((⟨#[47, 47]⟩ : ByteArray) ++ t204) ++ (⟨#[64, 91]⟩ : ByteArray)) ++ t203) ++ (⟨#[93]⟩ : ByteArray)) ++ t205) ++ (ji19))).bind fun bt212 => (if (bt212.1 && (bt212.2.1.toList == t203.toList && (bt212.2.2.toList == ((ji19).toList)))) = true then ((shibbolethlaw21_awake.f kj6).bind fun t215 => (some t215)) else (some false))) else (some false))) else (none)) else (some false))) else (none)) else (none))) else (none)) else (none)) else (none)) else (none)))) else (none)) else (none)) else (none))) else (none)) else (none)) else (none))) else (none)) = some r := by first | (rw [hji26] at H; exact H) | (simp only [hji26] at H ⊢; exact H) | exact H
                (try rw [hji26] at A16)
                (try rw [hji26] at A17)
                (try rw [hji26] at A20)
                by_cases c27 : (ji26).size + 1 ≤ 9223372036854775807
                · rw [if_pos c27] at H
                  have c27b0 := eq_true c27
                  have c27b1 : decide ((ji26).size + 1 ≤ 9223372036854775807) = true := decide_eq_true c27
                  try have c27b2 : (9223372036854775807 < (ji26).size + 1) = False := eq_false (Nat.not_lt.2 c27)
                  obtain ⟨ji28, hji28⟩ : ∃ j_ : ByteArray, ((ji26) ++ (⟨#[58]⟩ : ByteArray)) = j_ := ⟨_, rfl⟩
                  replace H : ((shibbolethlaw21_without.f kj6 a2 (⟨#[47, 63, 35, 64, 91, 93]⟩ : ByteArray)).bind fun t200 => (if (ji28).size + t200.size ≤ 9223372036854775807 then (if ((ji28) ++ t200).size + (ji19).size ≤ 9223372036854775807 then (if (((ji28) ++ t200) ++ (ji19)).size + 1 ≤ 9223372036854775807 then ((shibbolethlaw21_without.f kj6 a4 (⟨#[35]⟩ : ByteArray)).bind fun t201 => (if ((((ji28) ++ t200) ++ (ji19)) ++ (⟨#[63]⟩ : ByteArray)).size + t201.size ≤ 9223372036854775807 then (if (((((ji28) ++ t200) ++ (ji19)) ++ (⟨#[63]⟩ : ByteArray)) ++ t201).size + 1 ≤ 9223372036854775807 then (if ((((((ji28) ++ t200) ++ (ji19)) ++ (⟨#[63]⟩ : ByteArray)) ++ t201) ++ (⟨#[35]⟩ : ByteArray)).size + a5.size ≤ 9223372036854775807 then ((shibbolethlaw21_without.f kj6 a1 (⟨#[9, 10, 13, 47, 63, 35, 64, 91, 93]⟩ : ByteArray)).bind fun t203 => ((shibbolethlaw21_without.f kj6 a0 (⟨#[47, 63, 35]⟩ : ByteArray)).bind fun t204 => (if 2 + t204.size ≤ 9223372036854775807 then (if ((⟨#[47, 47]⟩ : ByteArray) ++ t204).size + 2 ≤ 9223372036854775807 then (if (((⟨#[47, 47]⟩ : ByteArray) ++ t204) ++ (⟨#[64, 91]⟩ : ByteArray)).size + t203.size ≤ 9223372036854775807 then (if ((((⟨#[47, 47]⟩ : ByteArray) ++ t204) ++ (⟨#[64, 91]⟩ : ByteArray)) ++ t203).size + 1 ≤ 9223372036854775807 then ((shibbolethlaw21_without.f kj6 a2 (⟨#[47, 63, 35, 64]⟩ : ByteArray)).bind fun t205 => (if (((((⟨#[47, 47]⟩ : ByteArray) ++ t204) ++ (⟨#[64, 91]⟩ : ByteArray)) ++ t203) ++ (⟨#[93]⟩ : ByteArray)).size + t205.size ≤ 9223372036854775807 then (if ((((((⟨#[47, 47]⟩ : ByteArray) ++ t204) ++ (⟨#[64, 91]⟩ : ByteArray)) ++ t203) ++ (⟨#[93]⟩ : ByteArray)) ++ t205).size + (ji19).size ≤ 9223372036854775807 then ((pyurl_Parse.f kj6 (((((((ji28) ++ t200) ++ (ji19)) ++ (⟨#[63]⟩ : ByteArray)) ++ t201) ++ (⟨#[35]⟩ : ByteArray)) ++ a5)).bind fun bt206 => (if (bt206.1 && (bt206.2.1.toList == t197.toList && (bt206.2.2.toList == ((ji19).toList)))) = true then (if 4 + (((((((ji28) ++ t200) ++ (ji19)) ++ (⟨#[63]⟩ : ByteArray)) ++ t201) ++ (⟨#[35]⟩ : ByteArray)) ++ a5).size ≤ 9223372036854775807 then ((pyurl_Parse.f kj6 ((⟨#[97, 49, 43, 58]⟩ : ByteArray) ++ (((((((ji28) ++ t200) ++ (ji19)) ++ (⟨#[63]⟩ : ByteArray)) ++ t201) ++ (⟨#[35]⟩ : ByteArray)) ++ a5))).bind fun bt209 => (if (bt209.1 && (bt209.2.1.toList == t197.toList && (bt209.2.2.toList == ((ji19).toList)))) = true then ((pyurl_Parse.f kj6 (((((((⟨#[47, 47]⟩ : ByteArray) ++ t204) ++ (⟨#[64, 91]⟩ : ByteArray)) ++ t203) ++ (⟨#[93]⟩ : ByteArray)) ++ t205) ++ (ji19))).bind fun bt212 => (if (bt212.1 && (bt212.2.1.toList == t203.toList && (bt212.2.2.toList == ((ji19).toList)))) = true then ((shibbolethlaw21_awake.f kj6).bind fun t215 => (some t215)) else (some false))) else (some false))) else (none)) else (some false))) else (none)) else (none))) else (none)) else (none)) else (none)) else (none)))) else (none)) else (none)) else (none))) else (none)) else (none)) else (none))) = some r := by first | (rw [hji28] at H; exact H) | (simp only [hji28] at H ⊢; exact H) | exact H
                  (try rw [hji28] at A16)
                  (try rw [hji28] at A17)
                  (try rw [hji28] at A20)
                  replace H := Option.bind_eq_some_iff.mp H
                  obtain ⟨t200, A290, H⟩ := H
                  replace H : (if (ji28).size + t200.size ≤ 9223372036854775807 then (if ((ji28) ++ t200).size + (ji19).size ≤ 9223372036854775807 then (if (((ji28) ++ t200) ++ (ji19)).size + 1 ≤ 9223372036854775807 then ((shibbolethlaw21_without.f kj6 a4 (⟨#[35]⟩ : ByteArray)).bind fun t201 => (if ((((ji28) ++ t200) ++ (ji19)) ++ (⟨#[63]⟩ : ByteArray)).size + t201.size ≤ 9223372036854775807 then (if (((((ji28) ++ t200) ++ (ji19)) ++ (⟨#[63]⟩ : ByteArray)) ++ t201).size + 1 ≤ 9223372036854775807 then (if ((((((ji28) ++ t200) ++ (ji19)) ++ (⟨#[63]⟩ : ByteArray)) ++ t201) ++ (⟨#[35]⟩ : ByteArray)).size + a5.size ≤ 9223372036854775807 then ((shibbolethlaw21_without.f kj6 a1 (⟨#[9, 10, 13, 47, 63, 35, 64, 91, 93]⟩ : ByteArray)).bind fun t203 => ((shibbolethlaw21_without.f kj6 a0 (⟨#[47, 63, 35]⟩ : ByteArray)).bind fun t204 => (if 2 + t204.size ≤ 9223372036854775807 then (if ((⟨#[47, 47]⟩ : ByteArray) ++ t204).size + 2 ≤ 9223372036854775807 then (if (((⟨#[47, 47]⟩ : ByteArray) ++ t204) ++ (⟨#[64, 91]⟩ : ByteArray)).size + t203.size ≤ 9223372036854775807 then (if ((((⟨#[47, 47]⟩ : ByteArray) ++ t204) ++ (⟨#[64, 91]⟩ : ByteArray)) ++ t203).size + 1 ≤ 9223372036854775807 then ((shibbolethlaw21_without.f kj6 a2 (⟨#[47, 63, 35, 64]⟩ : ByteArray)).bind fun t205 => (if (((((⟨#[47, 47]⟩ : ByteArray) ++ t204) ++ (⟨#[64, 91]⟩ : ByteArray)) ++ t203) ++ (⟨#[93]⟩ : ByteArray)).size + t205.size ≤ 9223372036854775807 then (if ((((((⟨#[47, 47]⟩ : ByteArray) ++ t204) ++ (⟨#[64, 91]⟩ : ByteArray)) ++ t203) ++ (⟨#[93]⟩ : ByteArray)) ++ t205).size + (ji19).size ≤ 9223372036854775807 then ((pyurl_Parse.f kj6 (((((((ji28) ++ t200) ++ (ji19)) ++ (⟨#[63]⟩ : ByteArray)) ++ t201) ++ (⟨#[35]⟩ : ByteArray)) ++ a5)).bind fun bt206 => (if (bt206.1 && (bt206.2.1.toList == t197.toList && (bt206.2.2.toList == ((ji19).toList)))) = true then (if 4 + (((((((ji28) ++ t200) ++ (ji19)) ++ (⟨#[63]⟩ : ByteArray)) ++ t201) ++ (⟨#[35]⟩ : ByteArray)) ++ a5).size ≤ 9223372036854775807 then ((pyurl_Parse.f kj6 ((⟨#[97, 49, 43, 58]⟩ : ByteArray) ++ (((((((ji28) ++ t200) ++ (ji19)) ++ (⟨#[63]⟩ : ByteArray)) ++ t201) ++ (⟨#[35]⟩ : ByteArray)) ++ a5))).bind fun bt209 => (if (bt209.1 && (bt209.2.1.toList == t197.toList && (bt209.2.2.toList == ((ji19).toList)))) = true then ((pyurl_Parse.f kj6 (((((((⟨#[47, 47]⟩ : ByteArray) ++ t204) ++ (⟨#[64, 91]⟩ : ByteArray)) ++ t203) ++ (⟨#[93]⟩ : ByteArray)) ++ t205) ++ (ji19))).bind fun bt212 => (if (bt212.1 && (bt212.2.1.toList == t203.toList && (bt212.2.2.toList == ((ji19).toList)))) = true then ((shibbolethlaw21_awake.f kj6).bind fun t215 => (some t215)) else (some false))) else (some false))) else (none)) else (some false))) else (none)) else (none))) else (none)) else (none)) else (none)) else (none)))) else (none)) else (none)) else (none))) else (none)) else (none)) else (none)) = some r := H
                  have A29 := Aside0.mk A290
                  clear A290
                  by_cases c30 : (ji28).size + t200.size ≤ 9223372036854775807
                  · rw [if_pos c30] at H
                    have c30b0 := eq_true c30
                    have c30b1 : decide ((ji28).size + t200.size ≤ 9223372036854775807) = true := decide_eq_true c30
                    try have c30b2 : (9223372036854775807 < (ji28).size + t200.size) = False := eq_false (Nat.not_lt.2 c30)
                    obtain ⟨ji31, hji31⟩ : ∃ j_ : ByteArray, ((ji28) ++ t200) = j_ := ⟨_, rfl⟩
                    replace H : (if (ji31).size + (ji19).size ≤ 9223372036854775807 then (if ((ji31) ++ (ji19)).size + 1 ≤ 9223372036854775807 then ((shibbolethlaw21_without.f kj6 a4 (⟨#[35]⟩ : ByteArray)).bind fun t201 => (if (((ji31) ++ (ji19)) ++ (⟨#[63]⟩ : ByteArray)).size + t201.size ≤ 9223372036854775807 then (if ((((ji31) ++ (ji19)) ++ (⟨#[63]⟩ : ByteArray)) ++ t201).size + 1 ≤ 9223372036854775807 then (if (((((ji31) ++ (ji19)) ++ (⟨#[63]⟩ : ByteArray)) ++ t201) ++ (⟨#[35]⟩ : ByteArray)).size + a5.size ≤ 9223372036854775807 then ((shibbolethlaw21_without.f kj6 a1 (⟨#[9, 10, 13, 47, 63, 35, 64, 91, 93]⟩ : ByteArray)).bind fun t203 => ((shibbolethlaw21_without.f kj6 a0 (⟨#[47, 63, 35]⟩ : ByteArray)).bind fun t204 => (if 2 + t204.size ≤ 9223372036854775807 then (if ((⟨#[47, 47]⟩ : ByteArray) ++ t204).size + 2 ≤ 9223372036854775807 then (if (((⟨#[47, 47]⟩ : ByteArray) ++ t204) ++ (⟨#[64, 91]⟩ : ByteArray)).size + t203.size ≤ 9223372036854775807 then (if ((((⟨#[47, 47]⟩ : ByteArray) ++ t204) ++ (⟨#[64, 91]⟩ : ByteArray)) ++ t203).size + 1 ≤ 9223372036854775807 then ((shibbolethlaw21_without.f kj6 a2 (⟨#[47, 63, 35, 64]⟩ : ByteArray)).bind fun t205 => (if (((((⟨#[47, 47]⟩ : ByteArray) ++ t204) ++ (⟨#[64, 91]⟩ : ByteArray)) ++ t203) ++ (⟨#[93]⟩ : ByteArray)).size + t205.size ≤ 9223372036854775807 then (if ((((((⟨#[47, 47]⟩ : ByteArray) ++ t204) ++ (⟨#[64, 91]⟩ : ByteArray)) ++ t203) ++ (⟨#[93]⟩ : ByteArray)) ++ t205).size + (ji19).size ≤ 9223372036854775807 then ((pyurl_Parse.f kj6 ((((((ji31) ++ (ji19)) ++ (⟨#[63]⟩ : ByteArray)) ++ t201) ++ (⟨#[35]⟩ : ByteArray)) ++ a5)).bind fun bt206 => (if (bt206.1 && (bt206.2.1.toList == t197.toList && (bt206.2.2.toList == ((ji19).toList)))) = true then (if 4 + ((((((ji31) ++ (ji19)) ++ (⟨#[63]⟩ : ByteArray)) ++ t201) ++ (⟨#[35]⟩ : ByteArray)) ++ a5).size ≤ 9223372036854775807 then ((pyurl_Parse.f kj6 ((⟨#[97, 49, 43, 58]⟩ : ByteArray) ++ ((((((ji31) ++ (ji19)) ++ (⟨#[63]⟩ : ByteArray)) ++ t201) ++ (⟨#[35]⟩ : ByteArray)) ++ a5))).bind fun bt209 => (if (bt209.1 && (bt209.2.1.toList == t197.toList && (bt209.2.2.toList == ((ji19).toList)))) = true then ((pyurl_Parse.f kj6 (((((((⟨#[47, 47]⟩ : ByteArray) ++ t204) ++ (⟨#[64, 91]⟩ : ByteArray)) ++ t203) ++ (⟨#[93]⟩ : ByteArray)) ++ t205) ++ (ji19))).bind fun bt212 => (if (bt212.1 && (bt212.2.1.toList == t203.toList && (bt212.2.2.toList == ((ji19).toList)))) = true then ((shibbolethlaw21_awake.f kj6).bind fun t215 => (some t215)) else (some false))) else (some false))) else (none)) else (some false))) else (none)) else (none))) else (none)) else (none)) else (none)) else (none)))) else (none)) else (none)) else (none))) else (none)) else (none)) = some r := by first | (rw [hji31] at H; exact H) | (simp only [hji31] at H ⊢; exact H) | exact H
                    (try rw [hji31] at A16)
                    (try rw [hji31] at A17)
                    (try rw [hji31] at A20)
                    (try rw [hji31] at A29)
                    by_cases c32 : (ji31).size + (ji19).size ≤ 9223372036854775807
                    · rw [if_pos c32] at H
                      have c32b0 := eq_true c32
                      have c32b1 : decide ((ji31).size + (ji19).size ≤ 9223372036854775807) = true := decide_eq_true c32
                      try have c32b2 : (9223372036854775807 < (ji31).size + (ji19).size) = False := eq_false (Nat.not_lt.2 c32)
                      obtain ⟨ji33, hji33⟩ : ∃ j_ : ByteArray, ((ji31) ++ (ji19)) = j_ := ⟨_, rfl⟩
                      replace H : (if (ji33).size + 1 ≤ 9223372036854775807 then ((shibbolethlaw21_without.f kj6 a4 (⟨#[35]⟩ : ByteArray)).bind fun t201 => (if ((ji33) ++ (⟨#[63]⟩ : ByteArray)).size + t201.size ≤ 9223372036854775807 then (if (((ji33) ++ (⟨#[63]⟩ : ByteArray)) ++ t201).size + 1 ≤ 9223372036854775807 then (if ((((ji33) ++ (⟨#[63]⟩ : ByteArray)) ++ t201) ++ (⟨#[35]⟩ : ByteArray)).size + a5.size ≤ 9223372036854775807 then ((shibbolethlaw21_without.f kj6 a1 (⟨#[9, 10, 13, 47, 63, 35, 64, 91, 93]⟩ : ByteArray)).bind fun t203 => ((shibbolethlaw21_without.f kj6 a0 (⟨#[47, 63, 35]⟩ : ByteArray)).bind fun t204 => (if 2 + t204.size ≤ 9223372036854775807 then (if ((⟨#[47, 47]⟩ : ByteArray) ++ t204).size + 2 ≤ 9223372036854775807 then (if (((⟨#[47, 47]⟩ : ByteArray) ++ t204) ++ (⟨#[64, 91]⟩ : ByteArray)).size + t203.size ≤ 9223372036854775807 then (if ((((⟨#[47, 47]⟩ : ByteArray) ++ t204) ++ (⟨#[64, 91]⟩ : ByteArray)) ++ t203).size + 1 ≤ 9223372036854775807 then ((shibbolethlaw21_without.f kj6 a2 (⟨#[47, 63, 35, 64]⟩ : ByteArray)).bind fun t205 => (if (((((⟨#[47, 47]⟩ : ByteArray) ++ t204) ++ (⟨#[64, 91]⟩ : ByteArray)) ++ t203) ++ (⟨#[93]⟩ : ByteArray)).size + t205.size ≤ 9223372036854775807 then (if ((((((⟨#[47, 47]⟩ : ByteArray) ++ t204) ++ (⟨#[64, 91]⟩ : ByteArray)) ++ t203) ++ (⟨#[93]⟩ : ByteArray)) ++ t205).size + (ji19).size ≤ 9223372036854775807 then ((pyurl_Parse.f kj6 (((((ji33) ++ (⟨#[63]⟩ : ByteArray)) ++ t201) ++ (⟨#[35]⟩ : ByteArray)) ++ a5)).bind fun bt206 => (if (bt206.1 && (bt206.2.1.toList == t197.toList && (bt206.2.2.toList == ((ji19).toList)))) = true then (if 4 + (((((ji33) ++ (⟨#[63]⟩ : ByteArray)) ++ t201) ++ (⟨#[35]⟩ : ByteArray)) ++ a5).size ≤ 9223372036854775807 then ((pyurl_Parse.f kj6 ((⟨#[97, 49, 43, 58]⟩ : ByteArray) ++ (((((ji33) ++ (⟨#[63]⟩ : ByteArray)) ++ t201) ++ (⟨#[35]⟩ : ByteArray)) ++ a5))).bind fun bt209 => (if (bt209.1 && (bt209.2.1.toList == t197.toList && (bt209.2.2.toList == ((ji19).toList)))) = true then ((pyurl_Parse.f kj6 (((((((⟨#[47, 47]⟩ : ByteArray) ++ t204) ++ (⟨#[64, 91]⟩ : ByteArray)) ++ t203) ++ (⟨#[93]⟩ : ByteArray)) ++ t205) ++ (ji19))).bind fun bt212 => (if (bt212.1 && (bt212.2.1.toList == t203.toList && (bt212.2.2.toList == ((ji19).toList)))) = true then ((shibbolethlaw21_awake.f kj6).bind fun t215 => (some t215)) else (some false))) else (some false))) else (none)) else (some false))) else (none)) else (none))) else (none)) else (none)) else (none)) else (none)))) else (none)) else (none)) else (none))) else (none)) = some r := by first | (rw [hji33] at H; exact H) | (simp only [hji33] at H ⊢; exact H) | exact H
                      (try rw [hji33] at A16)
                      (try rw [hji33] at A17)
                      (try rw [hji33] at A20)
                      (try rw [hji33] at A29)
                      by_cases c34 : (ji33).size + 1 ≤ 9223372036854775807
                      · rw [if_pos c34] at H
                        have c34b0 := eq_true c34
                        have c34b1 : decide ((ji33).size + 1 ≤ 9223372036854775807) = true := decide_eq_true c34
                        try have c34b2 : (9223372036854775807 < (ji33).size + 1) = False := eq_false (Nat.not_lt.2 c34)
                        obtain ⟨ji35, hji35⟩ : ∃ j_ : ByteArray, ((ji33) ++ (⟨#[63]⟩ : ByteArray)) = j_ := ⟨_, rfl⟩
                        replace H : ((shibbolethlaw21_without.f kj6 a4 (⟨#[35]⟩ : ByteArray)).bind fun t201 => (if (ji35).size + t201.size ≤ 9223372036854775807 then (if ((ji35) ++ t201).size + 1 ≤ 9223372036854775807 then (if (((ji35) ++ t201) ++ (⟨#[35]⟩ : ByteArray)).size + a5.size ≤ 9223372036854775807 then ((shibbolethlaw21_without.f kj6 a1 (⟨#[9, 10, 13, 47, 63, 35, 64, 91, 93]⟩ : ByteArray)).bind fun t203 => ((shibbolethlaw21_without.f kj6 a0 (⟨#[47, 63, 35]⟩ : ByteArray)).bind fun t204 => (if 2 + t204.size ≤ 9223372036854775807 then (if ((⟨#[47, 47]⟩ : ByteArray) ++ t204).size + 2 ≤ 9223372036854775807 then (if (((⟨#[47, 47]⟩ : ByteArray) ++ t204) ++ (⟨#[64, 91]⟩ : ByteArray)).size + t203.size ≤ 9223372036854775807 then (if ((((⟨#[47, 47]⟩ : ByteArray) ++ t204) ++ (⟨#[64, 91]⟩ : ByteArray)) ++ t203).size + 1 ≤ 9223372036854775807 then ((shibbolethlaw21_without.f kj6 a2 (⟨#[47, 63, 35, 64]⟩ : ByteArray)).bind fun t205 => (if (((((⟨#[47, 47]⟩ : ByteArray) ++ t204) ++ (⟨#[64, 91]⟩ : ByteArray)) ++ t203) ++ (⟨#[93]⟩ : ByteArray)).size + t205.size ≤ 9223372036854775807 then (if ((((((⟨#[47, 47]⟩ : ByteArray) ++ t204) ++ (⟨#[64, 91]⟩ : ByteArray)) ++ t203) ++ (⟨#[93]⟩ : ByteArray)) ++ t205).size + (ji19).size ≤ 9223372036854775807 then ((pyurl_Parse.f kj6 ((((ji35) ++ t201) ++ (⟨#[35]⟩ : ByteArray)) ++ a5)).bind fun bt206 => (if (bt206.1 && (bt206.2.1.toList == t197.toList && (bt206.2.2.toList == ((ji19).toList)))) = true then (if 4 + ((((ji35) ++ t201) ++ (⟨#[35]⟩ : ByteArray)) ++ a5).size ≤ 9223372036854775807 then ((pyurl_Parse.f kj6 ((⟨#[97, 49, 43, 58]⟩ : ByteArray) ++ ((((ji35) ++ t201) ++ (⟨#[35]⟩ : ByteArray)) ++ a5))).bind fun bt209 => (if (bt209.1 && (bt209.2.1.toList == t197.toList && (bt209.2.2.toList == ((ji19).toList)))) = true then ((pyurl_Parse.f kj6 (((((((⟨#[47, 47]⟩ : ByteArray) ++ t204) ++ (⟨#[64, 91]⟩ : ByteArray)) ++ t203) ++ (⟨#[93]⟩ : ByteArray)) ++ t205) ++ (ji19))).bind fun bt212 => (if (bt212.1 && (bt212.2.1.toList == t203.toList && (bt212.2.2.toList == ((ji19).toList)))) = true then ((shibbolethlaw21_awake.f kj6).bind fun t215 => (some t215)) else (some false))) else (some false))) else (none)) else (some false))) else (none)) else (none))) else (none)) else (none)) else (none)) else (none)))) else (none)) else (none)) else (none))) = some r := by first | (rw [hji35] at H; exact H) | (simp only [hji35] at H ⊢; exact H) | exact H
                        (try rw [hji35] at A16)
                        (try rw [hji35] at A17)
                        (try rw [hji35] at A20)
                        (try rw [hji35] at A29)
                        replace H := Option.bind_eq_some_iff.mp H
                        obtain ⟨t201, A360, H⟩ := H
                        replace H : (if (ji35).size + t201.size ≤ 9223372036854775807 then (if ((ji35) ++ t201).size + 1 ≤ 9223372036854775807 then (if (((ji35) ++ t201) ++ (⟨#[35]⟩ : ByteArray)).size + a5.size ≤ 9223372036854775807 then ((shibbolethlaw21_without.f kj6 a1 (⟨#[9, 10, 13, 47, 63, 35, 64, 91, 93]⟩ : ByteArray)).bind fun t203 => ((shibbolethlaw21_without.f kj6 a0 (⟨#[47, 63, 35]⟩ : ByteArray)).bind fun t204 => (if 2 + t204.size ≤ 9223372036854775807 then (if ((⟨#[47, 47]⟩ : ByteArray) ++ t204).size + 2 ≤ 9223372036854775807 then (if (((⟨#[47, 47]⟩ : ByteArray) ++ t204) ++ (⟨#[64, 91]⟩ : ByteArray)).size + t203.size ≤ 9223372036854775807 then (if ((((⟨#[47, 47]⟩ : ByteArray) ++ t204) ++ (⟨#[64, 91]⟩ : ByteArray)) ++ t203).size + 1 ≤ 9223372036854775807 then ((shibbolethlaw21_without.f kj6 a2 (⟨#[47, 63, 35, 64]⟩ : ByteArray)).bind fun t205 => (if (((((⟨#[47, 47]⟩ : ByteArray) ++ t204) ++ (⟨#[64, 91]⟩ : ByteArray)) ++ t203) ++ (⟨#[93]⟩ : ByteArray)).size + t205.size ≤ 9223372036854775807 then (if ((((((⟨#[47, 47]⟩ : ByteArray) ++ t204) ++ (⟨#[64, 91]⟩ : ByteArray)) ++ t203) ++ (⟨#[93]⟩ : ByteArray)) ++ t205).size + (ji19).size ≤ 9223372036854775807 then ((pyurl_Parse.f kj6 ((((ji35) ++ t201) ++ (⟨#[35]⟩ : ByteArray)) ++ a5)).bind fun bt206 => (if (bt206.1 && (bt206.2.1.toList == t197.toList && (bt206.2.2.toList == ((ji19).toList)))) = true then (if 4 + ((((ji35) ++ t201) ++ (⟨#[35]⟩ : ByteArray)) ++ a5).size ≤ 9223372036854775807 then ((pyurl_Parse.f kj6 ((⟨#[97, 49, 43, 58]⟩ : ByteArray) ++ ((((ji35) ++ t201) ++ (⟨#[35]⟩ : ByteArray)) ++ a5))).bind fun bt209 => (if (bt209.1 && (bt209.2.1.toList == t197.toList && (bt209.2.2.toList == ((ji19).toList)))) = true then ((pyurl_Parse.f kj6 (((((((⟨#[47, 47]⟩ : ByteArray) ++ t204) ++ (⟨#[64, 91]⟩ : ByteArray)) ++ t203) ++ (⟨#[93]⟩ : ByteArray)) ++ t205) ++ (ji19))).bind fun bt212 => (if (bt212.1 && (bt212.2.1.toList == t203.toList && (bt212.2.2.toList == ((ji19).toList)))) = true then ((shibbolethlaw21_awake.f kj6).bind fun t215 => (some t215)) else (some false))) else (some false))) else (none)) else (some false))) else (none)) else (none))) else (none)) else (none)) else (none)) else (none)))) else (none)) else (none)) else (none)) = some r := H
                        have A36 := Aside0.mk A360
                        clear A360
                        by_cases c37 : (ji35).size + t201.size ≤ 9223372036854775807
                        · rw [if_pos c37] at H
                          have c37b0 := eq_true c37
                          have c37b1 : decide ((ji35).size + t201.size ≤ 9223372036854775807) = true := decide_eq_true c37
                          try have c37b2 : (9223372036854775807 < (ji35).size + t201.size) = False := eq_false (Nat.not_lt.2 c37)
                          obtain ⟨ji38, hji38⟩ : ∃ j_ : ByteArray, ((ji35) ++ t201) = j_ := ⟨_, rfl⟩
                          replace H : (if (ji38).size + 1 ≤ 9223372036854775807 then (if ((ji38) ++ (⟨#[35]⟩ : ByteArray)).size + a5.size ≤ 9223372036854775807 then ((shibbolethlaw21_without.f kj6 a1 (⟨#[9, 10, 13, 47, 63, 35, 64, 91, 93]⟩ : ByteArray)).bind fun t203 => ((shibbolethlaw21_without.f kj6 a0 (⟨#[47, 63, 35]⟩ : ByteArray)).bind fun t204 => (if 2 + t204.size ≤ 9223372036854775807 then (if ((⟨#[47, 47]⟩ : ByteArray) ++ t204).size + 2 ≤ 9223372036854775807 then (if (((⟨#[47, 47]⟩ : ByteArray) ++ t204) ++ (⟨#[64, 91]⟩ : ByteArray)).size + t203.size ≤ 9223372036854775807 then (if ((((⟨#[47, 47]⟩ : ByteArray) ++ t204) ++ (⟨#[64, 91]⟩ : ByteArray)) ++ t203).size + 1 ≤ 9223372036854775807 then ((shibbolethlaw21_without.f kj6 a2 (⟨#[47, 63, 35, 64]⟩ : ByteArray)).bind fun t205 => (if (((((⟨#[47, 47]⟩ : ByteArray) ++ t204) ++ (⟨#[64, 91]⟩ : ByteArray)) ++ t203) ++ (⟨#[93]⟩ : ByteArray)).size + t205.size ≤ 9223372036854775807 then (if ((((((⟨#[47, 47]⟩ : ByteArray) ++ t204) ++ (⟨#[64, 91]⟩ : ByteArray)) ++ t203) ++ (⟨#[93]⟩ : ByteArray)) ++ t205).size + (ji19).size ≤ 9223372036854775807 then ((pyurl_Parse.f kj6 (((ji38) ++ (⟨#[35]⟩ : ByteArray)) ++ a5)).bind fun bt206 => (if (bt206.1 && (bt206.2.1.toList == t197.toList && (bt206.2.2.toList == ((ji19).toList)))) = true then (if 4 + (((ji38) ++ (⟨#[35]⟩ : ByteArray)) ++ a5).size ≤ 9223372036854775807 then ((pyurl_Parse.f kj6 ((⟨#[97, 49, 43, 58]⟩ : ByteArray) ++ (((ji38) ++ (⟨#[35]⟩ : ByteArray)) ++ a5))).bind fun bt209 => (if (bt209.1 && (bt209.2.1.toList == t197.toList && (bt209.2.2.toList == ((ji19).toList)))) = true then ((pyurl_Parse.f kj6 (((((((⟨#[47, 47]⟩ : ByteArray) ++ t204) ++ (⟨#[64, 91]⟩ : ByteArray)) ++ t203) ++ (⟨#[93]⟩ : ByteArray)) ++ t205) ++ (ji19))).bind fun bt212 => (if (bt212.1 && (bt212.2.1.toList == t203.toList && (bt212.2.2.toList == ((ji19).toList)))) = true then ((shibbolethlaw21_awake.f kj6).bind fun t215 => (some t215)) else (some false))) else (some false))) else (none)) else (some false))) else (none)) else (none))) else (none)) else (none)) else (none)) else (none)))) else (none)) else (none)) = some r := by first | (rw [hji38] at H; exact H) | (simp only [hji38] at H ⊢; exact H) | exact H
                          (try rw [hji38] at A16)
                          (try rw [hji38] at A17)
                          (try rw [hji38] at A20)
                          (try rw [hji38] at A29)
                          (try rw [hji38] at A36)
                          by_cases c39 : (ji38).size + 1 ≤ 9223372036854775807
                          · rw [if_pos c39] at H
                            have c39b0 := eq_true c39
                            have c39b1 : decide ((ji38).size + 1 ≤ 9223372036854775807) = true := decide_eq_true c39
                            try have c39b2 : (9223372036854775807 < (ji38).size + 1) = False := eq_false (Nat.not_lt.2 c39)
                            obtain ⟨ji40, hji40⟩ : ∃ j_ : ByteArray, ((ji38) ++ (⟨#[35]⟩ : ByteArray)) = j_ := ⟨_, rfl⟩
                            replace H : (if (ji40).size + a5.size ≤ 9223372036854775807 then ((shibbolethlaw21_without.f kj6 a1 (⟨#[9, 10, 13, 47, 63, 35, 64, 91, 93]⟩ : ByteArray)).bind fun t203 => ((shibbolethlaw21_without.f kj6 a0 (⟨#[47, 63, 35]⟩ : ByteArray)).bind fun t204 => (if 2 + t204.size ≤ 9223372036854775807 then (if ((⟨#[47, 47]⟩ : ByteArray) ++ t204).size + 2 ≤ 9223372036854775807 then (if (((⟨#[47, 47]⟩ : ByteArray) ++ t204) ++ (⟨#[64, 91]⟩ : ByteArray)).size + t203.size ≤ 9223372036854775807 then (if ((((⟨#[47, 47]⟩ : ByteArray) ++ t204) ++ (⟨#[64, 91]⟩ : ByteArray)) ++ t203).size + 1 ≤ 9223372036854775807 then ((shibbolethlaw21_without.f kj6 a2 (⟨#[47, 63, 35, 64]⟩ : ByteArray)).bind fun t205 => (if (((((⟨#[47, 47]⟩ : ByteArray) ++ t204) ++ (⟨#[64, 91]⟩ : ByteArray)) ++ t203) ++ (⟨#[93]⟩ : ByteArray)).size + t205.size ≤ 9223372036854775807 then (if ((((((⟨#[47, 47]⟩ : ByteArray) ++ t204) ++ (⟨#[64, 91]⟩ : ByteArray)) ++ t203) ++ (⟨#[93]⟩ : ByteArray)) ++ t205).size + (ji19).size ≤ 9223372036854775807 then ((pyurl_Parse.f kj6 ((ji40) ++ a5)).bind fun bt206 => (if (bt206.1 && (bt206.2.1.toList == t197.toList && (bt206.2.2.toList == ((ji19).toList)))) = true then (if 4 + ((ji40) ++ a5).size ≤ 9223372036854775807 then ((pyurl_Parse.f kj6 ((⟨#[97, 49, 43, 58]⟩ : ByteArray) ++ ((ji40) ++ a5))).bind fun bt209 => (if (bt209.1 && (bt209.2.1.toList == t197.toList && (bt209.2.2.toList == ((ji19).toList)))) = true then ((pyurl_Parse.f kj6 (((((((⟨#[47, 47]⟩ : ByteArray) ++ t204) ++ (⟨#[64, 91]⟩ : ByteArray)) ++ t203) ++ (⟨#[93]⟩ : ByteArray)) ++ t205) ++ (ji19))).bind fun bt212 => (if (bt212.1 && (bt212.2.1.toList == t203.toList && (bt212.2.2.toList == ((ji19).toList)))) = true then ((shibbolethlaw21_awake.f kj6).bind fun t215 => (some t215)) else (some false))) else (some false))) else (none)) else (some false))) else (none)) else (none))) else (none)) else (none)) else (none)) else (none)))) else (none)) = some r := by first | (rw [hji40] at H; exact H) | (simp only [hji40] at H ⊢; exact H) | exact H
                            (try rw [hji40] at A16)
                            (try rw [hji40] at A17)
                            (try rw [hji40] at A20)
                            (try rw [hji40] at A29)
                            (try rw [hji40] at A36)
                            by_cases c41 : (ji40).size + a5.size ≤ 9223372036854775807
                            · rw [if_pos c41] at H
                              have c41b0 := eq_true c41
                              have c41b1 : decide ((ji40).size + a5.size ≤ 9223372036854775807) = true := decide_eq_true c41
                              try have c41b2 : (9223372036854775807 < (ji40).size + a5.size) = False := eq_false (Nat.not_lt.2 c41)
                              obtain ⟨ji42, hji42⟩ : ∃ j_ : ByteArray, ((ji40) ++ a5) = j_ := ⟨_, rfl⟩
                              replace H : ((shibbolethlaw21_without.f kj6 a1 (⟨#[9, 10, 13, 47, 63, 35, 64, 91, 93]⟩ : ByteArray)).bind fun t203 => ((shibbolethlaw21_without.f kj6 a0 (⟨#[47, 63, 35]⟩ : ByteArray)).bind fun t204 => (if 2 + t204.size ≤ 9223372036854775807 then (if ((⟨#[47, 47]⟩ : ByteArray) ++ t204).size + 2 ≤ 9223372036854775807 then (if (((⟨#[47, 47]⟩ : ByteArray) ++ t204) ++ (⟨#[64, 91]⟩ : ByteArray)).size + t203.size ≤ 9223372036854775807 then (if ((((⟨#[47, 47]⟩ : ByteArray) ++ t204) ++ (⟨#[64, 91]⟩ : ByteArray)) ++ t203).size + 1 ≤ 9223372036854775807 then ((shibbolethlaw21_without.f kj6 a2 (⟨#[47, 63, 35, 64]⟩ : ByteArray)).bind fun t205 => (if (((((⟨#[47, 47]⟩ : ByteArray) ++ t204) ++ (⟨#[64, 91]⟩ : ByteArray)) ++ t203) ++ (⟨#[93]⟩ : ByteArray)).size + t205.size ≤ 9223372036854775807 then (if ((((((⟨#[47, 47]⟩ : ByteArray) ++ t204) ++ (⟨#[64, 91]⟩ : ByteArray)) ++ t203) ++ (⟨#[93]⟩ : ByteArray)) ++ t205).size + (ji19).size ≤ 9223372036854775807 then ((pyurl_Parse.f kj6 (ji42)).bind fun bt206 => (if (bt206.1 && (bt206.2.1.toList == t197.toList && (bt206.2.2.toList == ((ji19).toList)))) = true then (if 4 + (ji42).size ≤ 9223372036854775807 then ((pyurl_Parse.f kj6 ((⟨#[97, 49, 43, 58]⟩ : ByteArray) ++ (ji42))).bind fun bt209 => (if (bt209.1 && (bt209.2.1.toList == t197.toList && (bt209.2.2.toList == ((ji19).toList)))) = true then ((pyurl_Parse.f kj6 (((((((⟨#[47, 47]⟩ : ByteArray) ++ t204) ++ (⟨#[64, 91]⟩ : ByteArray)) ++ t203) ++ (⟨#[93]⟩ : ByteArray)) ++ t205) ++ (ji19))).bind fun bt212 => (if (bt212.1 && (bt212.2.1.toList == t203.toList && (bt212.2.2.toList == ((ji19).toList)))) = true then ((shibbolethlaw21_awake.f kj6).bind fun t215 => (some t215)) else (some false))) else (some false))) else (none)) else (some false))) else (none)) else (none))) else (none)) else (none)) else (none)) else (none)))) = some r := by first | (rw [hji42] at H; exact H) | (simp only [hji42] at H ⊢; exact H) | exact H
                              (try rw [hji42] at A16)
                              (try rw [hji42] at A17)
                              (try rw [hji42] at A20)
                              (try rw [hji42] at A29)
                              (try rw [hji42] at A36)
                              replace H := Option.bind_eq_some_iff.mp H
                              obtain ⟨t203, A430, H⟩ := H
                              replace H : ((shibbolethlaw21_without.f kj6 a0 (⟨#[47, 63, 35]⟩ : ByteArray)).bind fun t204 => (if 2 + t204.size ≤ 9223372036854775807 then (if ((⟨#[47, 47]⟩ : ByteArray) ++ t204).size + 2 ≤ 9223372036854775807 then (if (((⟨#[47, 47]⟩ : ByteArray) ++ t204) ++ (⟨#[64, 91]⟩ : ByteArray)).size + t203.size ≤ 9223372036854775807 then (if ((((⟨#[47, 47]⟩ : ByteArray) ++ t204) ++ (⟨#[64, 91]⟩ : ByteArray)) ++ t203).size + 1 ≤ 9223372036854775807 then ((shibbolethlaw21_without.f kj6 a2 (⟨#[47, 63, 35, 64]⟩ : ByteArray)).bind fun t205 => (if (((((⟨#[47, 47]⟩ : ByteArray) ++ t204) ++ (⟨#[64, 91]⟩ : ByteArray)) ++ t203) ++ (⟨#[93]⟩ : ByteArray)).size + t205.size ≤ 9223372036854775807 then (if ((((((⟨#[47, 47]⟩ : ByteArray) ++ t204) ++ (⟨#[64, 91]⟩ : ByteArray)) ++ t203) ++ (⟨#[93]⟩ : ByteArray)) ++ t205).size + (ji19).size ≤ 9223372036854775807 then ((pyurl_Parse.f kj6 (ji42)).bind fun bt206 => (if (bt206.1 && (bt206.2.1.toList == t197.toList && (bt206.2.2.toList == ((ji19).toList)))) = true then (if 4 + (ji42).size ≤ 9223372036854775807 then ((pyurl_Parse.f kj6 ((⟨#[97, 49, 43, 58]⟩ : ByteArray) ++ (ji42))).bind fun bt209 => (if (bt209.1 && (bt209.2.1.toList == t197.toList && (bt209.2.2.toList == ((ji19).toList)))) = true then ((pyurl_Parse.f kj6 (((((((⟨#[47, 47]⟩ : ByteArray) ++ t204) ++ (⟨#[64, 91]⟩ : ByteArray)) ++ t203) ++ (⟨#[93]⟩ : ByteArray)) ++ t205) ++ (ji19))).bind fun bt212 => (if (bt212.1 && (bt212.2.1.toList == t203.toList && (bt212.2.2.toList == ((ji19).toList)))) = true then ((shibbolethlaw21_awake.f kj6).bind fun t215 => (some t215)) else (some false))) else (some false))) else (none)) else (some false))) else (none)) else (none))) else (none)) else (none)) else (none)) else (none))) = some r := H
                              have A43 := Aside0.mk A430
                              clear A430
                              replace H := Option.bind_eq_some_iff.mp H
                              obtain ⟨t204, A440, H⟩ := H
                              replace H : (if 2 + t204.size ≤ 9223372036854775807 then (if ((⟨#[47, 47]⟩ : ByteArray) ++ t204).size + 2 ≤ 9223372036854775807 then (if (((⟨#[47, 47]⟩ : ByteArray) ++ t204) ++ (⟨#[64, 91]⟩ : ByteArray)).size + t203.size ≤ 9223372036854775807 then (if ((((⟨#[47, 47]⟩ : ByteArray) ++ t204) ++ (⟨#[64, 91]⟩ : ByteArray)) ++ t203).size + 1 ≤ 9223372036854775807 then ((shibbolethlaw21_without.f kj6 a2 (⟨#[47, 63, 35, 64]⟩ : ByteArray)).bind fun t205 => (if (((((⟨#[47, 47]⟩ : ByteArray) ++ t204) ++ (⟨#[64, 91]⟩ : ByteArray)) ++ t203) ++ (⟨#[93]⟩ : ByteArray)).size + t205.size ≤ 9223372036854775807 then (if ((((((⟨#[47, 47]⟩ : ByteArray) ++ t204) ++ (⟨#[64, 91]⟩ : ByteArray)) ++ t203) ++ (⟨#[93]⟩ : ByteArray)) ++ t205).size + (ji19).size ≤ 9223372036854775807 then ((pyurl_Parse.f kj6 (ji42)).bind fun bt206 => (if (bt206.1 && (bt206.2.1.toList == t197.toList && (bt206.2.2.toList == ((ji19).toList)))) = true then (if 4 + (ji42).size ≤ 9223372036854775807 then ((pyurl_Parse.f kj6 ((⟨#[97, 49, 43, 58]⟩ : ByteArray) ++ (ji42))).bind fun bt209 => (if (bt209.1 && (bt209.2.1.toList == t197.toList && (bt209.2.2.toList == ((ji19).toList)))) = true then ((pyurl_Parse.f kj6 (((((((⟨#[47, 47]⟩ : ByteArray) ++ t204) ++ (⟨#[64, 91]⟩ : ByteArray)) ++ t203) ++ (⟨#[93]⟩ : ByteArray)) ++ t205) ++ (ji19))).bind fun bt212 => (if (bt212.1 && (bt212.2.1.toList == t203.toList && (bt212.2.2.toList == ((ji19).toList)))) = true then ((shibbolethlaw21_awake.f kj6).bind fun t215 => (some t215)) else (some false))) else (some false))) else (none)) else (some false))) else (none)) else (none))) else (none)) else (none)) else (none)) else (none)) = some r := H
                              have A44 := Aside0.mk A440
                              clear A440
                              by_cases c45 : 2 + t204.size ≤ 9223372036854775807
                              · rw [if_pos c45] at H
                                have c45b0 := eq_true c45
                                have c45b1 : decide (2 + t204.size ≤ 9223372036854775807) = true := decide_eq_true c45
                                try have c45b2 : (9223372036854775807 < 2 + t204.size) = False := eq_false (Nat.not_lt.2 c45)
                                obtain ⟨ji46, hji46⟩ : ∃ j_ : ByteArray, ((⟨#[47, 47]⟩ : ByteArray) ++ t204) = j_ := ⟨_, rfl⟩
                                replace H : (if (ji46).size + 2 ≤ 9223372036854775807 then (if ((ji46) ++ (⟨#[64, 91]⟩ : ByteArray)).size + t203.size ≤ 9223372036854775807 then (if (((ji46) ++ (⟨#[64, 91]⟩ : ByteArray)) ++ t203).size + 1 ≤ 9223372036854775807 then ((shibbolethlaw21_without.f kj6 a2 (⟨#[47, 63, 35, 64]⟩ : ByteArray)).bind fun t205 => (if ((((ji46) ++ (⟨#[64, 91]⟩ : ByteArray)) ++ t203) ++ (⟨#[93]⟩ : ByteArray)).size + t205.size ≤ 9223372036854775807 then (if (((((ji46) ++ (⟨#[64, 91]⟩ : ByteArray)) ++ t203) ++ (⟨#[93]⟩ : ByteArray)) ++ t205).size + (ji19).size ≤ 9223372036854775807 then ((pyurl_Parse.f kj6 (ji42)).bind fun bt206 => (if (bt206.1 && (bt206.2.1.toList == t197.toList && (bt206.2.2.toList == ((ji19).toList)))) = true then (if 4 + (ji42).size ≤ 9223372036854775807 then ((pyurl_Parse.f kj6 ((⟨#[97, 49, 43, 58]⟩ : ByteArray) ++ (ji42))).bind fun bt209 => (if (bt209.1 && (bt209.2.1.toList == t197.toList && (bt209.2.2.toList == ((ji19).toList)))) = true then ((pyurl_Parse.f kj6 ((((((ji46) ++ (⟨#[64, 91]⟩ : ByteArray)) ++ t203) ++ (⟨#[93]⟩ : ByteArray)) ++ t205) ++ (ji19))).bind fun bt212 => (if (bt212.1 && (bt212.2.1.toList == t203.toList && (bt212.2.2.toList == ((ji19).toList)))) = true then ((shibbolethlaw21_awake.f kj6).bind fun t215 => (some t215)) else (some false))) else (some false))) else (none)) else (some false))) else (none)) else (none))) else (none)) else (none)) else (none)) = some r := by first | (rw [hji46] at H; exact H) | (simp only [hji46] at H ⊢; exact H) | exact H
                                (try rw [hji46] at A16)
                                (try rw [hji46] at A17)
                                (try rw [hji46] at A20)
                                (try rw [hji46] at A29)
                                (try rw [hji46] at A36)
                                (try rw [hji46] at A43)
                                (try rw [hji46] at A44)
                                by_cases c47 : (ji46).size + 2 ≤ 9223372036854775807
                                · rw [if_pos c47] at H
                                  have c47b0 := eq_true c47
                                  have c47b1 : decide ((ji46).size + 2 ≤ 9223372036854775807) = true := decide_eq_true c47
                                  try have c47b2 : (9223372036854775807 < (ji46).size + 2) = False := eq_false (Nat.not_lt.2 c47)
                                  obtain ⟨ji48, hji48⟩ : ∃ j_ : ByteArray, ((ji46) ++ (⟨#[64, 91]⟩ : ByteArray)) = j_ := ⟨_, rfl⟩
                                  replace H : (if (ji48).size + t203.size ≤ 9223372036854775807 then (if ((ji48) ++ t203).size + 1 ≤ 9223372036854775807 then ((shibbolethlaw21_without.f kj6 a2 (⟨#[47, 63, 35, 64]⟩ : ByteArray)).bind fun t205 => (if (((ji48) ++ t203) ++ (⟨#[93]⟩ : ByteArray)).size + t205.size ≤ 9223372036854775807 then (if ((((ji48) ++ t203) ++ (⟨#[93]⟩ : ByteArray)) ++ t205).size + (ji19).size ≤ 9223372036854775807 then ((pyurl_Parse.f kj6 (ji42)).bind fun bt206 => (if (bt206.1 && (bt206.2.1.toList == t197.toList && (bt206.2.2.toList == ((ji19).toList)))) = true then (if 4 + (ji42).size ≤ 9223372036854775807 then ((pyurl_Parse.f kj6 ((⟨#[97, 49, 43, 58]⟩ : ByteArray) ++ (ji42))).bind fun bt209 => (if (bt209.1 && (bt209.2.1.toList == t197.toList && (bt209.2.2.toList == ((ji19).toList)))) = true then ((pyurl_Parse.f kj6 (((((ji48) ++ t203) ++ (⟨#[93]⟩ : ByteArray)) ++ t205) ++ (ji19))).bind fun bt212 => (if (bt212.1 && (bt212.2.1.toList == t203.toList && (bt212.2.2.toList == ((ji19).toList)))) = true then ((shibbolethlaw21_awake.f kj6).bind fun t215 => (some t215)) else (some false))) else (some false))) else (none)) else (some false))) else (none)) else (none))) else (none)) else (none)) = some r := by first | (rw [hji48] at H; exact H) | (simp only [hji48] at H ⊢; exact H) | exact H
                                  (try rw [hji48] at A16)
                                  (try rw [hji48] at A17)
                                  (try rw [hji48] at A20)
                                  (try rw [hji48] at A29)
                                  (try rw [hji48] at A36)
                                  (try rw [hji48] at A43)
                                  (try rw [hji48] at A44)
                                  by_cases c49 : (ji48).size + t203.size ≤ 9223372036854775807
                                  · rw [if_pos c49] at H
                                    have c49b0 := eq_true c49
                                    have c49b1 : decide ((ji48).size + t203.size ≤ 9223372036854775807) = true := decide_eq_true c49
                                    try have c49b2 : (9223372036854775807 < (ji48).size + t203.size) = False := eq_false (Nat.not_lt.2 c49)
                                    obtain ⟨ji50, hji50⟩ : ∃ j_ : ByteArray, ((ji48) ++ t203) = j_ := ⟨_, rfl⟩
                                    replace H : (if (ji50).size + 1 ≤ 9223372036854775807 then ((shibbolethlaw21_without.f kj6 a2 (⟨#[47, 63, 35, 64]⟩ : ByteArray)).bind fun t205 => (if ((ji50) ++ (⟨#[93]⟩ : ByteArray)).size + t205.size ≤ 9223372036854775807 then (if (((ji50) ++ (⟨#[93]⟩ : ByteArray)) ++ t205).size + (ji19).size ≤ 9223372036854775807 then ((pyurl_Parse.f kj6 (ji42)).bind fun bt206 => (if (bt206.1 && (bt206.2.1.toList == t197.toList && (bt206.2.2.toList == ((ji19).toList)))) = true then (if 4 + (ji42).size ≤ 9223372036854775807 then ((pyurl_Parse.f kj6 ((⟨#[97, 49, 43, 58]⟩ : ByteArray) ++ (ji42))).bind fun bt209 => (if (bt209.1 && (bt209.2.1.toList == t197.toList && (bt209.2.2.toList == ((ji19).toList)))) = true then ((pyurl_Parse.f kj6 ((((ji50) ++ (⟨#[93]⟩ : ByteArray)) ++ t205) ++ (ji19))).bind fun bt212 => (if (bt212.1 && (bt212.2.1.toList == t203.toList && (bt212.2.2.toList == ((ji19).toList)))) = true then ((shibbolethlaw21_awake.f kj6).bind fun t215 => (some t215)) else (some false))) else (some false))) else (none)) else (some false))) else (none)) else (none))) else (none)) = some r := by first | (rw [hji50] at H; exact H) | (simp only [hji50] at H ⊢; exact H) | exact H
                                    (try rw [hji50] at A16)
                                    (try rw [hji50] at A17)
                                    (try rw [hji50] at A20)
                                    (try rw [hji50] at A29)
                                    (try rw [hji50] at A36)
                                    (try rw [hji50] at A43)
                                    (try rw [hji50] at A44)
                                    by_cases c51 : (ji50).size + 1 ≤ 9223372036854775807
                                    · rw [if_pos c51] at H
                                      have c51b0 := eq_true c51
                                      have c51b1 : decide ((ji50).size + 1 ≤ 9223372036854775807) = true := decide_eq_true c51
                                      try have c51b2 : (9223372036854775807 < (ji50).size + 1) = False := eq_false (Nat.not_lt.2 c51)
                                      obtain ⟨ji52, hji52⟩ : ∃ j_ : ByteArray, ((ji50) ++ (⟨#[93]⟩ : ByteArray)) = j_ := ⟨_, rfl⟩
                                      replace H : ((shibbolethlaw21_without.f kj6 a2 (⟨#[47, 63, 35, 64]⟩ : ByteArray)).bind fun t205 => (if (ji52).size + t205.size ≤ 9223372036854775807 then (if ((ji52) ++ t205).size + (ji19).size ≤ 9223372036854775807 then ((pyurl_Parse.f kj6 (ji42)).bind fun bt206 => (if (bt206.1 && (bt206.2.1.toList == t197.toList && (bt206.2.2.toList == ((ji19).toList)))) = true then (if 4 + (ji42).size ≤ 9223372036854775807 then ((pyurl_Parse.f kj6 ((⟨#[97, 49, 43, 58]⟩ : ByteArray) ++ (ji42))).bind fun bt209 => (if (bt209.1 && (bt209.2.1.toList == t197.toList && (bt209.2.2.toList == ((ji19).toList)))) = true then ((pyurl_Parse.f kj6 (((ji52) ++ t205) ++ (ji19))).bind fun bt212 => (if (bt212.1 && (bt212.2.1.toList == t203.toList && (bt212.2.2.toList == ((ji19).toList)))) = true then ((shibbolethlaw21_awake.f kj6).bind fun t215 => (some t215)) else (some false))) else (some false))) else (none)) else (some false))) else (none)) else (none))) = some r := by first | (rw [hji52] at H; exact H) | (simp only [hji52] at H ⊢; exact H) | exact H
                                      (try rw [hji52] at A16)
                                      (try rw [hji52] at A17)
                                      (try rw [hji52] at A20)
                                      (try rw [hji52] at A29)
                                      (try rw [hji52] at A36)
                                      (try rw [hji52] at A43)
                                      (try rw [hji52] at A44)
                                      replace H := Option.bind_eq_some_iff.mp H
                                      obtain ⟨t205, A530, H⟩ := H
                                      replace H : (if (ji52).size + t205.size ≤ 9223372036854775807 then (if ((ji52) ++ t205).size + (ji19).size ≤ 9223372036854775807 then ((pyurl_Parse.f kj6 (ji42)).bind fun bt206 => (if (bt206.1 && (bt206.2.1.toList == t197.toList && (bt206.2.2.toList == ((ji19).toList)))) = true then (if 4 + (ji42).size ≤ 9223372036854775807 then ((pyurl_Parse.f kj6 ((⟨#[97, 49, 43, 58]⟩ : ByteArray) ++ (ji42))).bind fun bt209 => (if (bt209.1 && (bt209.2.1.toList == t197.toList && (bt209.2.2.toList == ((ji19).toList)))) = true then ((pyurl_Parse.f kj6 (((ji52) ++ t205) ++ (ji19))).bind fun bt212 => (if (bt212.1 && (bt212.2.1.toList == t203.toList && (bt212.2.2.toList == ((ji19).toList)))) = true then ((shibbolethlaw21_awake.f kj6).bind fun t215 => (some t215)) else (some false))) else (some false))) else (none)) else (some false))) else (none)) else (none)) = some r := H
                                      have A53 := Aside0.mk A530
                                      clear A530
                                      by_cases c54 : (ji52).size + t205.size ≤ 9223372036854775807
                                      · rw [if_pos c54] at H
                                        have c54b0 := eq_true c54
                                        have c54b1 : decide ((ji52).size + t205.size ≤ 9223372036854775807) = true := decide_eq_true c54
                                        try have c54b2 : (9223372036854775807 < (ji52).size + t205.size) = False := eq_false (Nat.not_lt.2 c54)
                                        obtain ⟨ji55, hji55⟩ : ∃ j_ : ByteArray, ((ji52) ++ t205) = j_ := ⟨_, rfl⟩
                                        replace H : (if (ji55).size + (ji19).size ≤ 9223372036854775807 then ((pyurl_Parse.f kj6 (ji42)).bind fun bt206 => (if (bt206.1 && (bt206.2.1.toList == t197.toList && (bt206.2.2.toList == ((ji19).toList)))) = true then (if 4 + (ji42).size ≤ 9223372036854775807 then ((pyurl_Parse.f kj6 ((⟨#[97, 49, 43, 58]⟩ : ByteArray) ++ (ji42))).bind fun bt209 => (if (bt209.1 && (bt209.2.1.toList == t197.toList && (bt209.2.2.toList == ((ji19).toList)))) = true then ((pyurl_Parse.f kj6 ((ji55) ++ (ji19))).bind fun bt212 => (if (bt212.1 && (bt212.2.1.toList == t203.toList && (bt212.2.2.toList == ((ji19).toList)))) = true then ((shibbolethlaw21_awake.f kj6).bind fun t215 => (some t215)) else (some false))) else (some false))) else (none)) else (some false))) else (none)) = some r := by first | (rw [hji55] at H; exact H) | (simp only [hji55] at H ⊢; exact H) | exact H
                                        (try rw [hji55] at A16)
                                        (try rw [hji55] at A17)
                                        (try rw [hji55] at A20)
                                        (try rw [hji55] at A29)
                                        (try rw [hji55] at A36)
                                        (try rw [hji55] at A43)
                                        (try rw [hji55] at A44)
                                        (try rw [hji55] at A53)
                                        by_cases c56 : (ji55).size + (ji19).size ≤ 9223372036854775807
                                        · rw [if_pos c56] at H
                                          have c56b0 := eq_true c56
                                          have c56b1 : decide ((ji55).size + (ji19).size ≤ 9223372036854775807) = true := decide_eq_true c56
                                          try have c56b2 : (9223372036854775807 < (ji55).size + (ji19).size) = False := eq_false (Nat.not_lt.2 c56)
                                          obtain ⟨ji57, hji57⟩ : ∃ j_ : ByteArray, ((ji55) ++ (ji19)) = j_ := ⟨_, rfl⟩
                                          replace H : ((pyurl_Parse.f kj6 (ji42)).bind fun bt206 => (if (bt206.1 && (bt206.2.1.toList == t197.toList && (bt206.2.2.toList == ((ji19).toList)))) = true then (if 4 + (ji42).size ≤ 9223372036854775807 then ((pyurl_Parse.f kj6 ((⟨#[97, 49, 43, 58]⟩ : ByteArray) ++ (ji42))).bind fun bt209 => (if (bt209.1 && (bt209.2.1.toList == t197.toList && (bt209.2.2.toList == ((ji19).toList)))) = true then ((pyurl_Parse.f kj6 (ji57)).bind fun bt212 => (if (bt212.1 && (bt212.2.1.toList == t203.toList && (bt212.2.2.toList == ((ji19).toList)))) = true then ((shibbolethlaw21_awake.f kj6).bind fun t215 => (some t215)) else (some false))) else (some false))) else (none)) else (some false))) = some r := by first | (rw [hji57] at H; exact H) | (simp only [hji57] at H ⊢; exact H) | exact H
                                          (try rw [hji57] at A16)
                                          (try rw [hji57] at A17)
                                          (try rw [hji57] at A20)
                                          (try rw [hji57] at A29)
                                          (try rw [hji57] at A36)
                                          (try rw [hji57] at A43)
                                          (try rw [hji57] at A44)
                                          (try rw [hji57] at A53)
                                          replace H := Option.bind_eq_some_iff.mp H
                                          obtain ⟨⟨t206, t207, t208⟩, A580, H⟩ := H
                                          replace H : (if (t206 && (t207.toList == t197.toList && (t208.toList == ((ji19).toList)))) = true then (if 4 + (ji42).size ≤ 9223372036854775807 then ((pyurl_Parse.f kj6 ((⟨#[97, 49, 43, 58]⟩ : ByteArray) ++ (ji42))).bind fun bt209 => (if (bt209.1 && (bt209.2.1.toList == t197.toList && (bt209.2.2.toList == ((ji19).toList)))) = true then ((pyurl_Parse.f kj6 (ji57)).bind fun bt212 => (if (bt212.1 && (bt212.2.1.toList == t203.toList && (bt212.2.2.toList == ((ji19).toList)))) = true then ((shibbolethlaw21_awake.f kj6).bind fun t215 => (some t215)) else (some false))) else (some false))) else (none)) else (some false)) = some r := H
                                          have A58 := Aside0.mk A580
                                          clear A580
                                          by_cases c59 : (t206 && (t207.toList == t197.toList && (t208.toList == ((ji19).toList)))) = true
                                          · rw [if_pos c59] at H
                                            have c59b0 : (t206 && (t207.toList == t197.toList && (t208.toList == ((ji19).toList)))) = true := c59
                                            clear c59
                                            by_cases c60 : 4 + (ji42).size ≤ 9223372036854775807
                                            · rw [if_pos c60] at H
                                              have c60b0 := eq_true c60
                                              have c60b1 : decide (4 + (ji42).size ≤ 9223372036854775807) = true := decide_eq_true c60
                                              try have c60b2 : (9223372036854775807 < 4 + (ji42).size) = False := eq_false (Nat.not_lt.2 c60)
                                              obtain ⟨ji61, hji61⟩ : ∃ j_ : ByteArray, ((⟨#[97, 49, 43, 58]⟩ : ByteArray) ++ (ji42)) = j_ := ⟨_, rfl⟩
                                              replace H : ((pyurl_Parse.f kj6 (ji61)).bind fun bt209 => (if (bt209.1 && (bt209.2.1.toList == t197.toList && (bt209.2.2.toList == ((ji19).toList)))) = true then ((pyurl_Parse.f kj6 (ji57)).bind fun bt212 => (if (bt212.1 && (bt212.2.1.toList == t203.toList && (bt212.2.2.toList == ((ji19).toList)))) = true then ((shibbolethlaw21_awake.f kj6).bind fun t215 => (some t215)) else (some false))) else (some false))) = some r := by first | (rw [hji61] at H; exact H) | (simp only [hji61] at H ⊢; exact H) | exact H
                                              (try rw [hji61] at A16)
                                              (try rw [hji61] at A17)
                                              (try rw [hji61] at A20)
                                              (try rw [hji61] at A29)
                                              (try rw [hji61] at A36)
                                              (try rw [hji61] at A43)
                                              (try rw [hji61] at A44)
                                              (try rw [hji61] at A53)
                                              (try rw [hji61] at A58)
                                              replace H := Option.bind_eq_some_iff.mp H
                                              obtain ⟨⟨t209, t210, t211⟩, A620, H⟩ := H
                                              replace H : (if (t209 && (t210.toList == t197.toList && (t211.toList == ((ji19).toList)))) = true then ((pyurl_Parse.f kj6 (ji57)).bind fun bt212 => (if (bt212.1 && (bt212.2.1.toList == t203.toList && (bt212.2.2.toList == ((ji19).toList)))) = true then ((shibbolethlaw21_awake.f kj6).bind fun t215 => (some t215)) else (some false))) else (some false)) = some r := H
                                              have A62 := Aside0.mk A620
                                              clear A620
                                              by_cases c63 : (t209 && (t210.toList == t197.toList && (t211.toList == ((ji19).toList)))) = true
                                              · rw [if_pos c63] at H
                                                have c63b0 : (t209 && (t210.toList == t197.toList && (t211.toList == ((ji19).toList)))) = true := c63
                                                clear c63
                                                replace H := Option.bind_eq_some_iff.mp H
                                                obtain ⟨⟨t212, t213, t214⟩, A640, H⟩ := H
                                                replace H : (if (t212 && (t213.toList == t203.toList && (t214.toList == ((ji19).toList)))) = true then ((shibbolethlaw21_awake.f kj6).bind fun t215 => (some t215)) else (some false)) = some r := H
                                                have A64 := Aside0.mk A640
                                                clear A640
                                                by_cases c65 : (t212 && (t213.toList == t203.toList && (t214.toList == ((ji19).toList)))) = true
                                                · rw [if_pos c65] at H
                                                  have c65b0 : (t212 && (t213.toList == t203.toList && (t214.toList == ((ji19).toList)))) = true := c65
                                                  clear c65
                                                  replace H := Option.bind_eq_some_iff.mp H
                                                  obtain ⟨t215, A660, H⟩ := H
                                                  replace H : (some t215) = some r := H
                                                  have A66 := Aside0.mk A660
                                                  clear A660
                                                  obtain rfl := Option.some.inj H
                                                  try go_wp2_with (first | ((with_reducible refine gate_callee (f := 16) rfl ?_); refine goesL_ (some 49) rfl rfl Try.func16 (by kernel_rfl) rfl #[.string a1, .string (⟨#[9, 10, 13, 47, 63, 35, 64, 91, 93, 58]⟩ : ByteArray)] rfl (by (try simp only [List.map_toArray, List.map_cons, List.map_nil]); first | done | rfl | (simp only [List.length_drop, List.length_take]; rfl)) ?_; (with_reducible refine (shibbolethlaw21_without.calls kj6 a1 (⟨#[9, 10, 13, 47, 63, 35, 64, 91, 93, 58]⟩ : ByteArray) t197 _ A16.out).mono ?_); rintro e w67 ⟨rfl, hb⟩; refine ⟨_, rfl, ?_⟩; have n0_ := Aside0.mk (below_step (by repeat (first | (with_reducible first | exact HB.out | apply below_alloc | apply pw_below_drewN | apply below_drew1) | exact HB.out)) hb); clear HB; have HB := n0_; clear n0_; (try clear hb); (try clear hb2); (try clear hk); (try clear hi)) | ((with_reducible refine gate_callee (f := 16) rfl ?_); refine goesL_ (some 51) rfl rfl Try.func16 (by kernel_rfl) rfl #[.string a3, .string (⟨#[9, 10, 13, 63, 35]⟩ : ByteArray)] rfl (by (try simp only [List.map_toArray, List.map_cons, List.map_nil]); first | done | rfl | (simp only [List.length_drop, List.length_take]; rfl)) ?_; (with_reducible refine (shibbolethlaw21_without.calls kj6 a3 (⟨#[9, 10, 13, 63, 35]⟩ : ByteArray) t198 _ A17.out).mono ?_); rintro e w68 ⟨rfl, hb⟩; refine ⟨_, rfl, ?_⟩; have n0_ := Aside0.mk (below_step (by repeat (first | (with_reducible first | exact HB.out | apply below_alloc | apply pw_below_drewN | apply below_drew1) | exact HB.out)) hb); clear HB; have HB := n0_; clear n0_; (try clear hb); (try clear hb2); (try clear hk); (try clear hi)) | ((with_reducible refine gate_callee (f := 16) rfl ?_); refine goesL_ (some 54) rfl rfl Try.func16 (by kernel_rfl) rfl #[.string a0, .string (⟨#[47, 63, 35]⟩ : ByteArray)] rfl (by (try simp only [List.map_toArray, List.map_cons, List.map_nil]); first | done | rfl | (simp only [List.length_drop, List.length_take]; rfl)) ?_; (with_reducible refine (shibbolethlaw21_without.calls kj6 a0 (⟨#[47, 63, 35]⟩ : ByteArray) t199 _ A20.out).mono ?_); rintro e w69 ⟨rfl, hb⟩; refine ⟨_, rfl, ?_⟩; have n0_ := Aside0.mk (below_step (by repeat (first | (with_reducible first | exact HB.out | apply below_alloc | apply pw_below_drewN | apply below_drew1) | exact HB.out)) hb); clear HB; have HB := n0_; clear n0_; (try clear hb); (try clear hb2); (try clear hk); (try clear hi)) | ((with_reducible refine gate_callee (f := 16) rfl ?_); refine goesL_ (some 61) rfl rfl Try.func16 (by kernel_rfl) rfl #[.string a2, .string (⟨#[47, 63, 35, 64, 91, 93]⟩ : ByteArray)] rfl (by (try simp only [List.map_toArray, List.map_cons, List.map_nil]); first | done | rfl | (simp only [List.length_drop, List.length_take]; rfl)) ?_; (with_reducible refine (shibbolethlaw21_without.calls kj6 a2 (⟨#[47, 63, 35, 64, 91, 93]⟩ : ByteArray) t200 _ A29.out).mono ?_); rintro e w70 ⟨rfl, hb⟩; refine ⟨_, rfl, ?_⟩; have n0_ := Aside0.mk (below_step (by repeat (first | (with_reducible first | exact HB.out | apply below_alloc | apply pw_below_drewN | apply below_drew1) | exact HB.out)) hb); clear HB; have HB := n0_; clear n0_; (try clear hb); (try clear hb2); (try clear hk); (try clear hi)) | ((with_reducible refine gate_callee (f := 16) rfl ?_); refine goesL_ (some 67) rfl rfl Try.func16 (by kernel_rfl) rfl #[.string a4, .string (⟨#[35]⟩ : ByteArray)] rfl (by (try simp only [List.map_toArray, List.map_cons, List.map_nil]); first | done | rfl | (simp only [List.length_drop, List.length_take]; rfl)) ?_; (with_reducible refine (shibbolethlaw21_without.calls kj6 a4 (⟨#[35]⟩ : ByteArray) t201 _ A36.out).mono ?_); rintro e w71 ⟨rfl, hb⟩; refine ⟨_, rfl, ?_⟩; have n0_ := Aside0.mk (below_step (by repeat (first | (with_reducible first | exact HB.out | apply below_alloc | apply pw_below_drewN | apply below_drew1) | exact HB.out)) hb); clear HB; have HB := n0_; clear n0_; (try clear hb); (try clear hb2); (try clear hk); (try clear hi)) | ((with_reducible refine gate_dst (N := 16) rfl ?_); (try (refine gate_guard (by rfl) ?_; dsimp only)); refine box_event ?hg (N := 16) ?hd (cs := #[.bool false, .string (⟨#[]⟩ : ByteArray), .string (⟨#[]⟩ : ByteArray)]) (t := 24) ?hr ?_; (case hd => rfl); (case hg => rfl); (case hr => first | (go_simp; done) | (go_simp; rfl)); intro gb202 hg w72 hbox hb; have n0_ := Aside0.mk (below_step (by repeat (first | (with_reducible first | exact HB.out | apply below_alloc | apply pw_below_drewN | apply below_drew1) | exact HB.out)) hb); have n1_ := Aside0.mk (hbox); have n2_ := Aside0.mk ((by rw [hg]; exact (below_size (by repeat (first | (with_reducible first | exact HB.out | apply below_alloc | apply pw_below_drewN | apply below_drew1) | exact HB.out))) : w.heap.size ≤ gb202)); have n3_ := Aside0.mk ((by rw [hg]; exact (below_size (by repeat (first | (with_reducible first | exact HB.out | apply below_alloc | apply pw_below_drewN | apply below_drew1) | exact HB.out))) : w.heap.size ≤ gb202)); clear HB; have HB := n0_; have BK202 := n1_; have GW202 := n2_; have GE202 := n3_; clear n0_ n1_ n2_ n3_; clear hb hbox hg; have hcz73_0 : w72.cell? ⟨gb202, 0, none⟩ = some (.bool false) := (blk_cell BK202.out 0).trans rfl; have hcz73_1 : w72.cell? ⟨gb202, 1, none⟩ = some (.string (⟨#[]⟩ : ByteArray)) := (blk_cell BK202.out 1).trans rfl; have hcz73_2 : w72.cell? ⟨gb202, 2, none⟩ = some (.string (⟨#[]⟩ : ByteArray)) := (blk_cell BK202.out 2).trans rfl; have hfz73_0 := blk_frozen BK202.out 0; have hfz73_1 := blk_frozen BK202.out 1; have hfz73_2 := blk_frozen BK202.out 2) | ((with_reducible refine gate_callee (f := 16) rfl ?_); refine goesL_ (some 76) rfl rfl Try.func16 (by kernel_rfl) rfl #[.string a1, .string (⟨#[9, 10, 13, 47, 63, 35, 64, 91, 93]⟩ : ByteArray)] rfl (by (try simp only [List.map_toArray, List.map_cons, List.map_nil]); first | done | rfl | (simp only [List.length_drop, List.length_take]; rfl)) ?_; (with_reducible refine (shibbolethlaw21_without.calls kj6 a1 (⟨#[9, 10, 13, 47, 63, 35, 64, 91, 93]⟩ : ByteArray) t203 _ A43.out).mono ?_); rintro e w74 ⟨rfl, hb⟩; refine ⟨_, rfl, ?_⟩; have n0_ := Aside0.mk (blk_below (g := gb202) (o := .cells #[.bool true, .string t197, .string ji19] 24 (0, 0)) (by (with_reducible repeat (first | refine blk_drewN ?_ _ | refine blk_drew ?_ | refine blk_alloc ?_ _)); refine blk_put (cs := #[.bool true, .string t197, .string (⟨#[]⟩ : ByteArray)]) ?_ 2 _ rfl; (with_reducible repeat (first | refine blk_drewN ?_ _ | refine blk_drew ?_ | refine blk_alloc ?_ _)); refine blk_put (cs := #[.bool true, .string (⟨#[]⟩ : ByteArray), .string (⟨#[]⟩ : ByteArray)]) ?_ 1 _ rfl; (with_reducible repeat (first | refine blk_drewN ?_ _ | refine blk_drew ?_ | refine blk_alloc ?_ _)); refine blk_put (cs := #[.bool false, .string (⟨#[]⟩ : ByteArray), .string (⟨#[]⟩ : ByteArray)]) ?_ 0 _ rfl; (with_reducible repeat (first | refine blk_drewN ?_ _ | refine blk_drew ?_ | refine blk_alloc ?_ _)); exact BK202.out) hb); have n1_ := Aside0.mk (below_step (by repeat (first | (with_reducible first | exact HB.out | apply below_alloc | apply pw_below_drewN | apply below_drew1 | refine below_set ?_ GE202.out) | exact HB.out)) hb); clear BK202; clear HB; have BK202 := n0_; have HB := n1_; clear n0_ n1_; (try clear hb); (try clear hb2); (try clear hk); (try clear hi)) | ((with_reducible refine gate_callee (f := 16) rfl ?_); refine goesL_ (some 78) rfl rfl Try.func16 (by kernel_rfl) rfl #[.string a0, .string (⟨#[47, 63, 35]⟩ : ByteArray)] rfl (by (try simp only [List.map_toArray, List.map_cons, List.map_nil]); first | done | rfl | (simp only [List.length_drop, List.length_take]; rfl)) ?_; (with_reducible refine (shibbolethlaw21_without.calls kj6 a0 (⟨#[47, 63, 35]⟩ : ByteArray) t204 _ A44.out).mono ?_); rintro e w75 ⟨rfl, hb⟩; refine ⟨_, rfl, ?_⟩; have n0_ := Aside0.mk (blk_below (g := gb202) (o := .cells #[.bool true, .string t197, .string ji19] 24 (0, 0)) (by (with_reducible repeat (first | refine blk_drewN ?_ _ | refine blk_drew ?_ | refine blk_alloc ?_ _)); exact BK202.out) hb); have n1_ := Aside0.mk (below_step (by repeat (first | (with_reducible first | exact HB.out | apply below_alloc | apply pw_below_drewN | apply below_drew1 | refine below_set ?_ GE202.out) | exact HB.out)) hb); clear BK202; clear HB; have BK202 := n0_; have HB := n1_; clear n0_ n1_; (try clear hb); (try clear hb2); (try clear hk); (try clear hi)) | ((with_reducible refine gate_callee (f := 16) rfl ?_); refine goesL_ (some 85) rfl rfl Try.func16 (by kernel_rfl) rfl #[.string a2, .string (⟨#[47, 63, 35, 64]⟩ : ByteArray)] rfl (by (try simp only [List.map_toArray, List.map_cons, List.map_nil]); first | done | rfl | (simp only [List.length_drop, List.length_take]; rfl)) ?_; (with_reducible refine (shibbolethlaw21_without.calls kj6 a2 (⟨#[47, 63, 35, 64]⟩ : ByteArray) t205 _ A53.out).mono ?_); rintro e w76 ⟨rfl, hb⟩; refine ⟨_, rfl, ?_⟩; have n0_ := Aside0.mk (blk_below (g := gb202) (o := .cells #[.bool true, .string t197, .string ji19] 24 (0, 0)) (by (with_reducible repeat (first | refine blk_drewN ?_ _ | refine blk_drew ?_ | refine blk_alloc ?_ _)); exact BK202.out) hb); have n1_ := Aside0.mk (below_step (by repeat (first | (with_reducible first | exact HB.out | apply below_alloc | apply pw_below_drewN | apply below_drew1 | refine below_set ?_ GE202.out) | exact HB.out)) hb); clear BK202; clear HB; have BK202 := n0_; have HB := n1_; clear n0_ n1_; (try clear hb); (try clear hb2); (try clear hk); (try clear hi)))
                                                  have n0_ := Aside0.mk (blk_drew BK202.out)
                                                  have n1_ := Aside0.mk (below_drew1 HB.out)
                                                  clear BK202
                                                  clear HB
                                                  have BK202 := n0_
                                                  have HB := n1_
                                                  clear n0_ n1_
                                                  refine start_ (n := 23) (S := fun w' => w'.cell? ⟨gb202, 0, none⟩ = some (.bool true) ∧ w'.cell? ⟨gb202, 1, none⟩ = some (.string t197) ∧ w'.cell? ⟨gb202, 2, none⟩ = some (.string ji19)) (ds := []) #[false, false, false, false, false, false, false, false, false, false, false, false, false, false, false, false, false, false, false, false, false, false, false] (by kernel_rfl) rfl rfl ⟨(blk_cell BK202.out 0).trans rfl, (blk_cell BK202.out 1).trans rfl, (blk_cell BK202.out 2).trans rfl⟩ (fun hHeld => ?_); refine with_tabW shibbolethlaw21_PyurlBuilt.tab9 shibbolethlaw21_PyurlBuilt.bits9 (fun HT_ HW_ => ?_)
                                                  generalize w76.drew = w77 at BK202 HB hHeld ⊢
                                                  refine pure_ (i := 0) (N := some 89) (v := ?_) (a' := ?_) #[true, false, false, false, false, false, false, false, false, false, false, false, false, false, false, false, false, false, false, false, false, false, false] rfl rfl (any_of HT_.out (by kernel_rfl)) (fun _ _ _ h => h) (Or.inl ⟨by rfl, ?_⟩) ?_ ?_
                                                  rotate_left
                                                  · intro w'
                                                    go_simp
                                                    with_reducible rfl
                                                  rotate_left
                                                  · simp only [Act.put, List.setIfInBounds_toArray, List.set_cons_zero, List.set_cons_succ, i64_w, i32_w]
                                                    rfl
                                                  refine take_ (i := 2) (N := some 91) (v := ?_) (a' := ?_) #[true, false, true, false, false, false, false, false, false, false, false, false, false, false, false, false, false, false, false, false, false, false, false] rfl rfl (take_ofW HT_.out HW_.out (by kernel_rfl)) (fun _ _ _ h => h) (Or.inl ⟨by rfl, ?_⟩) hHeld ?_ ?_
                                                  rotate_left
                                                  · rintro w' ⟨s0, s1, s2⟩
                                                    go_simp
                                                    with_reducible rfl
                                                  rotate_left
                                                  · simp only [Act.put, List.setIfInBounds_toArray, List.set_cons_zero, List.set_cons_succ, i64_w, i32_w]
                                                    rfl
                                                  refine one_ (i := 1) (N := some 90) #[true, true, true, false, false, false, false, false, false, false, false, false, false, false, false, false, false, false, false, false, false, false, false] rfl rfl (one_of HT_.out (by kernel_rfl)) (by decide) (fun K hK => ?_)
                                                  refine goes_ Try.func13 (by kernel_rfl) rfl #[.string ji42] (by rfl) rfl rfl (by (try simp only [List.map_toArray, List.map_cons, List.map_nil]); first | done | (simp only [hji42]; rfl) | rfl | (simp only [List.length_drop, List.length_take]; rfl)) ?_
                                                  with_reducible refine (pyurl_Parse.calls kj6 ji42 t206 t207 t208 _ A58.out).mono ?_
                                                  rintro e w78 ⟨rfl, hb⟩
                                                  refine ⟨_, rfl, ?_⟩
                                                  have n0_ := Aside0.mk (blk_below (g := gb202) (o := .cells #[.bool true, .string t197, .string ji19] 24 (0, 0)) (by (with_reducible repeat (first | refine blk_drewN ?_ _ | refine blk_drew ?_ | refine blk_alloc ?_ _)); exact BK202.out) hb)
                                                  have n1_ := Aside0.mk (below_step (by repeat (first | (with_reducible first | exact HB.out | apply below_alloc | apply pw_below_drewN | apply below_drew1 | refine below_set ?_ GE202.out) | exact HB.out)) hb)
                                                  clear BK202
                                                  clear HB
                                                  have BK202 := n0_
                                                  have HB := n1_
                                                  clear n0_ n1_
                                                  (try clear hb)
                                                  (try clear hb2)
                                                  (try clear hk)
                                                  (try clear hi)
                                                  refine hK.out _ _ ⟨(blk_cell BK202.out 0).trans rfl, (blk_cell BK202.out 1).trans rfl, (blk_cell BK202.out 2).trans rfl⟩ (fun hHeld => ?_)
                                                  clear hK K
                                                  refine norm_ (a' := ?_) ?_ ?_
                                                  rotate_left
                                                  · show Act.put _ (some 90) _ = _
                                                    simp only [Act.put, List.setIfInBounds_toArray, List.set_cons_zero, List.set_cons_succ, i64_w, i32_w]
                                                    rfl
                                                  refine pure_ (i := 3) (N := some 92) (v := ?_) (a' := ?_) #[true, true, true, true, false, false, false, false, false, false, false, false, false, false, false, false, false, false, false, false, false, false, false] rfl rfl (any_of HT_.out (by kernel_rfl)) (fun _ _ _ h => h) (Or.inl ⟨by rfl, ?_⟩) ?_ ?_
                                                  rotate_left
                                                  · intro w'
                                                    go_simp
                                                    with_reducible rfl
                                                  rotate_left
                                                  · simp only [Act.put, List.setIfInBounds_toArray, List.set_cons_zero, List.set_cons_succ, i64_w, i32_w]
                                                    rfl
                                                  refine pure_ (i := 4) (N := some 93) (v := ?_) (a' := ?_) #[true, true, true, true, true, false, false, false, false, false, false, false, false, false, false, false, false, false, false, false, false, false, false] rfl rfl (any_of HT_.out (by kernel_rfl)) (fun _ _ _ h => h) (Or.inl ⟨by rfl, ?_⟩) ?_ ?_
                                                  rotate_left
                                                  · intro w'
                                                    go_simp
                                                    with_reducible rfl
                                                  rotate_left
                                                  · simp only [Act.put, List.setIfInBounds_toArray, List.set_cons_zero, List.set_cons_succ, i64_w, i32_w]
                                                    rfl
                                                  refine pure_ (i := 5) (N := some 94) (v := ?_) (a' := ?_) #[true, true, true, true, true, true, false, false, false, false, false, false, false, false, false, false, false, false, false, false, false, false, false] rfl rfl (any_of HT_.out (by kernel_rfl)) (fun _ _ _ h => h) (Or.inl ⟨by rfl, ?_⟩) ?_ ?_
                                                  rotate_left
                                                  · intro w'
                                                    go_simp
                                                    with_reducible rfl
                                                  rotate_left
                                                  · simp only [Act.put, List.setIfInBounds_toArray, List.set_cons_zero, List.set_cons_succ, i64_w, i32_w]
                                                    rfl
                                                  refine pure_ (i := 6) (N := some 95) (v := ?_) (a' := ?_) #[true, true, true, true, true, true, true, false, false, false, false, false, false, false, false, false, false, false, false, false, false, false, false] rfl rfl (any_of HT_.out (by kernel_rfl)) (fun _ _ _ h => h) (Or.inl ⟨by rfl, ?_⟩) ?_ ?_
                                                  rotate_left
                                                  · intro w'
                                                    go_simp
                                                    with_reducible rfl
                                                  rotate_left
                                                  · simp only [Act.put, List.setIfInBounds_toArray, List.set_cons_zero, List.set_cons_succ, i64_w, i32_w]
                                                    rfl
                                                  refine take_ (i := 8) (N := some 97) (v := ?_) (a' := ?_) #[true, true, true, true, true, true, true, false, true, false, false, false, false, false, false, false, false, false, false, false, false, false, false] rfl rfl (take_ofW HT_.out HW_.out (by kernel_rfl)) (fun _ _ _ h => h) (Or.inl ⟨by rfl, ?_⟩) hHeld ?_ ?_
                                                  rotate_left
                                                  · rintro w' ⟨s0, s1, s2⟩
                                                    go_simp
                                                    with_reducible rfl
                                                  rotate_left
                                                  · simp only [Act.put, List.setIfInBounds_toArray, List.set_cons_zero, List.set_cons_succ, i64_w, i32_w]
                                                    rfl
                                                  refine one_ (i := 7) (N := some 96) #[true, true, true, true, true, true, true, true, true, false, false, false, false, false, false, false, false, false, false, false, false, false, false] rfl rfl (one_of HT_.out (by kernel_rfl)) (by decide) (fun K hK => ?_)
                                                  refine goes_ Try.func13 (by kernel_rfl) rfl #[.string ji61] (by rfl) rfl rfl (by (try simp only [List.map_toArray, List.map_cons, List.map_nil]); first | done | (simp only [hji61]; rfl) | rfl | (simp only [List.length_drop, List.length_take]; rfl)) ?_
                                                  with_reducible refine (pyurl_Parse.calls kj6 ji61 t209 t210 t211 _ A62.out).mono ?_
                                                  rintro e w79 ⟨rfl, hb⟩
                                                  refine ⟨_, rfl, ?_⟩
                                                  have n0_ := Aside0.mk (blk_below (g := gb202) (o := .cells #[.bool true, .string t197, .string ji19] 24 (0, 0)) (by (with_reducible repeat (first | refine blk_drewN ?_ _ | refine blk_drew ?_ | refine blk_alloc ?_ _)); exact BK202.out) hb)
                                                  have n1_ := Aside0.mk (below_step (by repeat (first | (with_reducible first | exact HB.out | apply below_alloc | apply pw_below_drewN | apply below_drew1 | refine below_set ?_ GE202.out) | exact HB.out)) hb)
                                                  clear BK202
                                                  clear HB
                                                  have BK202 := n0_
                                                  have HB := n1_
                                                  clear n0_ n1_
                                                  (try clear hb)
                                                  (try clear hb2)
                                                  (try clear hk)
                                                  (try clear hi)
                                                  refine hK.out _ _ ⟨(blk_cell BK202.out 0).trans rfl, (blk_cell BK202.out 1).trans rfl, (blk_cell BK202.out 2).trans rfl⟩ (fun hHeld => ?_)
                                                  clear hK K
                                                  refine norm_ (a' := ?_) ?_ ?_
                                                  rotate_left
                                                  · show Act.put _ (some 96) _ = _
                                                    simp only [Act.put, List.setIfInBounds_toArray, List.set_cons_zero, List.set_cons_succ, i64_w, i32_w]
                                                    rfl
                                                  refine pure_ (i := 9) (N := some 98) (v := ?_) (a' := ?_) #[true, true, true, true, true, true, true, true, true, true, false, false, false, false, false, false, false, false, false, false, false, false, false] rfl rfl (any_of HT_.out (by kernel_rfl)) (fun _ _ _ h => h) (Or.inl ⟨by rfl, ?_⟩) ?_ ?_
                                                  rotate_left
                                                  · intro w'
                                                    go_simp
                                                    with_reducible rfl
                                                  rotate_left
                                                  · simp only [Act.put, List.setIfInBounds_toArray, List.set_cons_zero, List.set_cons_succ, i64_w, i32_w]
                                                    rfl
                                                  refine pure_ (i := 10) (N := some 99) (v := ?_) (a' := ?_) #[true, true, true, true, true, true, true, true, true, true, true, false, false, false, false, false, false, false, false, false, false, false, false] rfl rfl (any_of HT_.out (by kernel_rfl)) (fun _ _ _ h => h) (Or.inl ⟨by rfl, ?_⟩) ?_ ?_
                                                  rotate_left
                                                  · intro w'
                                                    go_simp
                                                    with_reducible rfl
                                                  rotate_left
                                                  · simp only [Act.put, List.setIfInBounds_toArray, List.set_cons_zero, List.set_cons_succ, i64_w, i32_w]
                                                    rfl
                                                  refine pure_ (i := 11) (N := some 100) (v := ?_) (a' := ?_) #[true, true, true, true, true, true, true, true, true, true, true, true, false, false, false, false, false, false, false, false, false, false, false] rfl rfl (any_of HT_.out (by kernel_rfl)) (fun _ _ _ h => h) (Or.inl ⟨by rfl, ?_⟩) ?_ ?_
                                                  rotate_left
                                                  · intro w'
                                                    go_simp
                                                    with_reducible rfl
                                                  rotate_left
                                                  · simp only [Act.put, List.setIfInBounds_toArray, List.set_cons_zero, List.set_cons_succ, i64_w, i32_w]
                                                    rfl
                                                  refine pure_ (i := 12) (N := some 101) (v := ?_) (a' := ?_) #[true, true, true, true, true, true, true, true, true, true, true, true, true, false, false, false, false, false, false, false, false, false, false] rfl rfl (any_of HT_.out (by kernel_rfl)) (fun _ _ _ h => h) (Or.inl ⟨by rfl, ?_⟩) ?_ ?_
                                                  rotate_left
                                                  · intro w'
                                                    go_simp
                                                    with_reducible rfl
                                                  rotate_left
                                                  · simp only [Act.put, List.setIfInBounds_toArray, List.set_cons_zero, List.set_cons_succ, i64_w, i32_w]
                                                    rfl
                                                  refine pure_ (i := 14) (N := some 103) (v := ?_) (a' := ?_) #[true, true, true, true, true, true, true, true, true, true, true, true, true, false, true, false, false, false, false, false, false, false, false] rfl rfl (any_of HT_.out (by kernel_rfl)) (fun _ _ _ h => h) (Or.inl ⟨by rfl, ?_⟩) ?_ ?_
                                                  rotate_left
                                                  · intro w'
                                                    go_simp
                                                    with_reducible rfl
                                                  rotate_left
                                                  · simp only [Act.put, List.setIfInBounds_toArray, List.set_cons_zero, List.set_cons_succ, i64_w, i32_w]
                                                    rfl
                                                  refine pure_ (i := 15) (N := some 104) (v := ?_) (a' := ?_) #[true, true, true, true, true, true, true, true, true, true, true, true, true, false, true, true, false, false, false, false, false, false, false] rfl rfl (any_of HT_.out (by kernel_rfl)) (fun _ _ _ h => h) (Or.inl ⟨by rfl, ?_⟩) ?_ ?_
                                                  rotate_left
                                                  · intro w'
                                                    go_simp
                                                    with_reducible rfl
                                                  rotate_left
                                                  · simp only [Act.put, List.setIfInBounds_toArray, List.set_cons_zero, List.set_cons_succ, i64_w, i32_w]
                                                    rfl
                                                  refine pure_ (i := 16) (N := some 105) (v := ?_) (a' := ?_) #[true, true, true, true, true, true, true, true, true, true, true, true, true, false, true, true, true, false, false, false, false, false, false] rfl rfl (any_of HT_.out (by kernel_rfl)) (fun _ _ _ h => h) (Or.inl ⟨by rfl, ?_⟩) ?_ ?_
                                                  rotate_left
                                                  · intro w'
                                                    go_simp
                                                    with_reducible rfl
                                                  rotate_left
                                                  · simp only [Act.put, List.setIfInBounds_toArray, List.set_cons_zero, List.set_cons_succ, i64_w, i32_w]
                                                    rfl
                                                  refine one_ (i := 13) (N := some 102) #[true, true, true, true, true, true, true, true, true, true, true, true, true, true, true, true, true, false, false, false, false, false, false] rfl rfl (one_of HT_.out (by kernel_rfl)) (by decide) (fun K hK => ?_)
                                                  refine goes_ Try.func13 (by kernel_rfl) rfl #[.string ji57] (by rfl) rfl rfl (by (try simp only [List.map_toArray, List.map_cons, List.map_nil]); first | done | (simp only [hji57]; rfl) | rfl | (simp only [List.length_drop, List.length_take]; rfl)) ?_
                                                  with_reducible refine (pyurl_Parse.calls kj6 ji57 t212 t213 t214 _ A64.out).mono ?_
                                                  rintro e w80 ⟨rfl, hb⟩
                                                  refine ⟨_, rfl, ?_⟩
                                                  have n0_ := Aside0.mk (blk_below (g := gb202) (o := .cells #[.bool true, .string t197, .string ji19] 24 (0, 0)) (by (with_reducible repeat (first | refine blk_drewN ?_ _ | refine blk_drew ?_ | refine blk_alloc ?_ _)); exact BK202.out) hb)
                                                  have n1_ := Aside0.mk (below_step (by repeat (first | (with_reducible first | exact HB.out | apply below_alloc | apply pw_below_drewN | apply below_drew1 | refine below_set ?_ GE202.out) | exact HB.out)) hb)
                                                  clear BK202
                                                  clear HB
                                                  have BK202 := n0_
                                                  have HB := n1_
                                                  clear n0_ n1_
                                                  (try clear hb)
                                                  (try clear hb2)
                                                  (try clear hk)
                                                  (try clear hi)
                                                  refine hK.out _ _ ⟨(blk_cell BK202.out 0).trans rfl, (blk_cell BK202.out 1).trans rfl, (blk_cell BK202.out 2).trans rfl⟩ (fun hHeld => ?_)
                                                  clear hK K
                                                  refine norm_ (a' := ?_) ?_ ?_
                                                  rotate_left
                                                  · show Act.put _ (some 102) _ = _
                                                    simp only [Act.put, List.setIfInBounds_toArray, List.set_cons_zero, List.set_cons_succ, i64_w, i32_w]
                                                    rfl
                                                  refine pure_ (i := 17) (N := some 106) (v := ?_) (a' := ?_) #[true, true, true, true, true, true, true, true, true, true, true, true, true, true, true, true, true, true, false, false, false, false, false] rfl rfl (any_of HT_.out (by kernel_rfl)) (fun _ _ _ h => h) (Or.inl ⟨by rfl, ?_⟩) ?_ ?_
                                                  rotate_left
                                                  · intro w'
                                                    go_simp
                                                    with_reducible rfl
                                                  rotate_left
                                                  · simp only [Act.put, List.setIfInBounds_toArray, List.set_cons_zero, List.set_cons_succ, i64_w, i32_w]
                                                    rfl
                                                  refine pure_ (i := 18) (N := some 107) (v := ?_) (a' := ?_) #[true, true, true, true, true, true, true, true, true, true, true, true, true, true, true, true, true, true, true, false, false, false, false] rfl rfl (any_of HT_.out (by kernel_rfl)) (fun _ _ _ h => h) (Or.inl ⟨by rfl, ?_⟩) ?_ ?_
                                                  rotate_left
                                                  · intro w'
                                                    go_simp
                                                    with_reducible rfl
                                                  rotate_left
                                                  · simp only [Act.put, List.setIfInBounds_toArray, List.set_cons_zero, List.set_cons_succ, i64_w, i32_w]
                                                    rfl
                                                  refine pure_ (i := 19) (N := some 108) (v := ?_) (a' := ?_) #[true, true, true, true, true, true, true, true, true, true, true, true, true, true, true, true, true, true, true, true, false, false, false] rfl rfl (any_of HT_.out (by kernel_rfl)) (fun _ _ _ h => h) (Or.inl ⟨by rfl, ?_⟩) ?_ ?_
                                                  rotate_left
                                                  · intro w'
                                                    go_simp
                                                    with_reducible rfl
                                                  rotate_left
                                                  · simp only [Act.put, List.setIfInBounds_toArray, List.set_cons_zero, List.set_cons_succ, i64_w, i32_w]
                                                    rfl
                                                  refine one_ (i := 20) (N := some 109) #[true, true, true, true, true, true, true, true, true, true, true, true, true, true, true, true, true, true, true, true, true, false, false] rfl rfl (one_of HT_.out (by kernel_rfl)) (by decide) (fun K hK => ?_)
                                                  refine goes_ Try.func12 (by kernel_rfl) rfl #[] (by rfl) rfl rfl (by (try simp only [List.map_toArray, List.map_cons, List.map_nil]); first | done | rfl | (simp only [List.length_drop, List.length_take]; rfl)) ?_
                                                  with_reducible refine (shibbolethlaw21_awake.calls kj6  t215 _ A66.out).mono ?_
                                                  rintro e w81 ⟨rfl, hb⟩
                                                  refine ⟨_, rfl, ?_⟩
                                                  have n0_ := Aside0.mk (blk_below (g := gb202) (o := .cells #[.bool true, .string t197, .string ji19] 24 (0, 0)) (by (with_reducible repeat (first | refine blk_drewN ?_ _ | refine blk_drew ?_ | refine blk_alloc ?_ _)); exact BK202.out) hb)
                                                  have n1_ := Aside0.mk (below_step (by repeat (first | (with_reducible first | exact HB.out | apply below_alloc | apply pw_below_drewN | apply below_drew1 | refine below_set ?_ GE202.out) | exact HB.out)) hb)
                                                  clear BK202
                                                  clear HB
                                                  have BK202 := n0_
                                                  have HB := n1_
                                                  clear n0_ n1_
                                                  (try clear hb)
                                                  (try clear hb2)
                                                  (try clear hk)
                                                  (try clear hi)
                                                  refine hK.out _ _ ⟨(blk_cell BK202.out 0).trans rfl, (blk_cell BK202.out 1).trans rfl, (blk_cell BK202.out 2).trans rfl⟩ (fun hHeld => ?_)
                                                  clear hK K
                                                  refine norm_ (a' := ?_) ?_ ?_
                                                  rotate_left
                                                  · show Act.put _ (some 109) _ = _
                                                    simp only [Act.put, List.setIfInBounds_toArray, List.set_cons_zero, List.set_cons_succ, i64_w, i32_w]
                                                    rfl
                                                  refine pure_ (i := 21) (N := some 110) (v := ?_) (a' := ?_) #[true, true, true, true, true, true, true, true, true, true, true, true, true, true, true, true, true, true, true, true, true, true, false] rfl rfl (any_of HT_.out (by kernel_rfl)) (fun _ _ _ h => h) (Or.inl ⟨by rfl, ?_⟩) ?_ ?_
                                                  rotate_left
                                                  · intro w'
                                                    go_simp
                                                    with_reducible rfl
                                                  rotate_left
                                                  · simp only [Act.put, List.setIfInBounds_toArray, List.set_cons_zero, List.set_cons_succ, i64_w, i32_w]
                                                    rfl
                                                  refine pure_ (i := 22) (N := some 12) (v := ?_) (a' := ?_) #[true, true, true, true, true, true, true, true, true, true, true, true, true, true, true, true, true, true, true, true, true, true, true] rfl rfl (any_of HT_.out (by kernel_rfl)) (fun _ _ _ h => h) (Or.inl ⟨by rfl, ?_⟩) ?_ ?_
                                                  rotate_left
                                                  · intro w'
                                                    go_simp
                                                    with_reducible rfl
                                                  rotate_left
                                                  · simp only [Act.put, List.setIfInBounds_toArray, List.set_cons_zero, List.set_cons_succ, i64_w, i32_w]
                                                    rfl
                                                  refine done_ (done_of HT_.out (by kernel_rfl)) ?_
                                                  try go_wp2
                                                  go_ret
                                                  exact ⟨by first | rfl | (simp [errW_none, errW_some] <;> rfl) | (simp only [← hji19, ← hji22, ← hji24, ← hji26, ← hji28, ← hji31, ← hji33, ← hji35, ← hji38, ← hji40, ← hji42, ← hji46, ← hji48, ← hji50, ← hji52, ← hji55, ← hji57, ← hji61]; first | rfl | (simp [errW_none, errW_some] <;> rfl)) | (simp [*, errW_none, errW_some] <;> rfl), by repeat (first | (with_reducible first | exact HB.out | apply below_alloc | apply pw_below_drewN | apply below_drew1 | refine below_set ?_ GE202.out) | exact HB.out)⟩
                                                · rw [if_neg c65] at H
                                                  have c65b0 : (t212 && (t213.toList == t203.toList && (t214.toList == ((ji19).toList)))) = false := by simpa using c65
                                                  clear c65
                                                  obtain rfl := Option.some.inj H
                                                  try go_wp2_with (first | ((with_reducible refine gate_callee (f := 16) rfl ?_); refine goesL_ (some 49) rfl rfl Try.func16 (by kernel_rfl) rfl #[.string a1, .string (⟨#[9, 10, 13, 47, 63, 35, 64, 91, 93, 58]⟩ : ByteArray)] rfl (by (try simp only [List.map_toArray, List.map_cons, List.map_nil]); first | done | rfl | (simp only [List.length_drop, List.length_take]; rfl)) ?_; (with_reducible refine (shibbolethlaw21_without.calls kj6 a1 (⟨#[9, 10, 13, 47, 63, 35, 64, 91, 93, 58]⟩ : ByteArray) t197 _ A16.out).mono ?_); rintro e w82 ⟨rfl, hb⟩; refine ⟨_, rfl, ?_⟩; have n0_ := Aside0.mk (below_step (by repeat (first | (with_reducible first | exact HB.out | apply below_alloc | apply pw_below_drewN | apply below_drew1) | exact HB.out)) hb); clear HB; have HB := n0_; clear n0_; (try clear hb); (try clear hb2); (try clear hk); (try clear hi)) | ((with_reducible refine gate_callee (f := 16) rfl ?_); refine goesL_ (some 51) rfl rfl Try.func16 (by kernel_rfl) rfl #[.string a3, .string (⟨#[9, 10, 13, 63, 35]⟩ : ByteArray)] rfl (by (try simp only [List.map_toArray, List.map_cons, List.map_nil]); first | done | rfl | (simp only [List.length_drop, List.length_take]; rfl)) ?_; (with_reducible refine (shibbolethlaw21_without.calls kj6 a3 (⟨#[9, 10, 13, 63, 35]⟩ : ByteArray) t198 _ A17.out).mono ?_); rintro e w83 ⟨rfl, hb⟩; refine ⟨_, rfl, ?_⟩; have n0_ := Aside0.mk (below_step (by repeat (first | (with_reducible first | exact HB.out | apply below_alloc | apply pw_below_drewN | apply below_drew1) | exact HB.out)) hb); clear HB; have HB := n0_; clear n0_; (try clear hb); (try clear hb2); (try clear hk); (try clear hi)) | ((with_reducible refine gate_callee (f := 16) rfl ?_); refine goesL_ (some 54) rfl rfl Try.func16 (by kernel_rfl) rfl #[.string a0, .string (⟨#[47, 63, 35]⟩ : ByteArray)] rfl (by (try simp only [List.map_toArray, List.map_cons, List.map_nil]); first | done | rfl | (simp only [List.length_drop, List.length_take]; rfl)) ?_; (with_reducible refine (shibbolethlaw21_without.calls kj6 a0 (⟨#[47, 63, 35]⟩ : ByteArray) t199 _ A20.out).mono ?_); rintro e w84 ⟨rfl, hb⟩; refine ⟨_, rfl, ?_⟩; have n0_ := Aside0.mk (below_step (by repeat (first | (with_reducible first | exact HB.out | apply below_alloc | apply pw_below_drewN | apply below_drew1) | exact HB.out)) hb); clear HB; have HB := n0_; clear n0_; (try clear hb); (try clear hb2); (try clear hk); (try clear hi)) | ((with_reducible refine gate_callee (f := 16) rfl ?_); refine goesL_ (some 61) rfl rfl Try.func16 (by kernel_rfl) rfl #[.string a2, .string (⟨#[47, 63, 35, 64, 91, 93]⟩ : ByteArray)] rfl (by (try simp only [List.map_toArray, List.map_cons, List.map_nil]); first | done | rfl | (simp only [List.length_drop, List.length_take]; rfl)) ?_; (with_reducible refine (shibbolethlaw21_without.calls kj6 a2 (⟨#[47, 63, 35, 64, 91, 93]⟩ : ByteArray) t200 _ A29.out).mono ?_); rintro e w85 ⟨rfl, hb⟩; refine ⟨_, rfl, ?_⟩; have n0_ := Aside0.mk (below_step (by repeat (first | (with_reducible first | exact HB.out | apply below_alloc | apply pw_below_drewN | apply below_drew1) | exact HB.out)) hb); clear HB; have HB := n0_; clear n0_; (try clear hb); (try clear hb2); (try clear hk); (try clear hi)) | ((with_reducible refine gate_callee (f := 16) rfl ?_); refine goesL_ (some 67) rfl rfl Try.func16 (by kernel_rfl) rfl #[.string a4, .string (⟨#[35]⟩ : ByteArray)] rfl (by (try simp only [List.map_toArray, List.map_cons, List.map_nil]); first | done | rfl | (simp only [List.length_drop, List.length_take]; rfl)) ?_; (with_reducible refine (shibbolethlaw21_without.calls kj6 a4 (⟨#[35]⟩ : ByteArray) t201 _ A36.out).mono ?_); rintro e w86 ⟨rfl, hb⟩; refine ⟨_, rfl, ?_⟩; have n0_ := Aside0.mk (below_step (by repeat (first | (with_reducible first | exact HB.out | apply below_alloc | apply pw_below_drewN | apply below_drew1) | exact HB.out)) hb); clear HB; have HB := n0_; clear n0_; (try clear hb); (try clear hb2); (try clear hk); (try clear hi)) | ((with_reducible refine gate_dst (N := 16) rfl ?_); (try (refine gate_guard (by rfl) ?_; dsimp only)); refine box_event ?hg (N := 16) ?hd (cs := #[.bool false, .string (⟨#[]⟩ : ByteArray), .string (⟨#[]⟩ : ByteArray)]) (t := 24) ?hr ?_; (case hd => rfl); (case hg => rfl); (case hr => first | (go_simp; done) | (go_simp; rfl)); intro gb202 hg w87 hbox hb; have n0_ := Aside0.mk (below_step (by repeat (first | (with_reducible first | exact HB.out | apply below_alloc | apply pw_below_drewN | apply below_drew1) | exact HB.out)) hb); have n1_ := Aside0.mk (hbox); have n2_ := Aside0.mk ((by rw [hg]; exact (below_size (by repeat (first | (with_reducible first | exact HB.out | apply below_alloc | apply pw_below_drewN | apply below_drew1) | exact HB.out))) : w.heap.size ≤ gb202)); have n3_ := Aside0.mk ((by rw [hg]; exact (below_size (by repeat (first | (with_reducible first | exact HB.out | apply below_alloc | apply pw_below_drewN | apply below_drew1) | exact HB.out))) : w.heap.size ≤ gb202)); clear HB; have HB := n0_; have BK202 := n1_; have GW202 := n2_; have GE202 := n3_; clear n0_ n1_ n2_ n3_; clear hb hbox hg; have hcz88_0 : w87.cell? ⟨gb202, 0, none⟩ = some (.bool false) := (blk_cell BK202.out 0).trans rfl; have hcz88_1 : w87.cell? ⟨gb202, 1, none⟩ = some (.string (⟨#[]⟩ : ByteArray)) := (blk_cell BK202.out 1).trans rfl; have hcz88_2 : w87.cell? ⟨gb202, 2, none⟩ = some (.string (⟨#[]⟩ : ByteArray)) := (blk_cell BK202.out 2).trans rfl; have hfz88_0 := blk_frozen BK202.out 0; have hfz88_1 := blk_frozen BK202.out 1; have hfz88_2 := blk_frozen BK202.out 2) | ((with_reducible refine gate_callee (f := 16) rfl ?_); refine goesL_ (some 76) rfl rfl Try.func16 (by kernel_rfl) rfl #[.string a1, .string (⟨#[9, 10, 13, 47, 63, 35, 64, 91, 93]⟩ : ByteArray)] rfl (by (try simp only [List.map_toArray, List.map_cons, List.map_nil]); first | done | rfl | (simp only [List.length_drop, List.length_take]; rfl)) ?_; (with_reducible refine (shibbolethlaw21_without.calls kj6 a1 (⟨#[9, 10, 13, 47, 63, 35, 64, 91, 93]⟩ : ByteArray) t203 _ A43.out).mono ?_); rintro e w89 ⟨rfl, hb⟩; refine ⟨_, rfl, ?_⟩; have n0_ := Aside0.mk (blk_below (g := gb202) (o := .cells #[.bool true, .string t197, .string ji19] 24 (0, 0)) (by (with_reducible repeat (first | refine blk_drewN ?_ _ | refine blk_drew ?_ | refine blk_alloc ?_ _)); refine blk_put (cs := #[.bool true, .string t197, .string (⟨#[]⟩ : ByteArray)]) ?_ 2 _ rfl; (with_reducible repeat (first | refine blk_drewN ?_ _ | refine blk_drew ?_ | refine blk_alloc ?_ _)); refine blk_put (cs := #[.bool true, .string (⟨#[]⟩ : ByteArray), .string (⟨#[]⟩ : ByteArray)]) ?_ 1 _ rfl; (with_reducible repeat (first | refine blk_drewN ?_ _ | refine blk_drew ?_ | refine blk_alloc ?_ _)); refine blk_put (cs := #[.bool false, .string (⟨#[]⟩ : ByteArray), .string (⟨#[]⟩ : ByteArray)]) ?_ 0 _ rfl; (with_reducible repeat (first | refine blk_drewN ?_ _ | refine blk_drew ?_ | refine blk_alloc ?_ _)); exact BK202.out) hb); have n1_ := Aside0.mk (below_step (by repeat (first | (with_reducible first | exact HB.out | apply below_alloc | apply pw_below_drewN | apply below_drew1 | refine below_set ?_ GE202.out) | exact HB.out)) hb); clear BK202; clear HB; have BK202 := n0_; have HB := n1_; clear n0_ n1_; (try clear hb); (try clear hb2); (try clear hk); (try clear hi)) | ((with_reducible refine gate_callee (f := 16) rfl ?_); refine goesL_ (some 78) rfl rfl Try.func16 (by kernel_rfl) rfl #[.string a0, .string (⟨#[47, 63, 35]⟩ : ByteArray)] rfl (by (try simp only [List.map_toArray, List.map_cons, List.map_nil]); first | done | rfl | (simp only [List.length_drop, List.length_take]; rfl)) ?_; (with_reducible refine (shibbolethlaw21_without.calls kj6 a0 (⟨#[47, 63, 35]⟩ : ByteArray) t204 _ A44.out).mono ?_); rintro e w90 ⟨rfl, hb⟩; refine ⟨_, rfl, ?_⟩; have n0_ := Aside0.mk (blk_below (g := gb202) (o := .cells #[.bool true, .string t197, .string ji19] 24 (0, 0)) (by (with_reducible repeat (first | refine blk_drewN ?_ _ | refine blk_drew ?_ | refine blk_alloc ?_ _)); exact BK202.out) hb); have n1_ := Aside0.mk (below_step (by repeat (first | (with_reducible first | exact HB.out | apply below_alloc | apply pw_below_drewN | apply below_drew1 | refine below_set ?_ GE202.out) | exact HB.out)) hb); clear BK202; clear HB; have BK202 := n0_; have HB := n1_; clear n0_ n1_; (try clear hb); (try clear hb2); (try clear hk); (try clear hi)) | ((with_reducible refine gate_callee (f := 16) rfl ?_); refine goesL_ (some 85) rfl rfl Try.func16 (by kernel_rfl) rfl #[.string a2, .string (⟨#[47, 63, 35, 64]⟩ : ByteArray)] rfl (by (try simp only [List.map_toArray, List.map_cons, List.map_nil]); first | done | rfl | (simp only [List.length_drop, List.length_take]; rfl)) ?_; (with_reducible refine (shibbolethlaw21_without.calls kj6 a2 (⟨#[47, 63, 35, 64]⟩ : ByteArray) t205 _ A53.out).mono ?_); rintro e w91 ⟨rfl, hb⟩; refine ⟨_, rfl, ?_⟩; have n0_ := Aside0.mk (blk_below (g := gb202) (o := .cells #[.bool true, .string t197, .string ji19] 24 (0, 0)) (by (with_reducible repeat (first | refine blk_drewN ?_ _ | refine blk_drew ?_ | refine blk_alloc ?_ _)); exact BK202.out) hb); have n1_ := Aside0.mk (below_step (by repeat (first | (with_reducible first | exact HB.out | apply below_alloc | apply pw_below_drewN | apply below_drew1 | refine below_set ?_ GE202.out) | exact HB.out)) hb); clear BK202; clear HB; have BK202 := n0_; have HB := n1_; clear n0_ n1_; (try clear hb); (try clear hb2); (try clear hk); (try clear hi)))
                                                  have n0_ := Aside0.mk (blk_drew BK202.out)
                                                  have n1_ := Aside0.mk (below_drew1 HB.out)
                                                  clear BK202
                                                  clear HB
                                                  have BK202 := n0_
                                                  have HB := n1_
                                                  clear n0_ n1_
                                                  refine start_ (n := 23) (S := fun w' => w'.cell? ⟨gb202, 0, none⟩ = some (.bool true) ∧ w'.cell? ⟨gb202, 1, none⟩ = some (.string t197) ∧ w'.cell? ⟨gb202, 2, none⟩ = some (.string ji19)) (ds := []) #[false, false, false, false, false, false, false, false, false, false, false, false, false, false, false, false, false, false, false, false, false, false, false] (by kernel_rfl) rfl rfl ⟨(blk_cell BK202.out 0).trans rfl, (blk_cell BK202.out 1).trans rfl, (blk_cell BK202.out 2).trans rfl⟩ (fun hHeld => ?_); refine with_tabW shibbolethlaw21_PyurlBuilt.tab9 shibbolethlaw21_PyurlBuilt.bits9 (fun HT_ HW_ => ?_)
                                                  generalize w91.drew = w92 at BK202 HB hHeld ⊢
                                                  refine pure_ (i := 0) (N := some 89) (v := ?_) (a' := ?_) #[true, false, false, false, false, false, false, false, false, false, false, false, false, false, false, false, false, false, false, false, false, false, false] rfl rfl (any_of HT_.out (by kernel_rfl)) (fun _ _ _ h => h) (Or.inl ⟨by rfl, ?_⟩) ?_ ?_
                                                  rotate_left
                                                  · intro w'
                                                    go_simp
                                                    with_reducible rfl
                                                  rotate_left
                                                  · simp only [Act.put, List.setIfInBounds_toArray, List.set_cons_zero, List.set_cons_succ, i64_w, i32_w]
                                                    rfl
                                                  refine take_ (i := 2) (N := some 91) (v := ?_) (a' := ?_) #[true, false, true, false, false, false, false, false, false, false, false, false, false, false, false, false, false, false, false, false, false, false, false] rfl rfl (take_ofW HT_.out HW_.out (by kernel_rfl)) (fun _ _ _ h => h) (Or.inl ⟨by rfl, ?_⟩) hHeld ?_ ?_
                                                  rotate_left
                                                  · rintro w' ⟨s0, s1, s2⟩
                                                    go_simp
                                                    with_reducible rfl
                                                  rotate_left
                                                  · simp only [Act.put, List.setIfInBounds_toArray, List.set_cons_zero, List.set_cons_succ, i64_w, i32_w]
                                                    rfl
                                                  refine one_ (i := 1) (N := some 90) #[true, true, true, false, false, false, false, false, false, false, false, false, false, false, false, false, false, false, false, false, false, false, false] rfl rfl (one_of HT_.out (by kernel_rfl)) (by decide) (fun K hK => ?_)
                                                  refine goes_ Try.func13 (by kernel_rfl) rfl #[.string ji42] (by rfl) rfl rfl (by (try simp only [List.map_toArray, List.map_cons, List.map_nil]); first | done | (simp only [hji42]; rfl) | rfl | (simp only [List.length_drop, List.length_take]; rfl)) ?_
                                                  with_reducible refine (pyurl_Parse.calls kj6 ji42 t206 t207 t208 _ A58.out).mono ?_
                                                  rintro e w93 ⟨rfl, hb⟩
                                                  refine ⟨_, rfl, ?_⟩
                                                  have n0_ := Aside0.mk (blk_below (g := gb202) (o := .cells #[.bool true, .string t197, .string ji19] 24 (0, 0)) (by (with_reducible repeat (first | refine blk_drewN ?_ _ | refine blk_drew ?_ | refine blk_alloc ?_ _)); exact BK202.out) hb)
                                                  have n1_ := Aside0.mk (below_step (by repeat (first | (with_reducible first | exact HB.out | apply below_alloc | apply pw_below_drewN | apply below_drew1 | refine below_set ?_ GE202.out) | exact HB.out)) hb)
                                                  clear BK202
                                                  clear HB
                                                  have BK202 := n0_
                                                  have HB := n1_
                                                  clear n0_ n1_
                                                  (try clear hb)
                                                  (try clear hb2)
                                                  (try clear hk)
                                                  (try clear hi)
                                                  refine hK.out _ _ ⟨(blk_cell BK202.out 0).trans rfl, (blk_cell BK202.out 1).trans rfl, (blk_cell BK202.out 2).trans rfl⟩ (fun hHeld => ?_)
                                                  clear hK K
                                                  refine norm_ (a' := ?_) ?_ ?_
                                                  rotate_left
                                                  · show Act.put _ (some 90) _ = _
                                                    simp only [Act.put, List.setIfInBounds_toArray, List.set_cons_zero, List.set_cons_succ, i64_w, i32_w]
                                                    rfl
                                                  refine pure_ (i := 3) (N := some 92) (v := ?_) (a' := ?_) #[true, true, true, true, false, false, false, false, false, false, false, false, false, false, false, false, false, false, false, false, false, false, false] rfl rfl (any_of HT_.out (by kernel_rfl)) (fun _ _ _ h => h) (Or.inl ⟨by rfl, ?_⟩) ?_ ?_
                                                  rotate_left
                                                  · intro w'
                                                    go_simp
                                                    with_reducible rfl
                                                  rotate_left
                                                  · simp only [Act.put, List.setIfInBounds_toArray, List.set_cons_zero, List.set_cons_succ, i64_w, i32_w]
                                                    rfl
                                                  refine pure_ (i := 4) (N := some 93) (v := ?_) (a' := ?_) #[true, true, true, true, true, false, false, false, false, false, false, false, false, false, false, false, false, false, false, false, false, false, false] rfl rfl (any_of HT_.out (by kernel_rfl)) (fun _ _ _ h => h) (Or.inl ⟨by rfl, ?_⟩) ?_ ?_
                                                  rotate_left
                                                  · intro w'
                                                    go_simp
                                                    with_reducible rfl
                                                  rotate_left
                                                  · simp only [Act.put, List.setIfInBounds_toArray, List.set_cons_zero, List.set_cons_succ, i64_w, i32_w]
                                                    rfl
                                                  refine pure_ (i := 5) (N := some 94) (v := ?_) (a' := ?_) #[true, true, true, true, true, true, false, false, false, false, false, false, false, false, false, false, false, false, false, false, false, false, false] rfl rfl (any_of HT_.out (by kernel_rfl)) (fun _ _ _ h => h) (Or.inl ⟨by rfl, ?_⟩) ?_ ?_
                                                  rotate_left
                                                  · intro w'
                                                    go_simp
                                                    with_reducible rfl
                                                  rotate_left
                                                  · simp only [Act.put, List.setIfInBounds_toArray, List.set_cons_zero, List.set_cons_succ, i64_w, i32_w]
                                                    rfl
                                                  refine pure_ (i := 6) (N := some 95) (v := ?_) (a' := ?_) #[true, true, true, true, true, true, true, false, false, false, false, false, false, false, false, false, false, false, false, false, false, false, false] rfl rfl (any_of HT_.out (by kernel_rfl)) (fun _ _ _ h => h) (Or.inl ⟨by rfl, ?_⟩) ?_ ?_
                                                  rotate_left
                                                  · intro w'
                                                    go_simp
                                                    with_reducible rfl
                                                  rotate_left
                                                  · simp only [Act.put, List.setIfInBounds_toArray, List.set_cons_zero, List.set_cons_succ, i64_w, i32_w]
                                                    rfl
                                                  refine take_ (i := 8) (N := some 97) (v := ?_) (a' := ?_) #[true, true, true, true, true, true, true, false, true, false, false, false, false, false, false, false, false, false, false, false, false, false, false] rfl rfl (take_ofW HT_.out HW_.out (by kernel_rfl)) (fun _ _ _ h => h) (Or.inl ⟨by rfl, ?_⟩) hHeld ?_ ?_
                                                  rotate_left
                                                  · rintro w' ⟨s0, s1, s2⟩
                                                    go_simp
                                                    with_reducible rfl
                                                  rotate_left
                                                  · simp only [Act.put, List.setIfInBounds_toArray, List.set_cons_zero, List.set_cons_succ, i64_w, i32_w]
                                                    rfl
                                                  refine one_ (i := 7) (N := some 96) #[true, true, true, true, true, true, true, true, true, false, false, false, false, false, false, false, false, false, false, false, false, false, false] rfl rfl (one_of HT_.out (by kernel_rfl)) (by decide) (fun K hK => ?_)
                                                  refine goes_ Try.func13 (by kernel_rfl) rfl #[.string ji61] (by rfl) rfl rfl (by (try simp only [List.map_toArray, List.map_cons, List.map_nil]); first | done | (simp only [hji61]; rfl) | rfl | (simp only [List.length_drop, List.length_take]; rfl)) ?_
                                                  with_reducible refine (pyurl_Parse.calls kj6 ji61 t209 t210 t211 _ A62.out).mono ?_
                                                  rintro e w94 ⟨rfl, hb⟩
                                                  refine ⟨_, rfl, ?_⟩
                                                  have n0_ := Aside0.mk (blk_below (g := gb202) (o := .cells #[.bool true, .string t197, .string ji19] 24 (0, 0)) (by (with_reducible repeat (first | refine blk_drewN ?_ _ | refine blk_drew ?_ | refine blk_alloc ?_ _)); exact BK202.out) hb)
                                                  have n1_ := Aside0.mk (below_step (by repeat (first | (with_reducible first | exact HB.out | apply below_alloc | apply pw_below_drewN | apply below_drew1 | refine below_set ?_ GE202.out) | exact HB.out)) hb)
                                                  clear BK202
                                                  clear HB
                                                  have BK202 := n0_
                                                  have HB := n1_
                                                  clear n0_ n1_
                                                  (try clear hb)
                                                  (try clear hb2)
                                                  (try clear hk)
                                                  (try clear hi)
                                                  refine hK.out _ _ ⟨(blk_cell BK202.out 0).trans rfl, (blk_cell BK202.out 1).trans rfl, (blk_cell BK202.out 2).trans rfl⟩ (fun hHeld => ?_)
                                                  clear hK K
                                                  refine norm_ (a' := ?_) ?_ ?_
                                                  rotate_left
                                                  · show Act.put _ (some 96) _ = _
                                                    simp only [Act.put, List.setIfInBounds_toArray, List.set_cons_zero, List.set_cons_succ, i64_w, i32_w]
                                                    rfl
                                                  refine pure_ (i := 9) (N := some 98) (v := ?_) (a' := ?_) #[true, true, true, true, true, true, true, true, true, true, false, false, false, false, false, false, false, false, false, false, false, false, false] rfl rfl (any_of HT_.out (by kernel_rfl)) (fun _ _ _ h => h) (Or.inl ⟨by rfl, ?_⟩) ?_ ?_
                                                  rotate_left
                                                  · intro w'
                                                    go_simp
                                                    with_reducible rfl
                                                  rotate_left
                                                  · simp only [Act.put, List.setIfInBounds_toArray, List.set_cons_zero, List.set_cons_succ, i64_w, i32_w]
                                                    rfl
                                                  refine pure_ (i := 10) (N := some 99) (v := ?_) (a' := ?_) #[true, true, true, true, true, true, true, true, true, true, true, false, false, false, false, false, false, false, false, false, false, false, false] rfl rfl (any_of HT_.out (by kernel_rfl)) (fun _ _ _ h => h) (Or.inl ⟨by rfl, ?_⟩) ?_ ?_
                                                  rotate_left
                                                  · intro w'
                                                    go_simp
                                                    with_reducible rfl
                                                  rotate_left
                                                  · simp only [Act.put, List.setIfInBounds_toArray, List.set_cons_zero, List.set_cons_succ, i64_w, i32_w]
                                                    rfl
                                                  refine pure_ (i := 11) (N := some 100) (v := ?_) (a' := ?_) #[true, true, true, true, true, true, true, true, true, true, true, true, false, false, false, false, false, false, false, false, false, false, false] rfl rfl (any_of HT_.out (by kernel_rfl)) (fun _ _ _ h => h) (Or.inl ⟨by rfl, ?_⟩) ?_ ?_
                                                  rotate_left
                                                  · intro w'
                                                    go_simp
                                                    with_reducible rfl
                                                  rotate_left
                                                  · simp only [Act.put, List.setIfInBounds_toArray, List.set_cons_zero, List.set_cons_succ, i64_w, i32_w]
                                                    rfl
                                                  refine pure_ (i := 12) (N := some 101) (v := ?_) (a' := ?_) #[true, true, true, true, true, true, true, true, true, true, true, true, true, false, false, false, false, false, false, false, false, false, false] rfl rfl (any_of HT_.out (by kernel_rfl)) (fun _ _ _ h => h) (Or.inl ⟨by rfl, ?_⟩) ?_ ?_
                                                  rotate_left
                                                  · intro w'
                                                    go_simp
                                                    with_reducible rfl
                                                  rotate_left
                                                  · simp only [Act.put, List.setIfInBounds_toArray, List.set_cons_zero, List.set_cons_succ, i64_w, i32_w]
                                                    rfl
                                                  refine pure_ (i := 14) (N := some 103) (v := ?_) (a' := ?_) #[true, true, true, true, true, true, true, true, true, true, true, true, true, false, true, false, false, false, false, false, false, false, false] rfl rfl (any_of HT_.out (by kernel_rfl)) (fun _ _ _ h => h) (Or.inl ⟨by rfl, ?_⟩) ?_ ?_
                                                  rotate_left
                                                  · intro w'
                                                    go_simp
                                                    with_reducible rfl
                                                  rotate_left
                                                  · simp only [Act.put, List.setIfInBounds_toArray, List.set_cons_zero, List.set_cons_succ, i64_w, i32_w]
                                                    rfl
                                                  refine pure_ (i := 15) (N := some 104) (v := ?_) (a' := ?_) #[true, true, true, true, true, true, true, true, true, true, true, true, true, false, true, true, false, false, false, false, false, false, false] rfl rfl (any_of HT_.out (by kernel_rfl)) (fun _ _ _ h => h) (Or.inl ⟨by rfl, ?_⟩) ?_ ?_
                                                  rotate_left
                                                  · intro w'
                                                    go_simp
                                                    with_reducible rfl
                                                  rotate_left
                                                  · simp only [Act.put, List.setIfInBounds_toArray, List.set_cons_zero, List.set_cons_succ, i64_w, i32_w]
                                                    rfl
                                                  refine pure_ (i := 16) (N := some 105) (v := ?_) (a' := ?_) #[true, true, true, true, true, true, true, true, true, true, true, true, true, false, true, true, true, false, false, false, false, false, false] rfl rfl (any_of HT_.out (by kernel_rfl)) (fun _ _ _ h => h) (Or.inl ⟨by rfl, ?_⟩) ?_ ?_
                                                  rotate_left
                                                  · intro w'
                                                    go_simp
                                                    with_reducible rfl
                                                  rotate_left
                                                  · simp only [Act.put, List.setIfInBounds_toArray, List.set_cons_zero, List.set_cons_succ, i64_w, i32_w]
                                                    rfl
                                                  refine one_ (i := 13) (N := some 102) #[true, true, true, true, true, true, true, true, true, true, true, true, true, true, true, true, true, false, false, false, false, false, false] rfl rfl (one_of HT_.out (by kernel_rfl)) (by decide) (fun K hK => ?_)
                                                  refine goes_ Try.func13 (by kernel_rfl) rfl #[.string ji57] (by rfl) rfl rfl (by (try simp only [List.map_toArray, List.map_cons, List.map_nil]); first | done | (simp only [hji57]; rfl) | rfl | (simp only [List.length_drop, List.length_take]; rfl)) ?_
                                                  with_reducible refine (pyurl_Parse.calls kj6 ji57 t212 t213 t214 _ A64.out).mono ?_
                                                  rintro e w95 ⟨rfl, hb⟩
                                                  refine ⟨_, rfl, ?_⟩
                                                  have n0_ := Aside0.mk (blk_below (g := gb202) (o := .cells #[.bool true, .string t197, .string ji19] 24 (0, 0)) (by (with_reducible repeat (first | refine blk_drewN ?_ _ | refine blk_drew ?_ | refine blk_alloc ?_ _)); exact BK202.out) hb)
                                                  have n1_ := Aside0.mk (below_step (by repeat (first | (with_reducible first | exact HB.out | apply below_alloc | apply pw_below_drewN | apply below_drew1 | refine below_set ?_ GE202.out) | exact HB.out)) hb)
                                                  clear BK202
                                                  clear HB
                                                  have BK202 := n0_
                                                  have HB := n1_
                                                  clear n0_ n1_
                                                  (try clear hb)
                                                  (try clear hb2)
                                                  (try clear hk)
                                                  (try clear hi)
                                                  refine hK.out _ _ ⟨(blk_cell BK202.out 0).trans rfl, (blk_cell BK202.out 1).trans rfl, (blk_cell BK202.out 2).trans rfl⟩ (fun hHeld => ?_)
                                                  clear hK K
                                                  refine norm_ (a' := ?_) ?_ ?_
                                                  rotate_left
                                                  · show Act.put _ (some 102) _ = _
                                                    simp only [Act.put, List.setIfInBounds_toArray, List.set_cons_zero, List.set_cons_succ, i64_w, i32_w]
                                                    rfl
                                                  refine pure_ (i := 17) (N := some 106) (v := ?_) (a' := ?_) #[true, true, true, true, true, true, true, true, true, true, true, true, true, true, true, true, true, true, false, false, false, false, false] rfl rfl (any_of HT_.out (by kernel_rfl)) (fun _ _ _ h => h) (Or.inl ⟨by rfl, ?_⟩) ?_ ?_
                                                  rotate_left
                                                  · intro w'
                                                    go_simp
                                                    with_reducible rfl
                                                  rotate_left
                                                  · simp only [Act.put, List.setIfInBounds_toArray, List.set_cons_zero, List.set_cons_succ, i64_w, i32_w]
                                                    rfl
                                                  refine pure_ (i := 18) (N := some 107) (v := ?_) (a' := ?_) #[true, true, true, true, true, true, true, true, true, true, true, true, true, true, true, true, true, true, true, false, false, false, false] rfl rfl (any_of HT_.out (by kernel_rfl)) (fun _ _ _ h => h) (Or.inl ⟨by rfl, ?_⟩) ?_ ?_
                                                  rotate_left
                                                  · intro w'
                                                    go_simp
                                                    with_reducible rfl
                                                  rotate_left
                                                  · simp only [Act.put, List.setIfInBounds_toArray, List.set_cons_zero, List.set_cons_succ, i64_w, i32_w]
                                                    rfl
                                                  refine pure_ (i := 19) (N := some 108) (v := ?_) (a' := ?_) #[true, true, true, true, true, true, true, true, true, true, true, true, true, true, true, true, true, true, true, true, false, false, false] rfl rfl (any_of HT_.out (by kernel_rfl)) (fun _ _ _ h => h) (Or.inl ⟨by rfl, ?_⟩) ?_ ?_
                                                  rotate_left
                                                  · intro w'
                                                    go_simp
                                                    with_reducible rfl
                                                  rotate_left
                                                  · simp only [Act.put, List.setIfInBounds_toArray, List.set_cons_zero, List.set_cons_succ, i64_w, i32_w]
                                                    rfl
                                                  refine pure_ (i := 20) (N := some 109) (v := undef) (a' := ?_) #[true, true, true, true, true, true, true, true, true, true, true, true, true, true, true, true, true, true, true, true, true, false, false] rfl rfl (any_of HT_.out (by kernel_rfl)) (fun _ _ _ h => h) (Or.inr ⟨by rfl, rfl⟩) ?_ ?_
                                                  rotate_left
                                                  · simp only [Act.put, List.setIfInBounds_toArray, List.set_cons_zero, List.set_cons_succ, i64_w, i32_w]
                                                    rfl
                                                  refine pure_ (i := 21) (N := some 110) (v := ?_) (a' := ?_) #[true, true, true, true, true, true, true, true, true, true, true, true, true, true, true, true, true, true, true, true, true, true, false] rfl rfl (any_of HT_.out (by kernel_rfl)) (fun _ _ _ h => h) (Or.inl ⟨by rfl, ?_⟩) ?_ ?_
                                                  rotate_left
                                                  · intro w'
                                                    go_simp
                                                    with_reducible rfl
                                                  rotate_left
                                                  · simp only [Act.put, List.setIfInBounds_toArray, List.set_cons_zero, List.set_cons_succ, i64_w, i32_w]
                                                    rfl
                                                  refine pure_ (i := 22) (N := some 12) (v := ?_) (a' := ?_) #[true, true, true, true, true, true, true, true, true, true, true, true, true, true, true, true, true, true, true, true, true, true, true] rfl rfl (any_of HT_.out (by kernel_rfl)) (fun _ _ _ h => h) (Or.inl ⟨by rfl, ?_⟩) ?_ ?_
                                                  rotate_left
                                                  · intro w'
                                                    go_simp
                                                    with_reducible rfl
                                                  rotate_left
                                                  · simp only [Act.put, List.setIfInBounds_toArray, List.set_cons_zero, List.set_cons_succ, i64_w, i32_w]
                                                    rfl
                                                  refine done_ (done_of HT_.out (by kernel_rfl)) ?_
                                                  try go_wp2
                                                  go_ret
                                                  exact ⟨by first | rfl | (simp [errW_none, errW_some] <;> rfl) | (simp only [← hji19, ← hji22, ← hji24, ← hji26, ← hji28, ← hji31, ← hji33, ← hji35, ← hji38, ← hji40, ← hji42, ← hji46, ← hji48, ← hji50, ← hji52, ← hji55, ← hji57, ← hji61]; first | rfl | (simp [errW_none, errW_some] <;> rfl)) | (simp [*, errW_none, errW_some] <;> rfl), by repeat (first | (with_reducible first | exact HB.out | apply below_alloc | apply pw_below_drewN | apply below_drew1 | refine below_set ?_ GE202.out) | exact HB.out)⟩
                                              · rw [if_neg c63] at H
                                                have c63b0 : (t209 && (t210.toList == t197.toList && (t211.toList == ((ji19).toList)))) = false := by simpa using c63
                                                clear c63
                                                obtain rfl := Option.some.inj H
                                                try go_wp2_with (first | ((with_reducible refine gate_callee (f := 16) rfl ?_); refine goesL_ (some 49) rfl rfl Try.func16 (by kernel_rfl) rfl #[.string a1, .string (⟨#[9, 10, 13, 47, 63, 35, 64, 91, 93, 58]⟩ : ByteArray)] rfl (by (try simp only [List.map_toArray, List.map_cons, List.map_nil]); first | done | rfl | (simp only [List.length_drop, List.length_take]; rfl)) ?_; (with_reducible refine (shibbolethlaw21_without.calls kj6 a1 (⟨#[9, 10, 13, 47, 63, 35, 64, 91, 93, 58]⟩ : ByteArray) t197 _ A16.out).mono ?_); rintro e w96 ⟨rfl, hb⟩; refine ⟨_, rfl, ?_⟩; have n0_ := Aside0.mk (below_step (by repeat (first | (with_reducible first | exact HB.out | apply below_alloc | apply pw_below_drewN | apply below_drew1) | exact HB.out)) hb); clear HB; have HB := n0_; clear n0_; (try clear hb); (try clear hb2); (try clear hk); (try clear hi)) | ((with_reducible refine gate_callee (f := 16) rfl ?_); refine goesL_ (some 51) rfl rfl Try.func16 (by kernel_rfl) rfl #[.string a3, .string (⟨#[9, 10, 13, 63, 35]⟩ : ByteArray)] rfl (by (try simp only [List.map_toArray, List.map_cons, List.map_nil]); first | done | rfl | (simp only [List.length_drop, List.length_take]; rfl)) ?_; (with_reducible refine (shibbolethlaw21_without.calls kj6 a3 (⟨#[9, 10, 13, 63, 35]⟩ : ByteArray) t198 _ A17.out).mono ?_); rintro e w97 ⟨rfl, hb⟩; refine ⟨_, rfl, ?_⟩; have n0_ := Aside0.mk (below_step (by repeat (first | (with_reducible first | exact HB.out | apply below_alloc | apply pw_below_drewN | apply below_drew1) | exact HB.out)) hb); clear HB; have HB := n0_; clear n0_; (try clear hb); (try clear hb2); (try clear hk); (try clear hi)) | ((with_reducible refine gate_callee (f := 16) rfl ?_); refine goesL_ (some 54) rfl rfl Try.func16 (by kernel_rfl) rfl #[.string a0, .string (⟨#[47, 63, 35]⟩ : ByteArray)] rfl (by (try simp only [List.map_toArray, List.map_cons, List.map_nil]); first | done | rfl | (simp only [List.length_drop, List.length_take]; rfl)) ?_; (with_reducible refine (shibbolethlaw21_without.calls kj6 a0 (⟨#[47, 63, 35]⟩ : ByteArray) t199 _ A20.out).mono ?_); rintro e w98 ⟨rfl, hb⟩; refine ⟨_, rfl, ?_⟩; have n0_ := Aside0.mk (below_step (by repeat (first | (with_reducible first | exact HB.out | apply below_alloc | apply pw_below_drewN | apply below_drew1) | exact HB.out)) hb); clear HB; have HB := n0_; clear n0_; (try clear hb); (try clear hb2); (try clear hk); (try clear hi)) | ((with_reducible refine gate_callee (f := 16) rfl ?_); refine goesL_ (some 61) rfl rfl Try.func16 (by kernel_rfl) rfl #[.string a2, .string (⟨#[47, 63, 35, 64, 91, 93]⟩ : ByteArray)] rfl (by (try simp only [List.map_toArray, List.map_cons, List.map_nil]); first | done | rfl | (simp only [List.length_drop, List.length_take]; rfl)) ?_; (with_reducible refine (shibbolethlaw21_without.calls kj6 a2 (⟨#[47, 63, 35, 64, 91, 93]⟩ : ByteArray) t200 _ A29.out).mono ?_); rintro e w99 ⟨rfl, hb⟩; refine ⟨_, rfl, ?_⟩; have n0_ := Aside0.mk (below_step (by repeat (first | (with_reducible first | exact HB.out | apply below_alloc | apply pw_below_drewN | apply below_drew1) | exact HB.out)) hb); clear HB; have HB := n0_; clear n0_; (try clear hb); (try clear hb2); (try clear hk); (try clear hi)) | ((with_reducible refine gate_callee (f := 16) rfl ?_); refine goesL_ (some 67) rfl rfl Try.func16 (by kernel_rfl) rfl #[.string a4, .string (⟨#[35]⟩ : ByteArray)] rfl (by (try simp only [List.map_toArray, List.map_cons, List.map_nil]); first | done | rfl | (simp only [List.length_drop, List.length_take]; rfl)) ?_; (with_reducible refine (shibbolethlaw21_without.calls kj6 a4 (⟨#[35]⟩ : ByteArray) t201 _ A36.out).mono ?_); rintro e w100 ⟨rfl, hb⟩; refine ⟨_, rfl, ?_⟩; have n0_ := Aside0.mk (below_step (by repeat (first | (with_reducible first | exact HB.out | apply below_alloc | apply pw_below_drewN | apply below_drew1) | exact HB.out)) hb); clear HB; have HB := n0_; clear n0_; (try clear hb); (try clear hb2); (try clear hk); (try clear hi)) | ((with_reducible refine gate_dst (N := 16) rfl ?_); (try (refine gate_guard (by rfl) ?_; dsimp only)); refine box_event ?hg (N := 16) ?hd (cs := #[.bool false, .string (⟨#[]⟩ : ByteArray), .string (⟨#[]⟩ : ByteArray)]) (t := 24) ?hr ?_; (case hd => rfl); (case hg => rfl); (case hr => first | (go_simp; done) | (go_simp; rfl)); intro gb202 hg w101 hbox hb; have n0_ := Aside0.mk (below_step (by repeat (first | (with_reducible first | exact HB.out | apply below_alloc | apply pw_below_drewN | apply below_drew1) | exact HB.out)) hb); have n1_ := Aside0.mk (hbox); have n2_ := Aside0.mk ((by rw [hg]; exact (below_size (by repeat (first | (with_reducible first | exact HB.out | apply below_alloc | apply pw_below_drewN | apply below_drew1) | exact HB.out))) : w.heap.size ≤ gb202)); have n3_ := Aside0.mk ((by rw [hg]; exact (below_size (by repeat (first | (with_reducible first | exact HB.out | apply below_alloc | apply pw_below_drewN | apply below_drew1) | exact HB.out))) : w.heap.size ≤ gb202)); clear HB; have HB := n0_; have BK202 := n1_; have GW202 := n2_; have GE202 := n3_; clear n0_ n1_ n2_ n3_; clear hb hbox hg; have hcz102_0 : w101.cell? ⟨gb202, 0, none⟩ = some (.bool false) := (blk_cell BK202.out 0).trans rfl; have hcz102_1 : w101.cell? ⟨gb202, 1, none⟩ = some (.string (⟨#[]⟩ : ByteArray)) := (blk_cell BK202.out 1).trans rfl; have hcz102_2 : w101.cell? ⟨gb202, 2, none⟩ = some (.string (⟨#[]⟩ : ByteArray)) := (blk_cell BK202.out 2).trans rfl; have hfz102_0 := blk_frozen BK202.out 0; have hfz102_1 := blk_frozen BK202.out 1; have hfz102_2 := blk_frozen BK202.out 2) | ((with_reducible refine gate_callee (f := 16) rfl ?_); refine goesL_ (some 76) rfl rfl Try.func16 (by kernel_rfl) rfl #[.string a1, .string (⟨#[9, 10, 13, 47, 63, 35, 64, 91, 93]⟩ : ByteArray)] rfl (by (try simp only [List.map_toArray, List.map_cons, List.map_nil]); first | done | rfl | (simp only [List.length_drop, List.length_take]; rfl)) ?_; (with_reducible refine (shibbolethlaw21_without.calls kj6 a1 (⟨#[9, 10, 13, 47, 63, 35, 64, 91, 93]⟩ : ByteArray) t203 _ A43.out).mono ?_); rintro e w103 ⟨rfl, hb⟩; refine ⟨_, rfl, ?_⟩; have n0_ := Aside0.mk (blk_below (g := gb202) (o := .cells #[.bool true, .string t197, .string ji19] 24 (0, 0)) (by (with_reducible repeat (first | refine blk_drewN ?_ _ | refine blk_drew ?_ | refine blk_alloc ?_ _)); refine blk_put (cs := #[.bool true, .string t197, .string (⟨#[]⟩ : ByteArray)]) ?_ 2 _ rfl; (with_reducible repeat (first | refine blk_drewN ?_ _ | refine blk_drew ?_ | refine blk_alloc ?_ _)); refine blk_put (cs := #[.bool true, .string (⟨#[]⟩ : ByteArray), .string (⟨#[]⟩ : ByteArray)]) ?_ 1 _ rfl; (with_reducible repeat (first | refine blk_drewN ?_ _ | refine blk_drew ?_ | refine blk_alloc ?_ _)); refine blk_put (cs := #[.bool false, .string (⟨#[]⟩ : ByteArray), .string (⟨#[]⟩ : ByteArray)]) ?_ 0 _ rfl; (with_reducible repeat (first | refine blk_drewN ?_ _ | refine blk_drew ?_ | refine blk_alloc ?_ _)); exact BK202.out) hb); have n1_ := Aside0.mk (below_step (by repeat (first | (with_reducible first | exact HB.out | apply below_alloc | apply pw_below_drewN | apply below_drew1 | refine below_set ?_ GE202.out) | exact HB.out)) hb); clear BK202; clear HB; have BK202 := n0_; have HB := n1_; clear n0_ n1_; (try clear hb); (try clear hb2); (try clear hk); (try clear hi)) | ((with_reducible refine gate_callee (f := 16) rfl ?_); refine goesL_ (some 78) rfl rfl Try.func16 (by kernel_rfl) rfl #[.string a0, .string (⟨#[47, 63, 35]⟩ : ByteArray)] rfl (by (try simp only [List.map_toArray, List.map_cons, List.map_nil]); first | done | rfl | (simp only [List.length_drop, List.length_take]; rfl)) ?_; (with_reducible refine (shibbolethlaw21_without.calls kj6 a0 (⟨#[47, 63, 35]⟩ : ByteArray) t204 _ A44.out).mono ?_); rintro e w104 ⟨rfl, hb⟩; refine ⟨_, rfl, ?_⟩; have n0_ := Aside0.mk (blk_below (g := gb202) (o := .cells #[.bool true, .string t197, .string ji19] 24 (0, 0)) (by (with_reducible repeat (first | refine blk_drewN ?_ _ | refine blk_drew ?_ | refine blk_alloc ?_ _)); exact BK202.out) hb); have n1_ := Aside0.mk (below_step (by repeat (first | (with_reducible first | exact HB.out | apply below_alloc | apply pw_below_drewN | apply below_drew1 | refine below_set ?_ GE202.out) | exact HB.out)) hb); clear BK202; clear HB; have BK202 := n0_; have HB := n1_; clear n0_ n1_; (try clear hb); (try clear hb2); (try clear hk); (try clear hi)) | ((with_reducible refine gate_callee (f := 16) rfl ?_); refine goesL_ (some 85) rfl rfl Try.func16 (by kernel_rfl) rfl #[.string a2, .string (⟨#[47, 63, 35, 64]⟩ : ByteArray)] rfl (by (try simp only [List.map_toArray, List.map_cons, List.map_nil]); first | done | rfl | (simp only [List.length_drop, List.length_take]; rfl)) ?_; (with_reducible refine (shibbolethlaw21_without.calls kj6 a2 (⟨#[47, 63, 35, 64]⟩ : ByteArray) t205 _ A53.out).mono ?_); rintro e w105 ⟨rfl, hb⟩; refine ⟨_, rfl, ?_⟩; have n0_ := Aside0.mk (blk_below (g := gb202) (o := .cells #[.bool true, .string t197, .string ji19] 24 (0, 0)) (by (with_reducible repeat (first | refine blk_drewN ?_ _ | refine blk_drew ?_ | refine blk_alloc ?_ _)); exact BK202.out) hb); have n1_ := Aside0.mk (below_step (by repeat (first | (with_reducible first | exact HB.out | apply below_alloc | apply pw_below_drewN | apply below_drew1 | refine below_set ?_ GE202.out) | exact HB.out)) hb); clear BK202; clear HB; have BK202 := n0_; have HB := n1_; clear n0_ n1_; (try clear hb); (try clear hb2); (try clear hk); (try clear hi)))
                                                have n0_ := Aside0.mk (blk_drew BK202.out)
                                                have n1_ := Aside0.mk (below_drew1 HB.out)
                                                clear BK202
                                                clear HB
                                                have BK202 := n0_
                                                have HB := n1_
                                                clear n0_ n1_
                                                refine start_ (n := 23) (S := fun w' => w'.cell? ⟨gb202, 0, none⟩ = some (.bool true) ∧ w'.cell? ⟨gb202, 1, none⟩ = some (.string t197) ∧ w'.cell? ⟨gb202, 2, none⟩ = some (.string ji19)) (ds := []) #[false, false, false, false, false, false, false, false, false, false, false, false, false, false, false, false, false, false, false, false, false, false, false] (by kernel_rfl) rfl rfl ⟨(blk_cell BK202.out 0).trans rfl, (blk_cell BK202.out 1).trans rfl, (blk_cell BK202.out 2).trans rfl⟩ (fun hHeld => ?_); refine with_tabW shibbolethlaw21_PyurlBuilt.tab9 shibbolethlaw21_PyurlBuilt.bits9 (fun HT_ HW_ => ?_)
                                                generalize w105.drew = w106 at BK202 HB hHeld ⊢
                                                refine pure_ (i := 0) (N := some 89) (v := ?_) (a' := ?_) #[true, false, false, false, false, false, false, false, false, false, false, false, false, false, false, false, false, false, false, false, false, false, false] rfl rfl (any_of HT_.out (by kernel_rfl)) (fun _ _ _ h => h) (Or.inl ⟨by rfl, ?_⟩) ?_ ?_
                                                rotate_left
                                                · intro w'
                                                  go_simp
                                                  with_reducible rfl
                                                rotate_left
                                                · simp only [Act.put, List.setIfInBounds_toArray, List.set_cons_zero, List.set_cons_succ, i64_w, i32_w]
                                                  rfl
                                                refine take_ (i := 2) (N := some 91) (v := ?_) (a' := ?_) #[true, false, true, false, false, false, false, false, false, false, false, false, false, false, false, false, false, false, false, false, false, false, false] rfl rfl (take_ofW HT_.out HW_.out (by kernel_rfl)) (fun _ _ _ h => h) (Or.inl ⟨by rfl, ?_⟩) hHeld ?_ ?_
                                                rotate_left
                                                · rintro w' ⟨s0, s1, s2⟩
                                                  go_simp
                                                  with_reducible rfl
                                                rotate_left
                                                · simp only [Act.put, List.setIfInBounds_toArray, List.set_cons_zero, List.set_cons_succ, i64_w, i32_w]
                                                  rfl
                                                refine one_ (i := 1) (N := some 90) #[true, true, true, false, false, false, false, false, false, false, false, false, false, false, false, false, false, false, false, false, false, false, false] rfl rfl (one_of HT_.out (by kernel_rfl)) (by decide) (fun K hK => ?_)
                                                refine goes_ Try.func13 (by kernel_rfl) rfl #[.string ji42] (by rfl) rfl rfl (by (try simp only [List.map_toArray, List.map_cons, List.map_nil]); first | done | (simp only [hji42]; rfl) | rfl | (simp only [List.length_drop, List.length_take]; rfl)) ?_
                                                with_reducible refine (pyurl_Parse.calls kj6 ji42 t206 t207 t208 _ A58.out).mono ?_
                                                rintro e w107 ⟨rfl, hb⟩
                                                refine ⟨_, rfl, ?_⟩
                                                have n0_ := Aside0.mk (blk_below (g := gb202) (o := .cells #[.bool true, .string t197, .string ji19] 24 (0, 0)) (by (with_reducible repeat (first | refine blk_drewN ?_ _ | refine blk_drew ?_ | refine blk_alloc ?_ _)); exact BK202.out) hb)
                                                have n1_ := Aside0.mk (below_step (by repeat (first | (with_reducible first | exact HB.out | apply below_alloc | apply pw_below_drewN | apply below_drew1 | refine below_set ?_ GE202.out) | exact HB.out)) hb)
                                                clear BK202
                                                clear HB
                                                have BK202 := n0_
                                                have HB := n1_
                                                clear n0_ n1_
                                                (try clear hb)
                                                (try clear hb2)
                                                (try clear hk)
                                                (try clear hi)
                                                refine hK.out _ _ ⟨(blk_cell BK202.out 0).trans rfl, (blk_cell BK202.out 1).trans rfl, (blk_cell BK202.out 2).trans rfl⟩ (fun hHeld => ?_)
                                                clear hK K
                                                refine norm_ (a' := ?_) ?_ ?_
                                                rotate_left
                                                · show Act.put _ (some 90) _ = _
                                                  simp only [Act.put, List.setIfInBounds_toArray, List.set_cons_zero, List.set_cons_succ, i64_w, i32_w]
                                                  rfl
                                                refine pure_ (i := 3) (N := some 92) (v := ?_) (a' := ?_) #[true, true, true, true, false, false, false, false, false, false, false, false, false, false, false, false, false, false, false, false, false, false, false] rfl rfl (any_of HT_.out (by kernel_rfl)) (fun _ _ _ h => h) (Or.inl ⟨by rfl, ?_⟩) ?_ ?_
                                                rotate_left
                                                · intro w'
                                                  go_simp
                                                  with_reducible rfl
                                                rotate_left
                                                · simp only [Act.put, List.setIfInBounds_toArray, List.set_cons_zero, List.set_cons_succ, i64_w, i32_w]
                                                  rfl
                                                refine pure_ (i := 4) (N := some 93) (v := ?_) (a' := ?_) #[true, true, true, true, true, false, false, false, false, false, false, false, false, false, false, false, false, false, false, false, false, false, false] rfl rfl (any_of HT_.out (by kernel_rfl)) (fun _ _ _ h => h) (Or.inl ⟨by rfl, ?_⟩) ?_ ?_
                                                rotate_left
                                                · intro w'
                                                  go_simp
                                                  with_reducible rfl
                                                rotate_left
                                                · simp only [Act.put, List.setIfInBounds_toArray, List.set_cons_zero, List.set_cons_succ, i64_w, i32_w]
                                                  rfl
                                                refine pure_ (i := 5) (N := some 94) (v := ?_) (a' := ?_) #[true, true, true, true, true, true, false, false, false, false, false, false, false, false, false, false, false, false, false, false, false, false, false] rfl rfl (any_of HT_.out (by kernel_rfl)) (fun _ _ _ h => h) (Or.inl ⟨by rfl, ?_⟩) ?_ ?_
                                                rotate_left
                                                · intro w'
                                                  go_simp
                                                  with_reducible rfl
                                                rotate_left
                                                · simp only [Act.put, List.setIfInBounds_toArray, List.set_cons_zero, List.set_cons_succ, i64_w, i32_w]
                                                  rfl
                                                refine pure_ (i := 6) (N := some 95) (v := ?_) (a' := ?_) #[true, true, true, true, true, true, true, false, false, false, false, false, false, false, false, false, false, false, false, false, false, false, false] rfl rfl (any_of HT_.out (by kernel_rfl)) (fun _ _ _ h => h) (Or.inl ⟨by rfl, ?_⟩) ?_ ?_
                                                rotate_left
                                                · intro w'
                                                  go_simp
                                                  with_reducible rfl
                                                rotate_left
                                                · simp only [Act.put, List.setIfInBounds_toArray, List.set_cons_zero, List.set_cons_succ, i64_w, i32_w]
                                                  rfl
                                                refine take_ (i := 8) (N := some 97) (v := ?_) (a' := ?_) #[true, true, true, true, true, true, true, false, true, false, false, false, false, false, false, false, false, false, false, false, false, false, false] rfl rfl (take_ofW HT_.out HW_.out (by kernel_rfl)) (fun _ _ _ h => h) (Or.inl ⟨by rfl, ?_⟩) hHeld ?_ ?_
                                                rotate_left
                                                · rintro w' ⟨s0, s1, s2⟩
                                                  go_simp
                                                  with_reducible rfl
                                                rotate_left
                                                · simp only [Act.put, List.setIfInBounds_toArray, List.set_cons_zero, List.set_cons_succ, i64_w, i32_w]
                                                  rfl
                                                refine one_ (i := 7) (N := some 96) #[true, true, true, true, true, true, true, true, true, false, false, false, false, false, false, false, false, false, false, false, false, false, false] rfl rfl (one_of HT_.out (by kernel_rfl)) (by decide) (fun K hK => ?_)
                                                refine goes_ Try.func13 (by kernel_rfl) rfl #[.string ji61] (by rfl) rfl rfl (by (try simp only [List.map_toArray, List.map_cons, List.map_nil]); first | done | (simp only [hji61]; rfl) | rfl | (simp only [List.length_drop, List.length_take]; rfl)) ?_
                                                with_reducible refine (pyurl_Parse.calls kj6 ji61 t209 t210 t211 _ A62.out).mono ?_
                                                rintro e w108 ⟨rfl, hb⟩
                                                refine ⟨_, rfl, ?_⟩
                                                have n0_ := Aside0.mk (blk_below (g := gb202) (o := .cells #[.bool true, .string t197, .string ji19] 24 (0, 0)) (by (with_reducible repeat (first | refine blk_drewN ?_ _ | refine blk_drew ?_ | refine blk_alloc ?_ _)); exact BK202.out) hb)
                                                have n1_ := Aside0.mk (below_step (by repeat (first | (with_reducible first | exact HB.out | apply below_alloc | apply pw_below_drewN | apply below_drew1 | refine below_set ?_ GE202.out) | exact HB.out)) hb)
                                                clear BK202
                                                clear HB
                                                have BK202 := n0_
                                                have HB := n1_
                                                clear n0_ n1_
                                                (try clear hb)
                                                (try clear hb2)
                                                (try clear hk)
                                                (try clear hi)
                                                refine hK.out _ _ ⟨(blk_cell BK202.out 0).trans rfl, (blk_cell BK202.out 1).trans rfl, (blk_cell BK202.out 2).trans rfl⟩ (fun hHeld => ?_)
                                                clear hK K
                                                refine norm_ (a' := ?_) ?_ ?_
                                                rotate_left
                                                · show Act.put _ (some 96) _ = _
                                                  simp only [Act.put, List.setIfInBounds_toArray, List.set_cons_zero, List.set_cons_succ, i64_w, i32_w]
                                                  rfl
                                                refine pure_ (i := 9) (N := some 98) (v := ?_) (a' := ?_) #[true, true, true, true, true, true, true, true, true, true, false, false, false, false, false, false, false, false, false, false, false, false, false] rfl rfl (any_of HT_.out (by kernel_rfl)) (fun _ _ _ h => h) (Or.inl ⟨by rfl, ?_⟩) ?_ ?_
                                                rotate_left
                                                · intro w'
                                                  go_simp
                                                  with_reducible rfl
                                                rotate_left
                                                · simp only [Act.put, List.setIfInBounds_toArray, List.set_cons_zero, List.set_cons_succ, i64_w, i32_w]
                                                  rfl
                                                refine pure_ (i := 10) (N := some 99) (v := ?_) (a' := ?_) #[true, true, true, true, true, true, true, true, true, true, true, false, false, false, false, false, false, false, false, false, false, false, false] rfl rfl (any_of HT_.out (by kernel_rfl)) (fun _ _ _ h => h) (Or.inl ⟨by rfl, ?_⟩) ?_ ?_
                                                rotate_left
                                                · intro w'
                                                  go_simp
                                                  with_reducible rfl
                                                rotate_left
                                                · simp only [Act.put, List.setIfInBounds_toArray, List.set_cons_zero, List.set_cons_succ, i64_w, i32_w]
                                                  rfl
                                                refine pure_ (i := 11) (N := some 100) (v := ?_) (a' := ?_) #[true, true, true, true, true, true, true, true, true, true, true, true, false, false, false, false, false, false, false, false, false, false, false] rfl rfl (any_of HT_.out (by kernel_rfl)) (fun _ _ _ h => h) (Or.inl ⟨by rfl, ?_⟩) ?_ ?_
                                                rotate_left
                                                · intro w'
                                                  go_simp
                                                  with_reducible rfl
                                                rotate_left
                                                · simp only [Act.put, List.setIfInBounds_toArray, List.set_cons_zero, List.set_cons_succ, i64_w, i32_w]
                                                  rfl
                                                refine pure_ (i := 12) (N := some 101) (v := undef) (a' := ?_) #[true, true, true, true, true, true, true, true, true, true, true, true, true, false, false, false, false, false, false, false, false, false, false] rfl rfl (any_of HT_.out (by kernel_rfl)) (fun _ _ _ h => h) (Or.inr ⟨by rfl, rfl⟩) ?_ ?_
                                                rotate_left
                                                · simp only [Act.put, List.setIfInBounds_toArray, List.set_cons_zero, List.set_cons_succ, i64_w, i32_w]
                                                  rfl
                                                refine pure_ (i := 13) (N := some 102) (v := undef) (a' := ?_) #[true, true, true, true, true, true, true, true, true, true, true, true, true, true, false, false, false, false, false, false, false, false, false] rfl rfl (any_of HT_.out (by kernel_rfl)) (fun _ _ _ h => h) (Or.inr ⟨by rfl, rfl⟩) ?_ ?_
                                                rotate_left
                                                · simp only [Act.put, List.setIfInBounds_toArray, List.set_cons_zero, List.set_cons_succ, i64_w, i32_w]
                                                  rfl
                                                refine pure_ (i := 14) (N := some 103) (v := undef) (a' := ?_) #[true, true, true, true, true, true, true, true, true, true, true, true, true, true, true, false, false, false, false, false, false, false, false] rfl rfl (any_of HT_.out (by kernel_rfl)) (fun _ _ _ h => h) (Or.inr ⟨by rfl, rfl⟩) ?_ ?_
                                                rotate_left
                                                · simp only [Act.put, List.setIfInBounds_toArray, List.set_cons_zero, List.set_cons_succ, i64_w, i32_w]
                                                  rfl
                                                refine pure_ (i := 15) (N := some 104) (v := undef) (a' := ?_) #[true, true, true, true, true, true, true, true, true, true, true, true, true, true, true, true, false, false, false, false, false, false, false] rfl rfl (any_of HT_.out (by kernel_rfl)) (fun _ _ _ h => h) (Or.inr ⟨by rfl, rfl⟩) ?_ ?_
                                                rotate_left
                                                · simp only [Act.put, List.setIfInBounds_toArray, List.set_cons_zero, List.set_cons_succ, i64_w, i32_w]
                                                  rfl
                                                refine pure_ (i := 16) (N := some 105) (v := undef) (a' := ?_) #[true, true, true, true, true, true, true, true, true, true, true, true, true, true, true, true, true, false, false, false, false, false, false] rfl rfl (any_of HT_.out (by kernel_rfl)) (fun _ _ _ h => h) (Or.inr ⟨by rfl, rfl⟩) ?_ ?_
                                                rotate_left
                                                · simp only [Act.put, List.setIfInBounds_toArray, List.set_cons_zero, List.set_cons_succ, i64_w, i32_w]
                                                  rfl
                                                refine pure_ (i := 17) (N := some 106) (v := undef) (a' := ?_) #[true, true, true, true, true, true, true, true, true, true, true, true, true, true, true, true, true, true, false, false, false, false, false] rfl rfl (any_of HT_.out (by kernel_rfl)) (fun _ _ _ h => h) (Or.inr ⟨by rfl, rfl⟩) ?_ ?_
                                                rotate_left
                                                · simp only [Act.put, List.setIfInBounds_toArray, List.set_cons_zero, List.set_cons_succ, i64_w, i32_w]
                                                  rfl
                                                refine pure_ (i := 18) (N := some 107) (v := ?_) (a' := ?_) #[true, true, true, true, true, true, true, true, true, true, true, true, true, true, true, true, true, true, true, false, false, false, false] rfl rfl (any_of HT_.out (by kernel_rfl)) (fun _ _ _ h => h) (Or.inl ⟨by rfl, ?_⟩) ?_ ?_
                                                rotate_left
                                                · intro w'
                                                  go_simp
                                                  with_reducible rfl
                                                rotate_left
                                                · simp only [Act.put, List.setIfInBounds_toArray, List.set_cons_zero, List.set_cons_succ, i64_w, i32_w]
                                                  rfl
                                                refine pure_ (i := 19) (N := some 108) (v := ?_) (a' := ?_) #[true, true, true, true, true, true, true, true, true, true, true, true, true, true, true, true, true, true, true, true, false, false, false] rfl rfl (any_of HT_.out (by kernel_rfl)) (fun _ _ _ h => h) (Or.inl ⟨by rfl, ?_⟩) ?_ ?_
                                                rotate_left
                                                · intro w'
                                                  go_simp
                                                  with_reducible rfl
                                                rotate_left
                                                · simp only [Act.put, List.setIfInBounds_toArray, List.set_cons_zero, List.set_cons_succ, i64_w, i32_w]
                                                  rfl
                                                refine pure_ (i := 20) (N := some 109) (v := undef) (a' := ?_) #[true, true, true, true, true, true, true, true, true, true, true, true, true, true, true, true, true, true, true, true, true, false, false] rfl rfl (any_of HT_.out (by kernel_rfl)) (fun _ _ _ h => h) (Or.inr ⟨by rfl, rfl⟩) ?_ ?_
                                                rotate_left
                                                · simp only [Act.put, List.setIfInBounds_toArray, List.set_cons_zero, List.set_cons_succ, i64_w, i32_w]
                                                  rfl
                                                refine pure_ (i := 21) (N := some 110) (v := ?_) (a' := ?_) #[true, true, true, true, true, true, true, true, true, true, true, true, true, true, true, true, true, true, true, true, true, true, false] rfl rfl (any_of HT_.out (by kernel_rfl)) (fun _ _ _ h => h) (Or.inl ⟨by rfl, ?_⟩) ?_ ?_
                                                rotate_left
                                                · intro w'
                                                  go_simp
                                                  with_reducible rfl
                                                rotate_left
                                                · simp only [Act.put, List.setIfInBounds_toArray, List.set_cons_zero, List.set_cons_succ, i64_w, i32_w]
                                                  rfl
                                                refine pure_ (i := 22) (N := some 12) (v := ?_) (a' := ?_) #[true, true, true, true, true, true, true, true, true, true, true, true, true, true, true, true, true, true, true, true, true, true, true] rfl rfl (any_of HT_.out (by kernel_rfl)) (fun _ _ _ h => h) (Or.inl ⟨by rfl, ?_⟩) ?_ ?_
                                                rotate_left
                                                · intro w'
                                                  go_simp
                                                  with_reducible rfl
                                                rotate_left
                                                · simp only [Act.put, List.setIfInBounds_toArray, List.set_cons_zero, List.set_cons_succ, i64_w, i32_w]
                                                  rfl
                                                refine done_ (done_of HT_.out (by kernel_rfl)) ?_
                                                try go_wp2
                                                go_ret
                                                exact ⟨by first | rfl | (simp [errW_none, errW_some] <;> rfl) | (simp only [← hji19, ← hji22, ← hji24, ← hji26, ← hji28, ← hji31, ← hji33, ← hji35, ← hji38, ← hji40, ← hji42, ← hji46, ← hji48, ← hji50, ← hji52, ← hji55, ← hji57, ← hji61]; first | rfl | (simp [errW_none, errW_some] <;> rfl)) | (simp [*, errW_none, errW_some] <;> rfl), by repeat (first | (with_reducible first | exact HB.out | apply below_alloc | apply pw_below_drewN | apply below_drew1 | refine below_set ?_ GE202.out) | exact HB.out)⟩
                                            · rw [if_neg c60] at H
                                              exact absurd H (by simp)
                                          · rw [if_neg c59] at H
                                            have c59b0 : (t206 && (t207.toList == t197.toList && (t208.toList == ((ji19).toList)))) = false := by simpa using c59
                                            clear c59
                                            obtain rfl := Option.some.inj H
                                            try go_wp2_with (first | ((with_reducible refine gate_callee (f := 16) rfl ?_); refine goesL_ (some 49) rfl rfl Try.func16 (by kernel_rfl) rfl #[.string a1, .string (⟨#[9, 10, 13, 47, 63, 35, 64, 91, 93, 58]⟩ : ByteArray)] rfl (by (try simp only [List.map_toArray, List.map_cons, List.map_nil]); first | done | rfl | (simp only [List.length_drop, List.length_take]; rfl)) ?_; (with_reducible refine (shibbolethlaw21_without.calls kj6 a1 (⟨#[9, 10, 13, 47, 63, 35, 64, 91, 93, 58]⟩ : ByteArray) t197 _ A16.out).mono ?_); rintro e w109 ⟨rfl, hb⟩; refine ⟨_, rfl, ?_⟩; have n0_ := Aside0.mk (below_step (by repeat (first | (with_reducible first | exact HB.out | apply below_alloc | apply pw_below_drewN | apply below_drew1) | exact HB.out)) hb); clear HB; have HB := n0_; clear n0_; (try clear hb); (try clear hb2); (try clear hk); (try clear hi)) | ((with_reducible refine gate_callee (f := 16) rfl ?_); refine goesL_ (some 51) rfl rfl Try.func16 (by kernel_rfl) rfl #[.string a3, .string (⟨#[9, 10, 13, 63, 35]⟩ : ByteArray)] rfl (by (try simp only [List.map_toArray, List.map_cons, List.map_nil]); first | done | rfl | (simp only [List.length_drop, List.length_take]; rfl)) ?_; (with_reducible refine (shibbolethlaw21_without.calls kj6 a3 (⟨#[9, 10, 13, 63, 35]⟩ : ByteArray) t198 _ A17.out).mono ?_); rintro e w110 ⟨rfl, hb⟩; refine ⟨_, rfl, ?_⟩; have n0_ := Aside0.mk (below_step (by repeat (first | (with_reducible first | exact HB.out | apply below_alloc | apply pw_below_drewN | apply below_drew1) | exact HB.out)) hb); clear HB; have HB := n0_; clear n0_; (try clear hb); (try clear hb2); (try clear hk); (try clear hi)) | ((with_reducible refine gate_callee (f := 16) rfl ?_); refine goesL_ (some 54) rfl rfl Try.func16 (by kernel_rfl) rfl #[.string a0, .string (⟨#[47, 63, 35]⟩ : ByteArray)] rfl (by (try simp only [List.map_toArray, List.map_cons, List.map_nil]); first | done | rfl | (simp only [List.length_drop, List.length_take]; rfl)) ?_; (with_reducible refine (shibbolethlaw21_without.calls kj6 a0 (⟨#[47, 63, 35]⟩ : ByteArray) t199 _ A20.out).mono ?_); rintro e w111 ⟨rfl, hb⟩; refine ⟨_, rfl, ?_⟩; have n0_ := Aside0.mk (below_step (by repeat (first | (with_reducible first | exact HB.out | apply below_alloc | apply pw_below_drewN | apply below_drew1) | exact HB.out)) hb); clear HB; have HB := n0_; clear n0_; (try clear hb); (try clear hb2); (try clear hk); (try clear hi)) | ((with_reducible refine gate_callee (f := 16) rfl ?_); refine goesL_ (some 61) rfl rfl Try.func16 (by kernel_rfl) rfl #[.string a2, .string (⟨#[47, 63, 35, 64, 91, 93]⟩ : ByteArray)] rfl (by (try simp only [List.map_toArray, List.map_cons, List.map_nil]); first | done | rfl | (simp only [List.length_drop, List.length_take]; rfl)) ?_; (with_reducible refine (shibbolethlaw21_without.calls kj6 a2 (⟨#[47, 63, 35, 64, 91, 93]⟩ : ByteArray) t200 _ A29.out).mono ?_); rintro e w112 ⟨rfl, hb⟩; refine ⟨_, rfl, ?_⟩; have n0_ := Aside0.mk (below_step (by repeat (first | (with_reducible first | exact HB.out | apply below_alloc | apply pw_below_drewN | apply below_drew1) | exact HB.out)) hb); clear HB; have HB := n0_; clear n0_; (try clear hb); (try clear hb2); (try clear hk); (try clear hi)) | ((with_reducible refine gate_callee (f := 16) rfl ?_); refine goesL_ (some 67) rfl rfl Try.func16 (by kernel_rfl) rfl #[.string a4, .string (⟨#[35]⟩ : ByteArray)] rfl (by (try simp only [List.map_toArray, List.map_cons, List.map_nil]); first | done | rfl | (simp only [List.length_drop, List.length_take]; rfl)) ?_; (with_reducible refine (shibbolethlaw21_without.calls kj6 a4 (⟨#[35]⟩ : ByteArray) t201 _ A36.out).mono ?_); rintro e w113 ⟨rfl, hb⟩; refine ⟨_, rfl, ?_⟩; have n0_ := Aside0.mk (below_step (by repeat (first | (with_reducible first | exact HB.out | apply below_alloc | apply pw_below_drewN | apply below_drew1) | exact HB.out)) hb); clear HB; have HB := n0_; clear n0_; (try clear hb); (try clear hb2); (try clear hk); (try clear hi)) | ((with_reducible refine gate_dst (N := 16) rfl ?_); (try (refine gate_guard (by rfl) ?_; dsimp only)); refine box_event ?hg (N := 16) ?hd (cs := #[.bool false, .string (⟨#[]⟩ : ByteArray), .string (⟨#[]⟩ : ByteArray)]) (t := 24) ?hr ?_; (case hd => rfl); (case hg => rfl); (case hr => first | (go_simp; done) | (go_simp; rfl)); intro gb202 hg w114 hbox hb; have n0_ := Aside0.mk (below_step (by repeat (first | (with_reducible first | exact HB.out | apply below_alloc | apply pw_below_drewN | apply below_drew1) | exact HB.out)) hb); have n1_ := Aside0.mk (hbox); have n2_ := Aside0.mk ((by rw [hg]; exact (below_size (by repeat (first | (with_reducible first | exact HB.out | apply below_alloc | apply pw_below_drewN | apply below_drew1) | exact HB.out))) : w.heap.size ≤ gb202)); have n3_ := Aside0.mk ((by rw [hg]; exact (below_size (by repeat (first | (with_reducible first | exact HB.out | apply below_alloc | apply pw_below_drewN | apply below_drew1) | exact HB.out))) : w.heap.size ≤ gb202)); clear HB; have HB := n0_; have BK202 := n1_; have GW202 := n2_; have GE202 := n3_; clear n0_ n1_ n2_ n3_; clear hb hbox hg; have hcz115_0 : w114.cell? ⟨gb202, 0, none⟩ = some (.bool false) := (blk_cell BK202.out 0).trans rfl; have hcz115_1 : w114.cell? ⟨gb202, 1, none⟩ = some (.string (⟨#[]⟩ : ByteArray)) := (blk_cell BK202.out 1).trans rfl; have hcz115_2 : w114.cell? ⟨gb202, 2, none⟩ = some (.string (⟨#[]⟩ : ByteArray)) := (blk_cell BK202.out 2).trans rfl; have hfz115_0 := blk_frozen BK202.out 0; have hfz115_1 := blk_frozen BK202.out 1; have hfz115_2 := blk_frozen BK202.out 2) | ((with_reducible refine gate_callee (f := 16) rfl ?_); refine goesL_ (some 76) rfl rfl Try.func16 (by kernel_rfl) rfl #[.string a1, .string (⟨#[9, 10, 13, 47, 63, 35, 64, 91, 93]⟩ : ByteArray)] rfl (by (try simp only [List.map_toArray, List.map_cons, List.map_nil]); first | done | rfl | (simp only [List.length_drop, List.length_take]; rfl)) ?_; (with_reducible refine (shibbolethlaw21_without.calls kj6 a1 (⟨#[9, 10, 13, 47, 63, 35, 64, 91, 93]⟩ : ByteArray) t203 _ A43.out).mono ?_); rintro e w116 ⟨rfl, hb⟩; refine ⟨_, rfl, ?_⟩; have n0_ := Aside0.mk (blk_below (g := gb202) (o := .cells #[.bool true, .string t197, .string ji19] 24 (0, 0)) (by (with_reducible repeat (first | refine blk_drewN ?_ _ | refine blk_drew ?_ | refine blk_alloc ?_ _)); refine blk_put (cs := #[.bool true, .string t197, .string (⟨#[]⟩ : ByteArray)]) ?_ 2 _ rfl; (with_reducible repeat (first | refine blk_drewN ?_ _ | refine blk_drew ?_ | refine blk_alloc ?_ _)); refine blk_put (cs := #[.bool true, .string (⟨#[]⟩ : ByteArray), .string (⟨#[]⟩ : ByteArray)]) ?_ 1 _ rfl; (with_reducible repeat (first | refine blk_drewN ?_ _ | refine blk_drew ?_ | refine blk_alloc ?_ _)); refine blk_put (cs := #[.bool false, .string (⟨#[]⟩ : ByteArray), .string (⟨#[]⟩ : ByteArray)]) ?_ 0 _ rfl; (with_reducible repeat (first | refine blk_drewN ?_ _ | refine blk_drew ?_ | refine blk_alloc ?_ _)); exact BK202.out) hb); have n1_ := Aside0.mk (below_step (by repeat (first | (with_reducible first | exact HB.out | apply below_alloc | apply pw_below_drewN | apply below_drew1 | refine below_set ?_ GE202.out) | exact HB.out)) hb); clear BK202; clear HB; have BK202 := n0_; have HB := n1_; clear n0_ n1_; (try clear hb); (try clear hb2); (try clear hk); (try clear hi)) | ((with_reducible refine gate_callee (f := 16) rfl ?_); refine goesL_ (some 78) rfl rfl Try.func16 (by kernel_rfl) rfl #[.string a0, .string (⟨#[47, 63, 35]⟩ : ByteArray)] rfl (by (try simp only [List.map_toArray, List.map_cons, List.map_nil]); first | done | rfl | (simp only [List.length_drop, List.length_take]; rfl)) ?_; (with_reducible refine (shibbolethlaw21_without.calls kj6 a0 (⟨#[47, 63, 35]⟩ : ByteArray) t204 _ A44.out).mono ?_); rintro e w117 ⟨rfl, hb⟩; refine ⟨_, rfl, ?_⟩; have n0_ := Aside0.mk (blk_below (g := gb202) (o := .cells #[.bool true, .string t197, .string ji19] 24 (0, 0)) (by (with_reducible repeat (first | refine blk_drewN ?_ _ | refine blk_drew ?_ | refine blk_alloc ?_ _)); exact BK202.out) hb); have n1_ := Aside0.mk (below_step (by repeat (first | (with_reducible first | exact HB.out | apply below_alloc | apply pw_below_drewN | apply below_drew1 | refine below_set ?_ GE202.out) | exact HB.out)) hb); clear BK202; clear HB; have BK202 := n0_; have HB := n1_; clear n0_ n1_; (try clear hb); (try clear hb2); (try clear hk); (try clear hi)) | ((with_reducible refine gate_callee (f := 16) rfl ?_); refine goesL_ (some 85) rfl rfl Try.func16 (by kernel_rfl) rfl #[.string a2, .string (⟨#[47, 63, 35, 64]⟩ : ByteArray)] rfl (by (try simp only [List.map_toArray, List.map_cons, List.map_nil]); first | done | rfl | (simp only [List.length_drop, List.length_take]; rfl)) ?_; (with_reducible refine (shibbolethlaw21_without.calls kj6 a2 (⟨#[47, 63, 35, 64]⟩ : ByteArray) t205 _ A53.out).mono ?_); rintro e w118 ⟨rfl, hb⟩; refine ⟨_, rfl, ?_⟩; have n0_ := Aside0.mk (blk_below (g := gb202) (o := .cells #[.bool true, .string t197, .string ji19] 24 (0, 0)) (by (with_reducible repeat (first | refine blk_drewN ?_ _ | refine blk_drew ?_ | refine blk_alloc ?_ _)); exact BK202.out) hb); have n1_ := Aside0.mk (below_step (by repeat (first | (with_reducible first | exact HB.out | apply below_alloc | apply pw_below_drewN | apply below_drew1 | refine below_set ?_ GE202.out) | exact HB.out)) hb); clear BK202; clear HB; have BK202 := n0_; have HB := n1_; clear n0_ n1_; (try clear hb); (try clear hb2); (try clear hk); (try clear hi)))
                                            have n0_ := Aside0.mk (blk_drew BK202.out)
                                            have n1_ := Aside0.mk (below_drew1 HB.out)
                                            clear BK202
                                            clear HB
                                            have BK202 := n0_
                                            have HB := n1_
                                            clear n0_ n1_
                                            refine start_ (n := 23) (S := fun w' => w'.cell? ⟨gb202, 0, none⟩ = some (.bool true) ∧ w'.cell? ⟨gb202, 1, none⟩ = some (.string t197) ∧ w'.cell? ⟨gb202, 2, none⟩ = some (.string ji19)) (ds := []) #[false, false, false, false, false, false, false, false, false, false, false, false, false, false, false, false, false, false, false, false, false, false, false] (by kernel_rfl) rfl rfl ⟨(blk_cell BK202.out 0).trans rfl, (blk_cell BK202.out 1).trans rfl, (blk_cell BK202.out 2).trans rfl⟩ (fun hHeld => ?_); refine with_tabW shibbolethlaw21_PyurlBuilt.tab9 shibbolethlaw21_PyurlBuilt.bits9 (fun HT_ HW_ => ?_)
                                            generalize w118.drew = w119 at BK202 HB hHeld ⊢
                                            refine pure_ (i := 0) (N := some 89) (v := ?_) (a' := ?_) #[true, false, false, false, false, false, false, false, false, false, false, false, false, false, false, false, false, false, false, false, false, false, false] rfl rfl (any_of HT_.out (by kernel_rfl)) (fun _ _ _ h => h) (Or.inl ⟨by rfl, ?_⟩) ?_ ?_
                                            rotate_left
                                            · intro w'
                                              go_simp
                                              with_reducible rfl
                                            rotate_left
                                            · simp only [Act.put, List.setIfInBounds_toArray, List.set_cons_zero, List.set_cons_succ, i64_w, i32_w]
                                              rfl
                                            refine take_ (i := 2) (N := some 91) (v := ?_) (a' := ?_) #[true, false, true, false, false, false, false, false, false, false, false, false, false, false, false, false, false, false, false, false, false, false, false] rfl rfl (take_ofW HT_.out HW_.out (by kernel_rfl)) (fun _ _ _ h => h) (Or.inl ⟨by rfl, ?_⟩) hHeld ?_ ?_
                                            rotate_left
                                            · rintro w' ⟨s0, s1, s2⟩
                                              go_simp
                                              with_reducible rfl
                                            rotate_left
                                            · simp only [Act.put, List.setIfInBounds_toArray, List.set_cons_zero, List.set_cons_succ, i64_w, i32_w]
                                              rfl
                                            refine one_ (i := 1) (N := some 90) #[true, true, true, false, false, false, false, false, false, false, false, false, false, false, false, false, false, false, false, false, false, false, false] rfl rfl (one_of HT_.out (by kernel_rfl)) (by decide) (fun K hK => ?_)
                                            refine goes_ Try.func13 (by kernel_rfl) rfl #[.string ji42] (by rfl) rfl rfl (by (try simp only [List.map_toArray, List.map_cons, List.map_nil]); first | done | (simp only [hji42]; rfl) | rfl | (simp only [List.length_drop, List.length_take]; rfl)) ?_
                                            with_reducible refine (pyurl_Parse.calls kj6 ji42 t206 t207 t208 _ A58.out).mono ?_
                                            rintro e w120 ⟨rfl, hb⟩
                                            refine ⟨_, rfl, ?_⟩
                                            have n0_ := Aside0.mk (blk_below (g := gb202) (o := .cells #[.bool true, .string t197, .string ji19] 24 (0, 0)) (by (with_reducible repeat (first | refine blk_drewN ?_ _ | refine blk_drew ?_ | refine blk_alloc ?_ _)); exact BK202.out) hb)
                                            have n1_ := Aside0.mk (below_step (by repeat (first | (with_reducible first | exact HB.out | apply below_alloc | apply pw_below_drewN | apply below_drew1 | refine below_set ?_ GE202.out) | exact HB.out)) hb)
                                            clear BK202
                                            clear HB
                                            have BK202 := n0_
                                            have HB := n1_
                                            clear n0_ n1_
                                            (try clear hb)
                                            (try clear hb2)
                                            (try clear hk)
                                            (try clear hi)
                                            refine hK.out _ _ ⟨(blk_cell BK202.out 0).trans rfl, (blk_cell BK202.out 1).trans rfl, (blk_cell BK202.out 2).trans rfl⟩ (fun hHeld => ?_)
                                            clear hK K
                                            refine norm_ (a' := ?_) ?_ ?_
                                            rotate_left
                                            · show Act.put _ (some 90) _ = _
                                              simp only [Act.put, List.setIfInBounds_toArray, List.set_cons_zero, List.set_cons_succ, i64_w, i32_w]
                                              rfl
                                            refine pure_ (i := 3) (N := some 92) (v := ?_) (a' := ?_) #[true, true, true, true, false, false, false, false, false, false, false, false, false, false, false, false, false, false, false, false, false, false, false] rfl rfl (any_of HT_.out (by kernel_rfl)) (fun _ _ _ h => h) (Or.inl ⟨by rfl, ?_⟩) ?_ ?_
                                            rotate_left
                                            · intro w'
                                              go_simp
                                              with_reducible rfl
                                            rotate_left
                                            · simp only [Act.put, List.setIfInBounds_toArray, List.set_cons_zero, List.set_cons_succ, i64_w, i32_w]
                                              rfl
                                            refine pure_ (i := 4) (N := some 93) (v := ?_) (a' := ?_) #[true, true, true, true, true, false, false, false, false, false, false, false, false, false, false, false, false, false, false, false, false, false, false] rfl rfl (any_of HT_.out (by kernel_rfl)) (fun _ _ _ h => h) (Or.inl ⟨by rfl, ?_⟩) ?_ ?_
                                            rotate_left
                                            · intro w'
                                              go_simp
                                              with_reducible rfl
                                            rotate_left
                                            · simp only [Act.put, List.setIfInBounds_toArray, List.set_cons_zero, List.set_cons_succ, i64_w, i32_w]
                                              rfl
                                            refine pure_ (i := 5) (N := some 94) (v := undef) (a' := ?_) #[true, true, true, true, true, true, false, false, false, false, false, false, false, false, false, false, false, false, false, false, false, false, false] rfl rfl (any_of HT_.out (by kernel_rfl)) (fun _ _ _ h => h) (Or.inr ⟨by rfl, rfl⟩) ?_ ?_
                                            rotate_left
                                            · simp only [Act.put, List.setIfInBounds_toArray, List.set_cons_zero, List.set_cons_succ, i64_w, i32_w]
                                              rfl
                                            refine pure_ (i := 6) (N := some 95) (v := undef) (a' := ?_) #[true, true, true, true, true, true, true, false, false, false, false, false, false, false, false, false, false, false, false, false, false, false, false] rfl rfl (any_of HT_.out (by kernel_rfl)) (fun _ _ _ h => h) (Or.inr ⟨by rfl, rfl⟩) ?_ ?_
                                            rotate_left
                                            · simp only [Act.put, List.setIfInBounds_toArray, List.set_cons_zero, List.set_cons_succ, i64_w, i32_w]
                                              rfl
                                            refine pure_ (i := 7) (N := some 96) (v := undef) (a' := ?_) #[true, true, true, true, true, true, true, true, false, false, false, false, false, false, false, false, false, false, false, false, false, false, false] rfl rfl (any_of HT_.out (by kernel_rfl)) (fun _ _ _ h => h) (Or.inr ⟨by rfl, rfl⟩) ?_ ?_
                                            rotate_left
                                            · simp only [Act.put, List.setIfInBounds_toArray, List.set_cons_zero, List.set_cons_succ, i64_w, i32_w]
                                              rfl
                                            refine pure_ (i := 8) (N := some 97) (v := undef) (a' := ?_) #[true, true, true, true, true, true, true, true, true, false, false, false, false, false, false, false, false, false, false, false, false, false, false] rfl rfl (any_of HT_.out (by kernel_rfl)) (fun _ _ _ h => h) (Or.inr ⟨by rfl, rfl⟩) ?_ ?_
                                            rotate_left
                                            · simp only [Act.put, List.setIfInBounds_toArray, List.set_cons_zero, List.set_cons_succ, i64_w, i32_w]
                                              rfl
                                            refine pure_ (i := 9) (N := some 98) (v := undef) (a' := ?_) #[true, true, true, true, true, true, true, true, true, true, false, false, false, false, false, false, false, false, false, false, false, false, false] rfl rfl (any_of HT_.out (by kernel_rfl)) (fun _ _ _ h => h) (Or.inr ⟨by rfl, rfl⟩) ?_ ?_
                                            rotate_left
                                            · simp only [Act.put, List.setIfInBounds_toArray, List.set_cons_zero, List.set_cons_succ, i64_w, i32_w]
                                              rfl
                                            refine pure_ (i := 10) (N := some 99) (v := ?_) (a' := ?_) #[true, true, true, true, true, true, true, true, true, true, true, false, false, false, false, false, false, false, false, false, false, false, false] rfl rfl (any_of HT_.out (by kernel_rfl)) (fun _ _ _ h => h) (Or.inl ⟨by rfl, ?_⟩) ?_ ?_
                                            rotate_left
                                            · intro w'
                                              go_simp
                                              with_reducible rfl
                                            rotate_left
                                            · simp only [Act.put, List.setIfInBounds_toArray, List.set_cons_zero, List.set_cons_succ, i64_w, i32_w]
                                              rfl
                                            refine pure_ (i := 11) (N := some 100) (v := ?_) (a' := ?_) #[true, true, true, true, true, true, true, true, true, true, true, true, false, false, false, false, false, false, false, false, false, false, false] rfl rfl (any_of HT_.out (by kernel_rfl)) (fun _ _ _ h => h) (Or.inl ⟨by rfl, ?_⟩) ?_ ?_
                                            rotate_left
                                            · intro w'
                                              go_simp
                                              with_reducible rfl
                                            rotate_left
                                            · simp only [Act.put, List.setIfInBounds_toArray, List.set_cons_zero, List.set_cons_succ, i64_w, i32_w]
                                              rfl
                                            refine pure_ (i := 12) (N := some 101) (v := undef) (a' := ?_) #[true, true, true, true, true, true, true, true, true, true, true, true, true, false, false, false, false, false, false, false, false, false, false] rfl rfl (any_of HT_.out (by kernel_rfl)) (fun _ _ _ h => h) (Or.inr ⟨by rfl, rfl⟩) ?_ ?_
                                            rotate_left
                                            · simp only [Act.put, List.setIfInBounds_toArray, List.set_cons_zero, List.set_cons_succ, i64_w, i32_w]
                                              rfl
                                            refine pure_ (i := 13) (N := some 102) (v := undef) (a' := ?_) #[true, true, true, true, true, true, true, true, true, true, true, true, true, true, false, false, false, false, false, false, false, false, false] rfl rfl (any_of HT_.out (by kernel_rfl)) (fun _ _ _ h => h) (Or.inr ⟨by rfl, rfl⟩) ?_ ?_
                                            rotate_left
                                            · simp only [Act.put, List.setIfInBounds_toArray, List.set_cons_zero, List.set_cons_succ, i64_w, i32_w]
                                              rfl
                                            refine pure_ (i := 14) (N := some 103) (v := undef) (a' := ?_) #[true, true, true, true, true, true, true, true, true, true, true, true, true, true, true, false, false, false, false, false, false, false, false] rfl rfl (any_of HT_.out (by kernel_rfl)) (fun _ _ _ h => h) (Or.inr ⟨by rfl, rfl⟩) ?_ ?_
                                            rotate_left
                                            · simp only [Act.put, List.setIfInBounds_toArray, List.set_cons_zero, List.set_cons_succ, i64_w, i32_w]
                                              rfl
                                            refine pure_ (i := 15) (N := some 104) (v := undef) (a' := ?_) #[true, true, true, true, true, true, true, true, true, true, true, true, true, true, true, true, false, false, false, false, false, false, false] rfl rfl (any_of HT_.out (by kernel_rfl)) (fun _ _ _ h => h) (Or.inr ⟨by rfl, rfl⟩) ?_ ?_
                                            rotate_left
                                            · simp only [Act.put, List.setIfInBounds_toArray, List.set_cons_zero, List.set_cons_succ, i64_w, i32_w]
                                              rfl
                                            refine pure_ (i := 16) (N := some 105) (v := undef) (a' := ?_) #[true, true, true, true, true, true, true, true, true, true, true, true, true, true, true, true, true, false, false, false, false, false, false] rfl rfl (any_of HT_.out (by kernel_rfl)) (fun _ _ _ h => h) (Or.inr ⟨by rfl, rfl⟩) ?_ ?_
                                            rotate_left
                                            · simp only [Act.put, List.setIfInBounds_toArray, List.set_cons_zero, List.set_cons_succ, i64_w, i32_w]
                                              rfl
                                            refine pure_ (i := 17) (N := some 106) (v := undef) (a' := ?_) #[true, true, true, true, true, true, true, true, true, true, true, true, true, true, true, true, true, true, false, false, false, false, false] rfl rfl (any_of HT_.out (by kernel_rfl)) (fun _ _ _ h => h) (Or.inr ⟨by rfl, rfl⟩) ?_ ?_
                                            rotate_left
                                            · simp only [Act.put, List.setIfInBounds_toArray, List.set_cons_zero, List.set_cons_succ, i64_w, i32_w]
                                              rfl
                                            refine pure_ (i := 18) (N := some 107) (v := ?_) (a' := ?_) #[true, true, true, true, true, true, true, true, true, true, true, true, true, true, true, true, true, true, true, false, false, false, false] rfl rfl (any_of HT_.out (by kernel_rfl)) (fun _ _ _ h => h) (Or.inl ⟨by rfl, ?_⟩) ?_ ?_
                                            rotate_left
                                            · intro w'
                                              go_simp
                                              with_reducible rfl
                                            rotate_left
                                            · simp only [Act.put, List.setIfInBounds_toArray, List.set_cons_zero, List.set_cons_succ, i64_w, i32_w]
                                              rfl
                                            refine pure_ (i := 19) (N := some 108) (v := ?_) (a' := ?_) #[true, true, true, true, true, true, true, true, true, true, true, true, true, true, true, true, true, true, true, true, false, false, false] rfl rfl (any_of HT_.out (by kernel_rfl)) (fun _ _ _ h => h) (Or.inl ⟨by rfl, ?_⟩) ?_ ?_
                                            rotate_left
                                            · intro w'
                                              go_simp
                                              with_reducible rfl
                                            rotate_left
                                            · simp only [Act.put, List.setIfInBounds_toArray, List.set_cons_zero, List.set_cons_succ, i64_w, i32_w]
                                              rfl
                                            refine pure_ (i := 20) (N := some 109) (v := undef) (a' := ?_) #[true, true, true, true, true, true, true, true, true, true, true, true, true, true, true, true, true, true, true, true, true, false, false] rfl rfl (any_of HT_.out (by kernel_rfl)) (fun _ _ _ h => h) (Or.inr ⟨by rfl, rfl⟩) ?_ ?_
                                            rotate_left
                                            · simp only [Act.put, List.setIfInBounds_toArray, List.set_cons_zero, List.set_cons_succ, i64_w, i32_w]
                                              rfl
                                            refine pure_ (i := 21) (N := some 110) (v := ?_) (a' := ?_) #[true, true, true, true, true, true, true, true, true, true, true, true, true, true, true, true, true, true, true, true, true, true, false] rfl rfl (any_of HT_.out (by kernel_rfl)) (fun _ _ _ h => h) (Or.inl ⟨by rfl, ?_⟩) ?_ ?_
                                            rotate_left
                                            · intro w'
                                              go_simp
                                              with_reducible rfl
                                            rotate_left
                                            · simp only [Act.put, List.setIfInBounds_toArray, List.set_cons_zero, List.set_cons_succ, i64_w, i32_w]
                                              rfl
                                            refine pure_ (i := 22) (N := some 12) (v := ?_) (a' := ?_) #[true, true, true, true, true, true, true, true, true, true, true, true, true, true, true, true, true, true, true, true, true, true, true] rfl rfl (any_of HT_.out (by kernel_rfl)) (fun _ _ _ h => h) (Or.inl ⟨by rfl, ?_⟩) ?_ ?_
                                            rotate_left
                                            · intro w'
                                              go_simp
                                              with_reducible rfl
                                            rotate_left
                                            · simp only [Act.put, List.setIfInBounds_toArray, List.set_cons_zero, List.set_cons_succ, i64_w, i32_w]
                                              rfl
                                            refine done_ (done_of HT_.out (by kernel_rfl)) ?_
                                            try go_wp2
                                            go_ret
                                            exact ⟨by first | rfl | (simp [errW_none, errW_some] <;> rfl) | (simp only [← hji19, ← hji22, ← hji24, ← hji26, ← hji28, ← hji31, ← hji33, ← hji35, ← hji38, ← hji40, ← hji42, ← hji46, ← hji48, ← hji50, ← hji52, ← hji55, ← hji57]; first | rfl | (simp [errW_none, errW_some] <;> rfl)) | (simp [*, errW_none, errW_some] <;> rfl), by repeat (first | (with_reducible first | exact HB.out | apply below_alloc | apply pw_below_drewN | apply below_drew1 | refine below_set ?_ GE202.out) | exact HB.out)⟩
                                        · rw [if_neg c56] at H
                                          exact absurd H (by simp)
                                      · rw [if_neg c54] at H
                                        exact absurd H (by simp)
                                    · rw [if_neg c51] at H
                                      exact absurd H (by simp)
                                  · rw [if_neg c49] at H
                                    exact absurd H (by simp)
                                · rw [if_neg c47] at H
                                  exact absurd H (by simp)
                              · rw [if_neg c45] at H
                                exact absurd H (by simp)
                            · rw [if_neg c41] at H
                              exact absurd H (by simp)
                          · rw [if_neg c39] at H
                            exact absurd H (by simp)
                        · rw [if_neg c37] at H
                          exact absurd H (by simp)
                      · rw [if_neg c34] at H
                        exact absurd H (by simp)
                    · rw [if_neg c32] at H
                      exact absurd H (by simp)
                  · rw [if_neg c30] at H
                    exact absurd H (by simp)
                · rw [if_neg c27] at H
                  exact absurd H (by simp)
              · rw [if_neg c25] at H
                exact absurd H (by simp)
            · rw [if_neg c23] at H
              exact absurd H (by simp)
          · rw [if_neg c21] at H
            exact absurd H (by simp)
        · rw [if_neg c18] at H
          exact absurd H (by simp)

/-- THE ONE PURE STATEMENT of shibbolethlaw21_PyurlBuilt: yours. -/
def shibbolethlaw21_PyurlBuilt.Pure : Prop := ∀ (a0 : ByteArray) (a1 : ByteArray) (a2 : ByteArray) (a3 : ByteArray) (a4 : ByteArray) (a5 : ByteArray), a0.size ≤ 140737488351232 → a1.size ≤ 140737488351232 → a2.size ≤ 140737488351232 → a3.size ≤ 140737488351232 → a4.size ≤ 140737488351232 → a5.size ≤ 140737488351232 → ∃ k, shibbolethlaw21_PyurlBuilt.f k a0 a1 a2 a3 a4 a5 = some true
theorem shibbolethlaw21_PyurlBuilt.walk (P : shibbolethlaw21_PyurlBuilt.Pure) (a0 : ByteArray) (a1 : ByteArray) (a2 : ByteArray) (a3 : ByteArray) (a4 : ByteArray) (a5 : ByteArray) (w : World) (w0 : a0.size ≤ 140737488351232) (w1 : a1.size ≤ 140737488351232) (w2 : a2.size ≤ 140737488351232) (w3 : a3.size ≤ 140737488351232) (w4 : a4.size ≤ 140737488351232) (w5 : a5.size ≤ 140737488351232) :
    Calls Try.prog 6 #[.string a0, .string a1, .string a2, .string a3, .string a4, .string a5] w fun e w' => e = .returned (.bool true) ∧ Below w.heap.size w w' := by
  obtain ⟨k, h⟩ := P a0 a1 a2 a3 a4 a5 w0 w1 w2 w3 w4 w5
  refine (shibbolethlaw21_PyurlBuilt.calls k a0 a1 a2 a3 a4 a5 true w h).mono ?_
  rintro e w' ⟨rfl, hd⟩
  exact ⟨rfl, hd⟩

end Go.Proofs.Ytbjfcnhaedhbaaa.ZA

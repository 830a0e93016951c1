/- My own print (tools/mp.py) of functions of this seat: each function as a plain Lean function, and the proof that the code does what that function says. -/
import Derived.Test.YtpejenbhgfbjjaaZA0
import Derived.Test.YtpejenbhgfbjjaaZA1
import Derived.Test.YtpejenbhgfbjjaaZA4
import Derived.Test.YtpejenbhgfbjjaaZA5
import Derived.Test.YtpejenbhgfbjjaaZA6
namespace Go.Proofs.Ytpejenbhgfbjjaa.ZA
open Go.RowKit Go.Proofs.YtpejenbhgfbjjaaW.PrintWords Go.Proofs.YtpejenbhgfbjjaaW.PrintLast Go.Proofs.YtpejenbhgfbjjaaW.PrintMore
attribute [local go_sem] max2_int min2_int max_two min_two max_three min_three max_four min_four   -- for this text's walks alone
set_option linter.unusedVariables false
set_option linter.unusedSimpArgs false

attribute [local go_sem high] eqA33
theorem lit8_Cb (W0 : World) (b : Nat) (e : TypeId) (xs : List Int) (fz : Nat × Nat) (hb : b = W0.heap.size) (hs : xs.length ≤ 9223372036854775807 := by decide) : Kd.C (Kd.int .u8) (W0.alloc (.cells (xs.map (Value.int .u8)).toArray e fz)) (some ⟨b, 0, none⟩) xs.length xs := by
  subst hb; exact lit8_C W0 e xs fz hs
/-! ### shibbolethlaw22_CurlBuilt: function 3 -/
def shibbolethlaw22_CurlBuilt.j0 : Nat → ByteArray → ByteArray → ByteArray → ByteArray → ByteArray → Bool → Option (Bool)
  | 0, _, _, _, _, _, _ => none
  | k + 1, x0, x1, x2, x3, x4, x41 => if x41 = true then ((shibbolethlaw22_awake.f k).bind fun t146 => (some t146)) else ((octets_Range.f 0 32).bind fun bt147 => ((octets_Of.f (([127] : List Int))).bind fun bt154 => ((octets_Or.f bt147.1 bt147.2.1 bt147.2.2.1 bt147.2.2.2 bt154.1 bt154.2.1 bt154.2.2.1 bt154.2.2.2).bind fun bt158 => ((octets_Not.f bt158.1 bt158.2.1 bt158.2.2.1 bt158.2.2.2).bind fun bt162 => ((octets_Of.f ([47, 58, 35, 63, 33, 64, 123, 125, 91, 93, 92, 36, 39, 34, 94, 96, 42, 60, 62, 61, 59, 44] : List Int)).bind fun bt167 => ((octets_Not.f bt167.1 bt167.2.1 bt167.2.2.1 bt167.2.2.2).bind fun bt172 => ((octets_And.f bt162.1 bt162.2.1 bt162.2.2.1 bt162.2.2.2 bt172.1 bt172.2.1 bt172.2.2.1 bt172.2.2.2).bind fun bt176 => ((shibbolethlaw22_only.f k x1 bt176.1 bt176.2.1 bt176.2.2.1 bt176.2.2.2).bind fun t180 => (if 1 + t180.size ≤ 9223372036854775807 then ((octets_Of.f (([63, 35] : List Int))).bind fun bt184 => ((octets_Not.f bt184.1 bt184.2.1 bt184.2.2.1 bt184.2.2.2).bind fun bt188 => ((octets_And.f bt162.1 bt162.2.1 bt162.2.2.1 bt162.2.2.2 bt188.1 bt188.2.1 bt188.2.2.1 bt188.2.2.2).bind fun bt192 => ((shibbolethlaw22_only.f k x3 bt192.1 bt192.2.1 bt192.2.2.1 bt192.2.2.2).bind fun t196 => (if 1 + t196.size ≤ 9223372036854775807 then ((octets_Range.f 48 57).bind fun bt197 => ((shibbolethlaw22_only.f k x2 bt197.1 bt197.2.1 bt197.2.2.1 bt197.2.2.2).bind fun t201 => (if 1 + t201.size ≤ 9223372036854775807 then (if ((⟨#[58]⟩ : ByteArray) ++ t201).size + ((⟨#[47]⟩ : ByteArray) ++ t196).size ≤ 9223372036854775807 then (if (((⟨#[58]⟩ : ByteArray) ++ t201) ++ ((⟨#[47]⟩ : ByteArray) ++ t196)).size + 1 ≤ 9223372036854775807 then ((shibbolethlaw22_only.f k x4 bt162.1 bt162.2.1 bt162.2.2.1 bt162.2.2.2).bind fun t202 => (if ((((⟨#[58]⟩ : ByteArray) ++ t201) ++ ((⟨#[47]⟩ : ByteArray) ++ t196)) ++ (⟨#[63]⟩ : ByteArray)).size + t202.size ≤ 9223372036854775807 then ((octets_Of.f (([47, 63, 35, 64] : List Int))).bind fun bt206 => ((octets_Not.f bt206.1 bt206.2.1 bt206.2.2.1 bt206.2.2.2).bind fun bt210 => ((octets_And.f bt162.1 bt162.2.1 bt162.2.2.1 bt162.2.2.2 bt210.1 bt210.2.1 bt210.2.2.1 bt210.2.2.2).bind fun bt214 => ((shibbolethlaw22_only.f k x0 bt214.1 bt214.2.1 bt214.2.2.1 bt214.2.2.2).bind fun t218 => (if 4 + t218.size ≤ 9223372036854775807 then (if ((⟨#[120, 58, 47, 47]⟩ : ByteArray) ++ t218).size + 1 ≤ 9223372036854775807 then (if (((⟨#[120, 58, 47, 47]⟩ : ByteArray) ++ t218) ++ (⟨#[64]⟩ : ByteArray)).size + ((⟨#[104]⟩ : ByteArray) ++ t180).size ≤ 9223372036854775807 then (if ((((⟨#[120, 58, 47, 47]⟩ : ByteArray) ++ t218) ++ (⟨#[64]⟩ : ByteArray)) ++ ((⟨#[104]⟩ : ByteArray) ++ t180)).size + (((((⟨#[58]⟩ : ByteArray) ++ t201) ++ ((⟨#[47]⟩ : ByteArray) ++ t196)) ++ (⟨#[63]⟩ : ByteArray)) ++ t202).size ≤ 9223372036854775807 then ((octets_Of.f ([48, 49, 50, 51, 52, 53, 54, 55, 56, 57, 97, 98, 99, 100, 101, 102, 65, 66, 67, 68, 69, 70, 58, 46] : List Int)).bind fun bt219 => ((shibbolethlaw22_only.f k x1 bt219.1 bt219.2.1 bt219.2.2.1 bt219.2.2.2).bind fun t223 => (if 1 + t223.size ≤ 9223372036854775807 then (if ((⟨#[91]⟩ : ByteArray) ++ t223).size + 1 ≤ 9223372036854775807 then (if 4 + (((⟨#[91]⟩ : ByteArray) ++ t223) ++ (⟨#[93]⟩ : ByteArray)).size ≤ 9223372036854775807 then (if ((⟨#[120, 58, 47, 47]⟩ : ByteArray) ++ (((⟨#[91]⟩ : ByteArray) ++ t223) ++ (⟨#[93]⟩ : ByteArray))).size + (((((⟨#[58]⟩ : ByteArray) ++ t201) ++ ((⟨#[47]⟩ : ByteArray) ++ t196)) ++ (⟨#[63]⟩ : ByteArray)) ++ t202).size ≤ 9223372036854775807 then ((curl_Parse.f k (((⟨#[120, 58, 47, 47]⟩ : ByteArray) ++ (((⟨#[91]⟩ : ByteArray) ++ t223) ++ (⟨#[93]⟩ : ByteArray))) ++ (((((⟨#[58]⟩ : ByteArray) ++ t201) ++ ((⟨#[47]⟩ : ByteArray) ++ t196)) ++ (⟨#[63]⟩ : ByteArray)) ++ t202))).bind fun bt224 => ((curl_Parse.f k (((((⟨#[120, 58, 47, 47]⟩ : ByteArray) ++ t218) ++ (⟨#[64]⟩ : ByteArray)) ++ ((⟨#[104]⟩ : ByteArray) ++ t180)) ++ (((((⟨#[58]⟩ : ByteArray) ++ t201) ++ ((⟨#[47]⟩ : ByteArray) ++ t196)) ++ (⟨#[63]⟩ : ByteArray)) ++ t202))).bind fun bt228 => (if (bt228.1 && (bt228.2.1.toList == (((⟨#[104]⟩ : ByteArray) ++ t180).toList) && (bt228.2.2.toList == (((⟨#[47]⟩ : ByteArray) ++ t196).toList)))) = true then (if ((((⟨#[91]⟩ : ByteArray) ++ t223) ++ (⟨#[93]⟩ : ByteArray)).size : Int) = 2 then (if (!bt224.1 && (bt224.2.1.toList == ([] : List UInt8) && (bt224.2.2.toList == ([] : List UInt8)))) = true then ((shibbolethlaw22_awake.f k).bind fun t231 => (some t231)) else (if (bt224.1 && (bt224.2.1.toList == ((((⟨#[91]⟩ : ByteArray) ++ t223) ++ (⟨#[93]⟩ : ByteArray)).toList) && (bt224.2.2.toList == (((⟨#[47]⟩ : ByteArray) ++ t196).toList)))) = true then ((shibbolethlaw22_awake.f k).bind fun t232 => (some t232)) else (some false))) else (if (bt224.1 && (bt224.2.1.toList == ((((⟨#[91]⟩ : ByteArray) ++ t223) ++ (⟨#[93]⟩ : ByteArray)).toList) && (bt224.2.2.toList == (((⟨#[47]⟩ : ByteArray) ++ t196).toList)))) = true then ((shibbolethlaw22_awake.f k).bind fun t233 => (some t233)) else (some false))) else (some false)))) else (none)) else (none)) else (none)) else (none)))) else (none)) else (none)) else (none)) else (none)))))) else (none))) else (none)) else (none)) else (none)))) else (none)))))) else (none))))))))))
def shibbolethlaw22_CurlBuilt.f (k : Nat) (a0 : ByteArray) (a1 : ByteArray) (a2 : ByteArray) (a3 : ByteArray) (a4 : ByteArray) : Option (Bool) := if (a0.size : Int) > 60 then (shibbolethlaw22_CurlBuilt.j0 k a0 a1 a2 a3 a4 true) else (if (a1.size : Int) > 60 then (shibbolethlaw22_CurlBuilt.j0 k a0 a1 a2 a3 a4 true) else (if (a2.size : Int) > 60 then (shibbolethlaw22_CurlBuilt.j0 k a0 a1 a2 a3 a4 true) else (if (a3.size : Int) > 60 then (shibbolethlaw22_CurlBuilt.j0 k a0 a1 a2 a3 a4 true) else (shibbolethlaw22_CurlBuilt.j0 k a0 a1 a2 a3 a4 (decide ((a4.size : Int) > 60))))))
theorem shibbolethlaw22_CurlBuilt.mono_l : ∀ k, (∀ y0 y1 y2 y3 y4 y5, LeO (shibbolethlaw22_CurlBuilt.j0 k y0 y1 y2 y3 y4 y5) (shibbolethlaw22_CurlBuilt.j0 (k + 1) y0 y1 y2 y3 y4 y5))
  | 0 => fun _ _ _ _ _ _ r h => by simp [shibbolethlaw22_CurlBuilt.j0] at h
  | k + 1 => by
    have ih0 := shibbolethlaw22_CurlBuilt.mono_l k
    · intro y0 y1 y2 y3 y4 y5
      unfold shibbolethlaw22_CurlBuilt.j0
      repeat' first
      | (with_reducible exact ih0 _ _ _ _ _ _)
      | (with_reducible exact curl_Parse.mono _ _)
      | (with_reducible exact shibbolethlaw22_awake.mono _)
      | (with_reducible exact shibbolethlaw22_only.mono _ _ _ _ _ _)
      | (with_reducible exact LeO.refl _)
      | (with_reducible exact LeO.none _)
      | (with_reducible refine LeO.ite ?_ ?_)
      | (with_reducible refine LeO.bind ?_ (fun _ => ?_))
      | exact ih0 _ _ _ _ _ _
      | exact curl_Parse.mono _ _
      | exact shibbolethlaw22_awake.mono _
      | exact shibbolethlaw22_only.mono _ _ _ _ _ _
      | exact LeO.none _
      | refine LeO.ite ?_ ?_
      | refine LeO.bind ?_ (fun _ => ?_)
theorem shibbolethlaw22_CurlBuilt.mono : ∀ a0 a1 a2 a3 a4 k, LeO (shibbolethlaw22_CurlBuilt.f k a0 a1 a2 a3 a4) (shibbolethlaw22_CurlBuilt.f (k + 1) a0 a1 a2 a3 a4) := by
  intro a0 a1 a2 a3 a4 k
  have ih0 := shibbolethlaw22_CurlBuilt.mono_l k
  unfold shibbolethlaw22_CurlBuilt.f
  repeat' first
      | (with_reducible exact ih0 _ _ _ _ _ _)
      | (with_reducible exact curl_Parse.mono _ _)
      | (with_reducible exact shibbolethlaw22_awake.mono _)
      | (with_reducible exact shibbolethlaw22_only.mono _ _ _ _ _ _)
      | (with_reducible exact LeO.refl _)
      | (with_reducible exact LeO.none _)
      | (with_reducible refine LeO.ite ?_ ?_)
      | (with_reducible refine LeO.bind ?_ (fun _ => ?_))
      | exact ih0 _ _ _ _ _ _
      | exact curl_Parse.mono _ _
      | exact shibbolethlaw22_awake.mono _
      | exact shibbolethlaw22_only.mono _ _ _ _ _ _
      | exact LeO.none _
      | refine LeO.ite ?_ ?_
      | refine LeO.bind ?_ (fun _ => ?_)
def shibbolethlaw22_CurlBuilt.T5 : Bool × List (List Nat × List Nat) := (true, [([], []), ([], []), ([], []), ([2], [2]), ([1, 3, 3], [1, 3]), ([0, 4, 4], [0, 4]), ([5], [5]), ([6, 5, 0, 1, 2, 3, 4, 5, 6], [6])])
def shibbolethlaw22_CurlBuilt.B5 : List Nat := [0, 0, 0, 4, 14, 31, 63, 127]
theorem shibbolethlaw22_CurlBuilt.tab5 : rtab .any (opsOf Try.f3 5) = shibbolethlaw22_CurlBuilt.T5 := by kernel_rfl
theorem shibbolethlaw22_CurlBuilt.bits5 : waitsOk shibbolethlaw22_CurlBuilt.T5.2 shibbolethlaw22_CurlBuilt.B5 = true := by kernel_rfl
def shibbolethlaw22_CurlBuilt.T6 : Bool × List (List Nat × List Nat) := (true, [([], []), ([], []), ([], []), ([2], [2]), ([3, 3], [3]), ([1, 4, 4], [1, 4]), ([0, 5, 5], [0, 5]), ([6], [6]), ([7, 6, 0, 1, 2, 3, 4, 5, 6, 7], [7])])
def shibbolethlaw22_CurlBuilt.B6 : List Nat := [0, 0, 0, 4, 12, 30, 63, 127, 255]
theorem shibbolethlaw22_CurlBuilt.tab6 : rtab .any (opsOf Try.f3 6) = shibbolethlaw22_CurlBuilt.T6 := by kernel_rfl
theorem shibbolethlaw22_CurlBuilt.bits6 : waitsOk shibbolethlaw22_CurlBuilt.T6.2 shibbolethlaw22_CurlBuilt.B6 = true := by kernel_rfl
def shibbolethlaw22_CurlBuilt.T7 : Bool × List (List Nat × List Nat) := (true, [([], []), ([], []), ([0, 1, 1], [0, 1]), ([2], [2]), ([], []), ([3, 4], [3, 4]), ([5], [5]), ([], []), ([], []), ([7, 8, 2], [7, 8]), ([6, 9], [6, 9]), ([10, 9, 0, 1, 2, 3, 4, 5, 6, 7, 8, 9, 10], [10])])
def shibbolethlaw22_CurlBuilt.B7 : List Nat := [0, 0, 3, 7, 0, 31, 63, 0, 0, 391, 1023, 2047]
theorem shibbolethlaw22_CurlBuilt.tab7 : rtab .any (opsOf Try.f3 7) = shibbolethlaw22_CurlBuilt.T7 := by kernel_rfl
theorem shibbolethlaw22_CurlBuilt.bits7 : waitsOk shibbolethlaw22_CurlBuilt.T7.2 shibbolethlaw22_CurlBuilt.B7 = true := by kernel_rfl
def shibbolethlaw22_CurlBuilt.T8 : Bool × List (List Nat × List Nat) := (true, [([], []), ([], []), ([], []), ([2], [2]), ([3, 3], [3]), ([1, 4, 4], [1, 4]), ([0, 5, 5], [0, 5]), ([6], [6]), ([7], [7]), ([], []), ([8, 9], [8, 9]), ([], []), ([10, 11], [10, 11]), ([12, 6, 0, 1, 2, 3, 4, 5, 6, 7, 8, 9, 10, 11, 12], [12])])
def shibbolethlaw22_CurlBuilt.B8 : List Nat := [0, 0, 0, 4, 12, 30, 63, 127, 255, 0, 1023, 0, 4095, 8191]
theorem shibbolethlaw22_CurlBuilt.tab8 : rtab .any (opsOf Try.f3 8) = shibbolethlaw22_CurlBuilt.T8 := by kernel_rfl
theorem shibbolethlaw22_CurlBuilt.bits8 : waitsOk shibbolethlaw22_CurlBuilt.T8.2 shibbolethlaw22_CurlBuilt.B8 = true := by kernel_rfl
set_option maxHeartbeats 8000000 in
set_option maxRecDepth 100000 in
theorem shibbolethlaw22_CurlBuilt.calls (k : Nat) (a0 : ByteArray) (a1 : ByteArray) (a2 : ByteArray) (a3 : ByteArray) (a4 : ByteArray) (r : Bool) (w : World) (h : shibbolethlaw22_CurlBuilt.f k a0 a1 a2 a3 a4 = some r) :
    Calls Try.prog 3 #[.string a0, .string a1, .string a2, .string a3, .string a4] w fun e w' => e = .returned (.bool r) ∧ Below w.heap.size w w' := by
  have hu25 := Try.underlying25
  have hu33 := Try.underlying33
  have kc8 := fun (w : World) (C : Array Value) (n c : Nat) => Lib.run_convert_bytes_const (P := Try.prog) w 30 5 C n c Try.underlying30 Try.underlying5
  have kc9 : ∀ (w : World) (C : Array Value) (n c b : Nat), b = w.heap.size → Sem.run Try.prog (convert 30 30 (Value.slice (some { block := b, off := 0 }) n c)) (w.alloc (Obj.cells C 5)) = Result.ok (Value.slice (some { block := b, off := 0 }) n c) (w.alloc (Obj.cells C 5 (C.size, C.size + 1))) := fun w C n c b hb => by subst hb; exact kc8 w C n c
  have HB := Aside0.mk (Below.refl w.heap.size w)
  have H : (if (a0.size : Int) > 60 then (shibbolethlaw22_CurlBuilt.j0 k a0 a1 a2 a3 a4 true) else (if (a1.size : Int) > 60 then (shibbolethlaw22_CurlBuilt.j0 k a0 a1 a2 a3 a4 true) else (if (a2.size : Int) > 60 then (shibbolethlaw22_CurlBuilt.j0 k a0 a1 a2 a3 a4 true) else (if (a3.size : Int) > 60 then (shibbolethlaw22_CurlBuilt.j0 k a0 a1 a2 a3 a4 true) else (shibbolethlaw22_CurlBuilt.j0 k a0 a1 a2 a3 a4 (decide ((a4.size : Int) > 60))))))) = some r := h
  clear h
  have HC6 := Aside0.mk H
  clear H
  go_enter Try.func3, Try.ntmps3
  go_upto_region 1 with (fail)
  go_cut [41] (fun v41 wc => ∃ (kq : Nat) (x41_5 : Bool), v41 = .bool x41_5 ∧ Aside0 (shibbolethlaw22_CurlBuilt.j0 kq a0 a1 a2 a3 a4 x41_5 = some r) ∧ Aside0 (kq ≤ k) ∧ Aside0 (Below w.heap.size w wc))
  case first =>
    have H := HC6.out
    clear HC6
    by_cases c7 : (a0.size : Int) > 60
    · rw [if_pos c7] at H
      have c7b0 : decide (60 < (a0.size : Int)) = true := decide_eq_true c7
      have c7b1 : decide (60 < a0.size) = true := decide_eq_true (by omega)
      clear c7
      (first | rw [c7b0] | (simp only [i64_w, i32_w]; rw [c7b0]) | skip)
      have H' := Aside0.mk H
      clear H
      go_wp2
      go_meet
      case rel => exact ⟨_, (true), (by first | rfl | (simp; done) | (simp [*]; done)), H', ⟨by first | omega | exact Nat.le_refl _⟩, ⟨by repeat (first | (with_reducible first | exact HB.out | apply below_alloc | apply pw_below_drewN | apply below_drew1) | exact HB.out)⟩⟩
    · rw [if_neg c7] at H
      have c7b0 : decide (60 < (a0.size : Int)) = false := decide_eq_false c7
      have c7b1 : decide (60 < a0.size) = false := decide_eq_false (by omega)
      clear c7
      (first | rw [c7b0] | (simp only [i64_w, i32_w]; rw [c7b0]) | skip)
      by_cases c8 : (a1.size : Int) > 60
      · rw [if_pos c8] at H
        have c8b0 : decide (60 < (a1.size : Int)) = true := decide_eq_true c8
        have c8b1 : decide (60 < a1.size) = true := decide_eq_true (by omega)
        clear c8
        have H' := Aside0.mk H
        clear H
        go_wp2
        go_meet
        case rel => exact ⟨_, (true), (by first | rfl | (simp; done) | (simp [*]; done)), H', ⟨by first | omega | exact Nat.le_refl _⟩, ⟨by repeat (first | (with_reducible first | exact HB.out | apply below_alloc | apply pw_below_drewN | apply below_drew1) | exact HB.out)⟩⟩
      · rw [if_neg c8] at H
        have c8b0 : decide (60 < (a1.size : Int)) = false := decide_eq_false c8
        have c8b1 : decide (60 < a1.size) = false := decide_eq_false (by omega)
        clear c8
        by_cases c9 : (a2.size : Int) > 60
        · rw [if_pos c9] at H
          have c9b0 : decide (60 < (a2.size : Int)) = true := decide_eq_true c9
          have c9b1 : decide (60 < a2.size) = true := decide_eq_true (by omega)
          clear c9
          have H' := Aside0.mk H
          clear H
          go_wp2
          go_meet
          case rel => exact ⟨_, (true), (by first | rfl | (simp; done) | (simp [*]; done)), H', ⟨by first | omega | exact Nat.le_refl _⟩, ⟨by repeat (first | (with_reducible first | exact HB.out | apply below_alloc | apply pw_below_drewN | apply below_drew1) | exact HB.out)⟩⟩
        · rw [if_neg c9] at H
          have c9b0 : decide (60 < (a2.size : Int)) = false := decide_eq_false c9
          have c9b1 : decide (60 < a2.size) = false := decide_eq_false (by omega)
          clear c9
          by_cases c10 : (a3.size : Int) > 60
          · rw [if_pos c10] at H
            have c10b0 : decide (60 < (a3.size : Int)) = true := decide_eq_true c10
            have c10b1 : decide (60 < a3.size) = true := decide_eq_true (by omega)
            clear c10
            have H' := Aside0.mk H
            clear H
            go_wp2
            go_meet
            case rel => exact ⟨_, (true), (by first | rfl | (simp; done) | (simp [*]; done)), H', ⟨by first | omega | exact Nat.le_refl _⟩, ⟨by repeat (first | (with_reducible first | exact HB.out | apply below_alloc | apply pw_below_drewN | apply below_drew1) | exact HB.out)⟩⟩
          · rw [if_neg c10] at H
            have c10b0 : decide (60 < (a3.size : Int)) = false := decide_eq_false c10
            have c10b1 : decide (60 < a3.size) = false := decide_eq_false (by omega)
            clear c10
            have H' := Aside0.mk H
            clear H
            go_wp2
            go_meet
            case rel => exact ⟨_, (decide ((a4.size : Int) > 60)), (by first | rfl | (simp; done) | (simp [*]; done)), H', ⟨by first | omega | exact Nat.le_refl _⟩, ⟨by repeat (first | (with_reducible first | exact HB.out | apply below_alloc | apply pw_below_drewN | apply below_drew1) | exact HB.out)⟩⟩
  case rest =>
    clear HC6
    try clear c1
    try clear p2
    try clear c3
    try clear c7
    try clear c7b0
    try clear c7b1
    try clear c8
    try clear c8b0
    try clear c8b1
    try clear c9
    try clear c9b0
    try clear c9b1
    try clear c10
    try clear c10b0
    try clear c10b1
    obtain ⟨kq, x41_5, rfl, HA, HJ5, HB⟩ := hcut
    cases kq with
    | zero => exact absurd HA.out (by simp [shibbolethlaw22_CurlBuilt.j0])
    | succ kj5 =>
      have H := HA.out
      clear HA
      simp only [shibbolethlaw22_CurlBuilt.j0] at H
      by_cases c11 : x41_5 = true
      · subst c11
        have H1 : ((shibbolethlaw22_awake.f kj5).bind fun t146 => (some t146)) = some r := by rw [if_pos rfl] at H; exact H
        clear H
        have H := H1
        clear H1
        replace H := Option.bind_eq_some_iff.mp H
        obtain ⟨t146, A120, H⟩ := H
        try dsimp only at H
        have A12 := Aside0.mk A120
        clear A120
        obtain rfl := Option.some.inj H
        go_wp2_with (first | ((with_reducible refine gate_callee (f := 4) rfl ?_); refine goesL_ (some 42) rfl rfl Try.func4 (by kernel_rfl) rfl #[] rfl (by (try simp only [List.map_toArray, List.map_cons, List.map_nil]); first | done | rfl | (simp only [List.length_drop, List.length_take]; rfl)) ?_; (with_reducible refine (shibbolethlaw22_awake.calls kj5  t146 _ A12.out).mono ?_); rintro e w13 ⟨rfl, hb⟩; refine ⟨_, rfl, ?_⟩; have n0_ := Aside0.mk (below_step (by repeat (first | (with_reducible first | exact HB.out | apply below_alloc | apply pw_below_drewN | apply below_drew1) | exact HB.out)) hb); clear HB; have HB := n0_; clear n0_; (try clear hb); (try clear hb2); (try clear hk); (try clear hi)))
        go_ret
        exact ⟨by first | rfl | (simp [errW_none, errW_some] <;> rfl) | (simp [*, errW_none, errW_some] <;> rfl), by repeat (first | (with_reducible first | exact HB.out | apply below_alloc | apply pw_below_drewN | apply below_drew1) | exact HB.out)⟩
      · replace c11 := Bool.eq_false_iff.mpr c11
        subst c11
        have H1 : ((octets_Range.f 0 32).bind fun bt147 => ((octets_Of.f (([127] : List Int))).bind fun bt154 => ((octets_Or.f bt147.1 bt147.2.1 bt147.2.2.1 bt147.2.2.2 bt154.1 bt154.2.1 bt154.2.2.1 bt154.2.2.2).bind fun bt158 => ((octets_Not.f bt158.1 bt158.2.1 bt158.2.2.1 bt158.2.2.2).bind fun bt162 => ((octets_Of.f ([47, 58, 35, 63, 33, 64, 123, 125, 91, 93, 92, 36, 39, 34, 94, 96, 42, 60, 62, 61, 59, 44] : List Int)).bind fun bt167 => ((octets_Not.f bt167.1 bt167.2.1 bt167.2.2.1 bt167.2.2.2).bind fun bt172 => ((octets_And.f bt162.1 bt162.2.1 bt162.2.2.1 bt162.2.2.2 bt172.1 bt172.2.1 bt172.2.2.1 bt172.2.2.2).bind fun bt176 => ((shibbolethlaw22_only.f kj5 a1 bt176.1 bt176.2.1 bt176.2.2.1 bt176.2.2.2).bind fun t180 => (if 1 + t180.size ≤ 9223372036854775807 then ((octets_Of.f (([63, 35] : List Int))).bind fun bt184 => ((octets_Not.f bt184.1 bt184.2.1 bt184.2.2.1 bt184.2.2.2).bind fun bt188 => ((octets_And.f bt162.1 bt162.2.1 bt162.2.2.1 bt162.2.2.2 bt188.1 bt188.2.1 bt188.2.2.1 bt188.2.2.2).bind fun bt192 => ((shibbolethlaw22_only.f kj5 a3 bt192.1 bt192.2.1 bt192.2.2.1 bt192.2.2.2).bind fun t196 => (if 1 + t196.size ≤ 9223372036854775807 then ((octets_Range.f 48 57).bind fun bt197 => ((shibbolethlaw22_only.f kj5 a2 bt197.1 bt197.2.1 bt197.2.2.1 bt197.2.2.2).bind fun t201 => (if 1 + t201.size ≤ 9223372036854775807 then (if ((⟨#[58]⟩ : ByteArray) ++ t201).size + ((⟨#[47]⟩ : ByteArray) ++ t196).size ≤ 9223372036854775807 then (if (((⟨#[58]⟩ : ByteArray) ++ t201) ++ ((⟨#[47]⟩ : ByteArray) ++ t196)).size + 1 ≤ 9223372036854775807 then ((shibbolethlaw22_only.f kj5 a4 bt162.1 bt162.2.1 bt162.2.2.1 bt162.2.2.2).bind fun t202 => (if ((((⟨#[58]⟩ : ByteArray) ++ t201) ++ ((⟨#[47]⟩ : ByteArray) ++ t196)) ++ (⟨#[63]⟩ : ByteArray)).size + t202.size ≤ 9223372036854775807 then ((octets_Of.f (([47, 63, 35, 64] : List Int))).bind fun bt206 => ((octets_Not.f bt206.1 bt206.2.1 bt206.2.2.1 bt206.2.2.2).bind fun bt210 => ((octets_And.f bt162.1 bt162.2.1 bt162.2.2.1 bt162.2.2.2 bt210.1 bt210.2.1 bt210.2.2.1 bt210.2.2.2).bind fun bt214 => ((shibbolethlaw22_only.f kj5 a0 bt214.1 bt214.2.1 bt214.2.2.1 bt214.2.2.2).bind fun t218 => (if 4 + t218.size ≤ 9223372036854775807 then (if ((⟨#[120, 58, 47, 47]⟩ : ByteArray) ++ t218).size + 1 ≤ 9223372036854775807 then (if (((⟨#[120, 58, 47, 47]⟩ : ByteArray) ++ t218) ++ (⟨#[64]⟩ : ByteArray)).size + ((⟨#[104]⟩ : ByteArray) ++ t180).size ≤ 9223372036854775807 then (if ((((⟨#[120, 58, 47, 47]⟩ : ByteArray) ++ t218) ++ (⟨#[64]⟩ : ByteArray)) ++ ((⟨#[104]⟩ : ByteArray) ++ t180)).size + (((((⟨#[58]⟩ : ByteArray) ++ t201) ++ ((⟨#[47]⟩ : ByteArray) ++ t196)) ++ (⟨#[63]⟩ : ByteArray)) ++ t202).size ≤ 9223372036854775807 then ((octets_Of.f ([48, 49, 50, 51, 52, 53, 54, 55, 56, 57, 97, 98, 99, 100, 101, 102, 65, 66, 67, 68, 69, 70, 58, 46] : List Int)).bind fun bt219 => ((shibbolethlaw22_only.f kj5 a1 bt219.1 bt219.2.1 bt219.2.2.1 bt219.2.2.2).bind fun t223 => (if 1 + t223.size ≤ 9223372036854775807 then (if ((⟨#[91]⟩ : ByteArray) ++ t223).size + 1 ≤ 9223372036854775807 then (if 4 + (((⟨#[91]⟩ : ByteArray) ++ t223) ++ (⟨#[93]⟩ : ByteArray)).size ≤ 9223372036854775807 then (if ((⟨#[120, 58, 47, 47]⟩ : ByteArray) ++ (((⟨#[91]⟩ : ByteArray) ++ t223) ++ (⟨#[93]⟩ : ByteArray))).size + (((((⟨#[58]⟩ : ByteArray) ++ t201) ++ ((⟨#[47]⟩ : ByteArray) ++ t196)) ++ (⟨#[63]⟩ : ByteArray)) ++ t202).size ≤ 9223372036854775807 then ((curl_Parse.f kj5 (((⟨#[120, 58, 47, 47]⟩ : ByteArray) ++ (((⟨#[91]⟩ : ByteArray) ++ t223) ++ (⟨#[93]⟩ : ByteArray))) ++ (((((⟨#[58]⟩ : ByteArray) ++ t201) ++ ((⟨#[47]⟩ : ByteArray) ++ t196)) ++ (⟨#[63]⟩ : ByteArray)) ++ t202))).bind fun bt224 => ((curl_Parse.f kj5 (((((⟨#[120, 58, 47, 47]⟩ : ByteArray) ++ t218) ++ (⟨#[64]⟩ : ByteArray)) ++ ((⟨#[104]⟩ : ByteArray) ++ t180)) ++ (((((⟨#[58]⟩ : ByteArray) ++ t201) ++ ((⟨#[47]⟩ : ByteArray) ++ t196)) ++ (⟨#[63]⟩ : ByteArray)) ++ t202))).bind fun bt228 => (if (bt228.1 && (bt228.2.1.toList == (((⟨#[104]⟩ : ByteArray) ++ t180).toList) && (bt228.2.2.toList == (((⟨#[47]⟩ : ByteArray) ++ t196).toList)))) = true then (if ((((⟨#[91]⟩ : ByteArray) ++ t223) ++ (⟨#[93]⟩ : ByteArray)).size : Int) = 2 then (if (!bt224.1 && (bt224.2.1.toList == ([] : List UInt8) && (bt224.2.2.toList == ([] : List UInt8)))) = true then ((shibbolethlaw22_awake.f kj5).bind fun t231 => (some t231)) else (if (bt224.1 && (bt224.2.1.toList == ((((⟨#[91]⟩ : ByteArray) ++ t223) ++ (⟨#[93]⟩ : ByteArray)).toList) && (bt224.2.2.toList == (((⟨#[47]⟩ : ByteArray) ++ t196).toList)))) = true then ((shibbolethlaw22_awake.f kj5).bind fun t232 => (some t232)) else (some false))) else (if (bt224.1 && (bt224.2.1.toList == ((((⟨#[91]⟩ : ByteArray) ++ t223) ++ (⟨#[93]⟩ : ByteArray)).toList) && (bt224.2.2.toList == (((⟨#[47]⟩ : ByteArray) ++ t196).toList)))) = true then ((shibbolethlaw22_awake.f kj5).bind fun t233 => (some t233)) else (some false))) else (some false)))) else (none)) else (none)) else (none)) else (none)))) else (none)) else (none)) else (none)) else (none)))))) else (none))) else (none)) else (none)) else (none)))) else (none)))))) else (none)))))))))) = some r := by rw [if_neg (show ¬ (false = true) by decide)] at H; exact H
        clear H
        have H := H1
        clear H1
        replace H := Option.bind_eq_some_iff.mp H
        obtain ⟨⟨t147, t148, t149, t150⟩, A140, H⟩ := H
        try dsimp only at H
        have A14 := Aside0.mk A140
        clear A140
        obtain ⟨y151, hy151⟩ : ∃ y_ : List Int, y_ = (([127] : List Int)) := ⟨_, rfl⟩
        replace H : ((octets_Of.f y151).bind fun bt154 => ((octets_Or.f t147 t148 t149 t150 bt154.1 bt154.2.1 bt154.2.2.1 bt154.2.2.2).bind fun bt158 => ((octets_Not.f bt158.1 bt158.2.1 bt158.2.2.1 bt158.2.2.2).bind fun bt162 => ((octets_Of.f ([47, 58, 35, 63, 33, 64, 123, 125, 91, 93, 92, 36, 39, 34, 94, 96, 42, 60, 62, 61, 59, 44] : List Int)).bind fun bt167 => ((octets_Not.f bt167.1 bt167.2.1 bt167.2.2.1 bt167.2.2.2).bind fun bt172 => ((octets_And.f bt162.1 bt162.2.1 bt162.2.2.1 bt162.2.2.2 bt172.1 bt172.2.1 bt172.2.2.1 bt172.2.2.2).bind fun bt176 => ((shibbolethlaw22_only.f kj5 a1 bt176.1 bt176.2.1 bt176.2.2.1 bt176.2.2.2).bind fun t180 => (if 1 + t180.size ≤ 9223372036854775807 then ((octets_Of.f (([63, 35] : List Int))).bind fun bt184 => ((octets_Not.f bt184.1 bt184.2.1 bt184.2.2.1 bt184.2.2.2).bind fun bt188 => ((octets_And.f bt162.1 bt162.2.1 bt162.2.2.1 bt162.2.2.2 bt188.1 bt188.2.1 bt188.2.2.1 bt188.2.2.2).bind fun bt192 => ((shibbolethlaw22_only.f kj5 a3 bt192.1 bt192.2.1 bt192.2.2.1 bt192.2.2.2).bind fun t196 => (if 1 + t196.size ≤ 9223372036854775807 then ((octets_Range.f 48 57).bind fun bt197 => ((shibbolethlaw22_only.f kj5 a2 bt197.1 bt197.2.1 bt197.2.2.1 bt197.2.2.2).bind fun t201 => (if 1 + t201.size ≤ 9223372036854775807 then (if ((⟨#[58]⟩ : ByteArray) ++ t201).size + ((⟨#[47]⟩ : ByteArray) ++ t196).size ≤ 9223372036854775807 then (if (((⟨#[58]⟩ : ByteArray) ++ t201) ++ ((⟨#[47]⟩ : ByteArray) ++ t196)).size + 1 ≤ 9223372036854775807 then ((shibbolethlaw22_only.f kj5 a4 bt162.1 bt162.2.1 bt162.2.2.1 bt162.2.2.2).bind fun t202 => (if ((((⟨#[58]⟩ : ByteArray) ++ t201) ++ ((⟨#[47]⟩ : ByteArray) ++ t196)) ++ (⟨#[63]⟩ : ByteArray)).size + t202.size ≤ 9223372036854775807 then ((octets_Of.f (([47, 63, 35, 64] : List Int))).bind fun bt206 => ((octets_Not.f bt206.1 bt206.2.1 bt206.2.2.1 bt206.2.2.2).bind fun bt210 => ((octets_And.f bt162.1 bt162.2.1 bt162.2.2.1 bt162.2.2.2 bt210.1 bt210.2.1 bt210.2.2.1 bt210.2.2.2).bind fun bt214 => ((shibbolethlaw22_only.f kj5 a0 bt214.1 bt214.2.1 bt214.2.2.1 bt214.2.2.2).bind fun t218 => (if 4 + t218.size ≤ 9223372036854775807 then (if ((⟨#[120, 58, 47, 47]⟩ : ByteArray) ++ t218).size + 1 ≤ 9223372036854775807 then (if (((⟨#[120, 58, 47, 47]⟩ : ByteArray) ++ t218) ++ (⟨#[64]⟩ : ByteArray)).size + ((⟨#[104]⟩ : ByteArray) ++ t180).size ≤ 9223372036854775807 then (if ((((⟨#[120, 58, 47, 47]⟩ : ByteArray) ++ t218) ++ (⟨#[64]⟩ : ByteArray)) ++ ((⟨#[104]⟩ : ByteArray) ++ t180)).size + (((((⟨#[58]⟩ : ByteArray) ++ t201) ++ ((⟨#[47]⟩ : ByteArray) ++ t196)) ++ (⟨#[63]⟩ : ByteArray)) ++ t202).size ≤ 9223372036854775807 then ((octets_Of.f ([48, 49, 50, 51, 52, 53, 54, 55, 56, 57, 97, 98, 99, 100, 101, 102, 65, 66, 67, 68, 69, 70, 58, 46] : List Int)).bind fun bt219 => ((shibbolethlaw22_only.f kj5 a1 bt219.1 bt219.2.1 bt219.2.2.1 bt219.2.2.2).bind fun t223 => (if 1 + t223.size ≤ 9223372036854775807 then (if ((⟨#[91]⟩ : ByteArray) ++ t223).size + 1 ≤ 9223372036854775807 then (if 4 + (((⟨#[91]⟩ : ByteArray) ++ t223) ++ (⟨#[93]⟩ : ByteArray)).size ≤ 9223372036854775807 then (if ((⟨#[120, 58, 47, 47]⟩ : ByteArray) ++ (((⟨#[91]⟩ : ByteArray) ++ t223) ++ (⟨#[93]⟩ : ByteArray))).size + (((((⟨#[58]⟩ : ByteArray) ++ t201) ++ ((⟨#[47]⟩ : ByteArray) ++ t196)) ++ (⟨#[63]⟩ : ByteArray)) ++ t202).size ≤ 9223372036854775807 then ((curl_Parse.f kj5 (((⟨#[120, 58, 47, 47]⟩ : ByteArray) ++ (((⟨#[91]⟩ : ByteArray) ++ t223) ++ (⟨#[93]⟩ : ByteArray))) ++ (((((⟨#[58]⟩ : ByteArray) ++ t201) ++ ((⟨#[47]⟩ : ByteArray) ++ t196)) ++ (⟨#[63]⟩ : ByteArray)) ++ t202))).bind fun bt224 => ((curl_Parse.f kj5 (((((⟨#[120, 58, 47, 47]⟩ : ByteArray) ++ t218) ++ (⟨#[64]⟩ : ByteArray)) ++ ((⟨#[104]⟩ : ByteArray) ++ t180)) ++ (((((⟨#[58]⟩ : ByteArray) ++ t201) ++ ((⟨#[47]⟩ : ByteArray) ++ t196)) ++ (⟨#[63]⟩ : ByteArray)) ++ t202))).bind fun bt228 => (if (bt228.1 && (bt228.2.1.toList == (((⟨#[104]⟩ : ByteArray) ++ t180).toList) && (bt228.2.2.toList == (((⟨#[47]⟩ : ByteArray) ++ t196).toList)))) = true then (if ((((⟨#[91]⟩ : ByteArray) ++ t223) ++ (⟨#[93]⟩ : ByteArray)).size : Int) = 2 then (if (!bt224.1 && (bt224.2.1.toList == ([] : List UInt8) && (bt224.2.2.toList == ([] : List UInt8)))) = true then ((shibbolethlaw22_awake.f kj5).bind fun t231 => (some t231)) else (if (bt224.1 && (bt224.2.1.toList == ((((⟨#[91]⟩ : ByteArray) ++ t223) ++ (⟨#[93]⟩ : ByteArray)).toList) && (bt224.2.2.toList == (((⟨#[47]⟩ : ByteArray) ++ t196).toList)))) = true then ((shibbolethlaw22_awake.f kj5).bind fun t232 => (some t232)) else (some false))) else (if (bt224.1 && (bt224.2.1.toList == ((((⟨#[91]⟩ : ByteArray) ++ t223) ++ (⟨#[93]⟩ : ByteArray)).toList) && (bt224.2.2.toList == (((⟨#[47]⟩ : ByteArray) ++ t196).toList)))) = true then ((shibbolethlaw22_awake.f kj5).bind fun t233 => (some t233)) else (some false))) else (some false)))) else (none)) else (none)) else (none)) else (none)))) else (none)) else (none)) else (none)) else (none)))))) else (none))) else (none)) else (none)) else (none)))) else (none)))))) else (none))))))))) = some r := by first | (rw [hy151]; with_reducible exact H) | (have H2_ := (Option.bind_some _ _).symm.trans H; rw [hy151]; with_reducible exact H2_) | (have H2_ := (Option.bind_some _ _).symm.trans H; with_reducible exact H2_) | with_reducible exact H | (rw [hy151]; exact H) | exact H
        have Ny151 := Aside0.mk hy151
        clear hy151
        replace H := Option.bind_eq_some_iff.mp H
        obtain ⟨⟨t154, t155, t156, t157⟩, A150, H⟩ := H
        try dsimp only at H
        have A15 := Aside0.mk A150
        clear A150
        replace H := Option.bind_eq_some_iff.mp H
        obtain ⟨⟨t158, t159, t160, t161⟩, A160, H⟩ := H
        try dsimp only at H
        have A16 := Aside0.mk A160
        clear A160
        replace H := Option.bind_eq_some_iff.mp H
        obtain ⟨⟨t162, t163, t164, t165⟩, A170, H⟩ := H
        try dsimp only at H
        have A17 := Aside0.mk A170
        clear A170
        replace H := Option.bind_eq_some_iff.mp H
        obtain ⟨⟨t167, t168, t169, t170⟩, A180, H⟩ := H
        try dsimp only at H
        have A18 := Aside0.mk A180
        clear A180
        replace H := Option.bind_eq_some_iff.mp H
        obtain ⟨⟨t172, t173, t174, t175⟩, A190, H⟩ := H
        try dsimp only at H
        have A19 := Aside0.mk A190
        clear A190
        replace H := Option.bind_eq_some_iff.mp H
        obtain ⟨⟨t176, t177, t178, t179⟩, A200, H⟩ := H
        try dsimp only at H
        have A20 := Aside0.mk A200
        clear A200
        replace H := Option.bind_eq_some_iff.mp H
        obtain ⟨t180, A210, H⟩ := H
        try dsimp only at H
        have A21 := Aside0.mk A210
        clear A210
        by_cases c22 : 1 + t180.size ≤ 9223372036854775807
        · rw [if_pos c22] at H
          have c22b0 := eq_true c22
          have c22b1 : decide (1 + t180.size ≤ 9223372036854775807) = true := decide_eq_true c22
          try have c22b2 : (9223372036854775807 < 1 + t180.size) = False := eq_false (Nat.not_lt.2 c22)
          obtain ⟨ji23, hji23⟩ : ∃ j_ : ByteArray, ((⟨#[104]⟩ : ByteArray) ++ t180) = j_ := ⟨_, rfl⟩
          (first | rw [hji23] at H | simp only [hji23] at H | skip)
          obtain ⟨y181, hy181⟩ : ∃ y_ : List Int, y_ = (([63, 35] : List Int)) := ⟨_, rfl⟩
          replace H : ((octets_Of.f y181).bind fun bt184 => ((octets_Not.f bt184.1 bt184.2.1 bt184.2.2.1 bt184.2.2.2).bind fun bt188 => ((octets_And.f t162 t163 t164 t165 bt188.1 bt188.2.1 bt188.2.2.1 bt188.2.2.2).bind fun bt192 => ((shibbolethlaw22_only.f kj5 a3 bt192.1 bt192.2.1 bt192.2.2.1 bt192.2.2.2).bind fun t196 => (if 1 + t196.size ≤ 9223372036854775807 then ((octets_Range.f 48 57).bind fun bt197 => ((shibbolethlaw22_only.f kj5 a2 bt197.1 bt197.2.1 bt197.2.2.1 bt197.2.2.2).bind fun t201 => (if 1 + t201.size ≤ 9223372036854775807 then (if ((⟨#[58]⟩ : ByteArray) ++ t201).size + ((⟨#[47]⟩ : ByteArray) ++ t196).size ≤ 9223372036854775807 then (if (((⟨#[58]⟩ : ByteArray) ++ t201) ++ ((⟨#[47]⟩ : ByteArray) ++ t196)).size + 1 ≤ 9223372036854775807 then ((shibbolethlaw22_only.f kj5 a4 t162 t163 t164 t165).bind fun t202 => (if ((((⟨#[58]⟩ : ByteArray) ++ t201) ++ ((⟨#[47]⟩ : ByteArray) ++ t196)) ++ (⟨#[63]⟩ : ByteArray)).size + t202.size ≤ 9223372036854775807 then ((octets_Of.f (([47, 63, 35, 64] : List Int))).bind fun bt206 => ((octets_Not.f bt206.1 bt206.2.1 bt206.2.2.1 bt206.2.2.2).bind fun bt210 => ((octets_And.f t162 t163 t164 t165 bt210.1 bt210.2.1 bt210.2.2.1 bt210.2.2.2).bind fun bt214 => ((shibbolethlaw22_only.f kj5 a0 bt214.1 bt214.2.1 bt214.2.2.1 bt214.2.2.2).bind fun t218 => (if 4 + t218.size ≤ 9223372036854775807 then (if ((⟨#[120, 58, 47, 47]⟩ : ByteArray) ++ t218).size + 1 ≤ 9223372036854775807 then (if (((⟨#[120, 58, 47, 47]⟩ : ByteArray) ++ t218) ++ (⟨#[64]⟩ : ByteArray)).size + (ji23).size ≤ 9223372036854775807 then (if ((((⟨#[120, 58, 47, 47]⟩ : ByteArray) ++ t218) ++ (⟨#[64]⟩ : ByteArray)) ++ (ji23)).size + (((((⟨#[58]⟩ : ByteArray) ++ t201) ++ ((⟨#[47]⟩ : ByteArray) ++ t196)) ++ (⟨#[63]⟩ : ByteArray)) ++ t202).size ≤ 9223372036854775807 then ((octets_Of.f ([48, 49, 50, 51, 52, 53, 54, 55, 56, 57, 97, 98, 99, 100, 101, 102, 65, 66, 67, 68, 69, 70, 58, 46] : List Int)).bind fun bt219 => ((shibbolethlaw22_only.f kj5 a1 bt219.1 bt219.2.1 bt219.2.2.1 bt219.2.2.2).bind fun t223 => (if 1 + t223.size ≤ 9223372036854775807 then (if ((⟨#[91]⟩ : ByteArray) ++ t223).size + 1 ≤ 9223372036854775807 then (if 4 + (((⟨#[91]⟩ : ByteArray) ++ t223) ++ (⟨#[93]⟩ : ByteArray)).size ≤ 9223372036854775807 then (if ((⟨#[120, 58, 47, 47]⟩ : ByteArray) ++ (((⟨#[91]⟩ : ByteArray) ++ t223) ++ (⟨#[93]⟩ : ByteArray))).size + (((((⟨#[58]⟩ : ByteArray) ++ t201) ++ ((⟨#[47]⟩ : ByteArray) ++ t196)) ++ (⟨#[63]⟩ : ByteArray)) ++ t202).size ≤ 9223372036854775807 then ((curl_Parse.f kj5 (((⟨#[120, 58, 47, 47]⟩ : ByteArray) ++ (((⟨#[91]⟩ : ByteArray) ++ t223) ++ (⟨#[93]⟩ : ByteArray))) ++ (((((⟨#[58]⟩ : ByteArray) ++ t201) ++ ((⟨#[47]⟩ : ByteArray) ++ t196)) ++ (⟨#[63]⟩ : ByteArray)) ++ t202))).bind fun bt224 => ((curl_Parse.f kj5 (((((⟨#[120, 58, 47, 47]⟩ : ByteArray) ++ t218) ++ (⟨#[64]⟩ : ByteArray)) ++ (ji23)) ++ (((((⟨#[58]⟩ : ByteArray) ++ t201) ++ ((⟨#[47]⟩ : ByteArray) ++ t196)) ++ (⟨#[63]⟩ : ByteArray)) ++ t202))).bind fun bt228 => (if (bt228.1 && (bt228.2.1.toList == ((ji23).toList) && (bt228.2.2.toList == (((⟨#[47]⟩ : ByteArray) ++ t196).toList)))) = true then (if ((((⟨#[91]⟩ : ByteArray) ++ t223) ++ (⟨#[93]⟩ : ByteArray)).size : Int) = 2 then (if (!bt224.1 && (bt224.2.1.toList == ([] : List UInt8) && (bt224.2.2.toList == ([] : List UInt8)))) = true then ((shibbolethlaw22_awake.f kj5).bind fun t231 => (some t231)) else (if (bt224.1 && (bt224.2.1.toList == ((((⟨#[91]⟩ : ByteArray) ++ t223) ++ (⟨#[93]⟩ : ByteArray)).toList) && (bt224.2.2.toList == (((⟨#[47]⟩ : ByteArray) ++ t196).toList)))) = true then ((shibbolethlaw22_awake.f kj5).bind fun t232 => (some t232)) else (some false))) else (if (bt224.1 && (bt224.2.1.toList == ((((⟨#[91]⟩ : ByteArray) ++ t223) ++ (⟨#[93]⟩ : ByteArray)).toList) && (bt224.2.2.toList == (((⟨#[47]⟩ : ByteArray) ++ t196).toList)))) = true then ((shibbolethlaw22_awake.f kj5).bind fun t233 => (some t233)) else (some false))) else (some false)))) else (none)) else (none)) else (none)) else (none)))) else (none)) else (none)) else (none)) else (none)))))) else (none))) else (none)) else (none)) else (none)))) else (none)))))) = some r := by first | (rw [hy181]; with_reducible exact H) | (have H2_ := (Option.bind_some _ _).symm.trans H; rw [hy181]; with_reducible exact H2_) | (have H2_ := (Option.bind_some _ _).symm.trans H; with_reducible exact H2_) | with_reducible exact H | (rw [hy181]; exact H) | exact H
          have Ny181 := Aside0.mk hy181
          clear hy181
          replace H := Option.bind_eq_some_iff.mp H
          obtain ⟨⟨t184, t185, t186, t187⟩, A240, H⟩ := H
          try dsimp only at H
          have A24 := Aside0.mk A240
          clear A240
          replace H := Option.bind_eq_some_iff.mp H
          obtain ⟨⟨t188, t189, t190, t191⟩, A250, H⟩ := H
          try dsimp only at H
          have A25 := Aside0.mk A250
          clear A250
          replace H := Option.bind_eq_some_iff.mp H
          obtain ⟨⟨t192, t193, t194, t195⟩, A260, H⟩ := H
          try dsimp only at H
          have A26 := Aside0.mk A260
          clear A260
          replace H := Option.bind_eq_some_iff.mp H
          obtain ⟨t196, A270, H⟩ := H
          try dsimp only at H
          have A27 := Aside0.mk A270
          clear A270
          by_cases c28 : 1 + t196.size ≤ 9223372036854775807
          · rw [if_pos c28] at H
            have c28b0 := eq_true c28
            have c28b1 : decide (1 + t196.size ≤ 9223372036854775807) = true := decide_eq_true c28
            try have c28b2 : (9223372036854775807 < 1 + t196.size) = False := eq_false (Nat.not_lt.2 c28)
            obtain ⟨ji29, hji29⟩ : ∃ j_ : ByteArray, ((⟨#[47]⟩ : ByteArray) ++ t196) = j_ := ⟨_, rfl⟩
            (first | rw [hji29] at H | simp only [hji29] at H | skip)
            replace H := Option.bind_eq_some_iff.mp H
            obtain ⟨⟨t197, t198, t199, t200⟩, A300, H⟩ := H
            try dsimp only at H
            have A30 := Aside0.mk A300
            clear A300
            replace H := Option.bind_eq_some_iff.mp H
            obtain ⟨t201, A310, H⟩ := H
            try dsimp only at H
            have A31 := Aside0.mk A310
            clear A310
            by_cases c32 : 1 + t201.size ≤ 9223372036854775807
            · rw [if_pos c32] at H
              have c32b0 := eq_true c32
              have c32b1 : decide (1 + t201.size ≤ 9223372036854775807) = true := decide_eq_true c32
              try have c32b2 : (9223372036854775807 < 1 + t201.size) = False := eq_false (Nat.not_lt.2 c32)
              obtain ⟨ji33, hji33⟩ : ∃ j_ : ByteArray, ((⟨#[58]⟩ : ByteArray) ++ t201) = j_ := ⟨_, rfl⟩
              (first | rw [hji33] at H | simp only [hji33] at H | skip)
              by_cases c34 : (ji33).size + (ji29).size ≤ 9223372036854775807
              · rw [if_pos c34] at H
                have c34b0 := eq_true c34
                have c34b1 : decide ((ji33).size + (ji29).size ≤ 9223372036854775807) = true := decide_eq_true c34
                try have c34b2 : (9223372036854775807 < (ji33).size + (ji29).size) = False := eq_false (Nat.not_lt.2 c34)
                obtain ⟨ji35, hji35⟩ : ∃ j_ : ByteArray, ((ji33) ++ (ji29)) = j_ := ⟨_, rfl⟩
                (first | rw [hji35] at H | simp only [hji35] at H | skip)
                by_cases c36 : (ji35).size + 1 ≤ 9223372036854775807
                · rw [if_pos c36] at H
                  have c36b0 := eq_true c36
                  have c36b1 : decide ((ji35).size + 1 ≤ 9223372036854775807) = true := decide_eq_true c36
                  try have c36b2 : (9223372036854775807 < (ji35).size + 1) = False := eq_false (Nat.not_lt.2 c36)
                  obtain ⟨ji37, hji37⟩ : ∃ j_ : ByteArray, ((ji35) ++ (⟨#[63]⟩ : ByteArray)) = j_ := ⟨_, rfl⟩
                  (first | rw [hji37] at H | simp only [hji37] at H | skip)
                  replace H := Option.bind_eq_some_iff.mp H
                  obtain ⟨t202, A380, H⟩ := H
                  try dsimp only at H
                  have A38 := Aside0.mk A380
                  clear A380
                  by_cases c39 : (ji37).size + t202.size ≤ 9223372036854775807
                  · rw [if_pos c39] at H
                    have c39b0 := eq_true c39
                    have c39b1 : decide ((ji37).size + t202.size ≤ 9223372036854775807) = true := decide_eq_true c39
                    try have c39b2 : (9223372036854775807 < (ji37).size + t202.size) = False := eq_false (Nat.not_lt.2 c39)
                    obtain ⟨ji40, hji40⟩ : ∃ j_ : ByteArray, ((ji37) ++ t202) = j_ := ⟨_, rfl⟩
                    (first | rw [hji40] at H | simp only [hji40] at H | skip)
                    obtain ⟨y203, hy203⟩ : ∃ y_ : List Int, y_ = (([47, 63, 35, 64] : List Int)) := ⟨_, rfl⟩
                    replace H : ((octets_Of.f y203).bind fun bt206 => ((octets_Not.f bt206.1 bt206.2.1 bt206.2.2.1 bt206.2.2.2).bind fun bt210 => ((octets_And.f t162 t163 t164 t165 bt210.1 bt210.2.1 bt210.2.2.1 bt210.2.2.2).bind fun bt214 => ((shibbolethlaw22_only.f kj5 a0 bt214.1 bt214.2.1 bt214.2.2.1 bt214.2.2.2).bind fun t218 => (if 4 + t218.size ≤ 9223372036854775807 then (if ((⟨#[120, 58, 47, 47]⟩ : ByteArray) ++ t218).size + 1 ≤ 9223372036854775807 then (if (((⟨#[120, 58, 47, 47]⟩ : ByteArray) ++ t218) ++ (⟨#[64]⟩ : ByteArray)).size + (ji23).size ≤ 9223372036854775807 then (if ((((⟨#[120, 58, 47, 47]⟩ : ByteArray) ++ t218) ++ (⟨#[64]⟩ : ByteArray)) ++ (ji23)).size + (ji40).size ≤ 9223372036854775807 then ((octets_Of.f ([48, 49, 50, 51, 52, 53, 54, 55, 56, 57, 97, 98, 99, 100, 101, 102, 65, 66, 67, 68, 69, 70, 58, 46] : List Int)).bind fun bt219 => ((shibbolethlaw22_only.f kj5 a1 bt219.1 bt219.2.1 bt219.2.2.1 bt219.2.2.2).bind fun t223 => (if 1 + t223.size ≤ 9223372036854775807 then (if ((⟨#[91]⟩ : ByteArray) ++ t223).size + 1 ≤ 9223372036854775807 then (if 4 + (((⟨#[91]⟩ : ByteArray) ++ t223) ++ (⟨#[93]⟩ : ByteArray)).size ≤ 9223372036854775807 then (if ((⟨#[120, 58, 47, 47]⟩ : ByteArray) ++ (((⟨#[91]⟩ : ByteArray) ++ t223) ++ (⟨#[93]⟩ : ByteArray))).size + (ji40).size ≤ 9223372036854775807 then ((curl_Parse.f kj5 (((⟨#[120, 58, 47, 47]⟩ : ByteArray) ++ (((⟨#[91]⟩ : ByteArray) ++ t223) ++ (⟨#[93]⟩ : ByteArray))) ++ (ji40))).bind fun bt224 => ((curl_Parse.f kj5 (((((⟨#[120, 58, 47, 47]⟩ : ByteArray) ++ t218) ++ (⟨#[64]⟩ : ByteArray)) ++ (ji23)) ++ (ji40))).bind fun bt228 => (if (bt228.1 && (bt228.2.1.toList == ((ji23).toList) && (bt228.2.2.toList == ((ji29).toList)))) = true then (if ((((⟨#[91]⟩ : ByteArray) ++ t223) ++ (⟨#[93]⟩ : ByteArray)).size : Int) = 2 then (if (!bt224.1 && (bt224.2.1.toList == ([] : List UInt8) && (bt224.2.2.toList == ([] : List UInt8)))) = true then ((shibbolethlaw22_awake.f kj5).bind fun t231 => (some t231)) else (if (bt224.1 && (bt224.2.1.toList == ((((⟨#[91]⟩ : ByteArray) ++ t223) ++ (⟨#[93]⟩ : ByteArray)).toList) && (bt224.2.2.toList == ((ji29).toList)))) = true then ((shibbolethlaw22_awake.f kj5).bind fun t232 => (some t232)) else (some false))) else (if (bt224.1 && (bt224.2.1.toList == ((((⟨#[91]⟩ : ByteArray) ++ t223) ++ (⟨#[93]⟩ : ByteArray)).toList) && (bt224.2.2.toList == ((ji29).toList)))) = true then ((shibbolethlaw22_awake.f kj5).bind fun t233 => (some t233)) else (some false))) else (some false)))) else (none)) else (none)) else (none)) else (none)))) else (none)) else (none)) else (none)) else (none)))))) = some r := by first | (rw [hy203]; with_reducible exact H) | (have H2_ := (Option.bind_some _ _).symm.trans H; rw [hy203]; with_reducible exact H2_) | (have H2_ := (Option.bind_some _ _).symm.trans H; with_reducible exact H2_) | with_reducible exact H | (rw [hy203]; exact H) | exact H
                    have Ny203 := Aside0.mk hy203
                    clear hy203
                    replace H := Option.bind_eq_some_iff.mp H
                    obtain ⟨⟨t206, t207, t208, t209⟩, A410, H⟩ := H
                    try dsimp only at H
                    have A41 := Aside0.mk A410
                    clear A410
                    replace H := Option.bind_eq_some_iff.mp H
                    obtain ⟨⟨t210, t211, t212, t213⟩, A420, H⟩ := H
                    try dsimp only at H
                    have A42 := Aside0.mk A420
                    clear A420
                    replace H := Option.bind_eq_some_iff.mp H
                    obtain ⟨⟨t214, t215, t216, t217⟩, A430, H⟩ := H
                    try dsimp only at H
                    have A43 := Aside0.mk A430
                    clear A430
                    replace H := Option.bind_eq_some_iff.mp H
                    obtain ⟨t218, A440, H⟩ := H
                    try dsimp only at H
                    have A44 := Aside0.mk A440
                    clear A440
                    by_cases c45 : 4 + t218.size ≤ 9223372036854775807
                    · rw [if_pos c45] at H
                      have c45b0 := eq_true c45
                      have c45b1 : decide (4 + t218.size ≤ 9223372036854775807) = true := decide_eq_true c45
                      try have c45b2 : (9223372036854775807 < 4 + t218.size) = False := eq_false (Nat.not_lt.2 c45)
                      obtain ⟨ji46, hji46⟩ : ∃ j_ : ByteArray, ((⟨#[120, 58, 47, 47]⟩ : ByteArray) ++ t218) = j_ := ⟨_, rfl⟩
                      (first | rw [hji46] at H | simp only [hji46] at H | skip)
                      by_cases c47 : (ji46).size + 1 ≤ 9223372036854775807
                      · rw [if_pos c47] at H
                        have c47b0 := eq_true c47
                        have c47b1 : decide ((ji46).size + 1 ≤ 9223372036854775807) = true := decide_eq_true c47
                        try have c47b2 : (9223372036854775807 < (ji46).size + 1) = False := eq_false (Nat.not_lt.2 c47)
                        obtain ⟨ji48, hji48⟩ : ∃ j_ : ByteArray, ((ji46) ++ (⟨#[64]⟩ : ByteArray)) = j_ := ⟨_, rfl⟩
                        (first | rw [hji48] at H | simp only [hji48] at H | skip)
                        by_cases c49 : (ji48).size + (ji23).size ≤ 9223372036854775807
                        · rw [if_pos c49] at H
                          have c49b0 := eq_true c49
                          have c49b1 : decide ((ji48).size + (ji23).size ≤ 9223372036854775807) = true := decide_eq_true c49
                          try have c49b2 : (9223372036854775807 < (ji48).size + (ji23).size) = False := eq_false (Nat.not_lt.2 c49)
                          obtain ⟨ji50, hji50⟩ : ∃ j_ : ByteArray, ((ji48) ++ (ji23)) = j_ := ⟨_, rfl⟩
                          (first | rw [hji50] at H | simp only [hji50] at H | skip)
                          by_cases c51 : (ji50).size + (ji40).size ≤ 9223372036854775807
                          · rw [if_pos c51] at H
                            have c51b0 := eq_true c51
                            have c51b1 : decide ((ji50).size + (ji40).size ≤ 9223372036854775807) = true := decide_eq_true c51
                            try have c51b2 : (9223372036854775807 < (ji50).size + (ji40).size) = False := eq_false (Nat.not_lt.2 c51)
                            obtain ⟨ji52, hji52⟩ : ∃ j_ : ByteArray, ((ji50) ++ (ji40)) = j_ := ⟨_, rfl⟩
                            (first | rw [hji52] at H | simp only [hji52] at H | skip)
                            replace H := Option.bind_eq_some_iff.mp H
                            obtain ⟨⟨t219, t220, t221, t222⟩, A530, H⟩ := H
                            try dsimp only at H
                            have A53 := Aside0.mk A530
                            clear A530
                            replace H := Option.bind_eq_some_iff.mp H
                            obtain ⟨t223, A540, H⟩ := H
                            try dsimp only at H
                            have A54 := Aside0.mk A540
                            clear A540
                            by_cases c55 : 1 + t223.size ≤ 9223372036854775807
                            · rw [if_pos c55] at H
                              have c55b0 := eq_true c55
                              have c55b1 : decide (1 + t223.size ≤ 9223372036854775807) = true := decide_eq_true c55
                              try have c55b2 : (9223372036854775807 < 1 + t223.size) = False := eq_false (Nat.not_lt.2 c55)
                              obtain ⟨ji56, hji56⟩ : ∃ j_ : ByteArray, ((⟨#[91]⟩ : ByteArray) ++ t223) = j_ := ⟨_, rfl⟩
                              (first | rw [hji56] at H | simp only [hji56] at H | skip)
                              by_cases c57 : (ji56).size + 1 ≤ 9223372036854775807
                              · rw [if_pos c57] at H
                                have c57b0 := eq_true c57
                                have c57b1 : decide ((ji56).size + 1 ≤ 9223372036854775807) = true := decide_eq_true c57
                                try have c57b2 : (9223372036854775807 < (ji56).size + 1) = False := eq_false (Nat.not_lt.2 c57)
                                obtain ⟨ji58, hji58⟩ : ∃ j_ : ByteArray, ((ji56) ++ (⟨#[93]⟩ : ByteArray)) = j_ := ⟨_, rfl⟩
                                (first | rw [hji58] at H | simp only [hji58] at H | skip)
                                by_cases c59 : 4 + (ji58).size ≤ 9223372036854775807
                                · rw [if_pos c59] at H
                                  have c59b0 := eq_true c59
                                  have c59b1 : decide (4 + (ji58).size ≤ 9223372036854775807) = true := decide_eq_true c59
                                  try have c59b2 : (9223372036854775807 < 4 + (ji58).size) = False := eq_false (Nat.not_lt.2 c59)
                                  obtain ⟨ji60, hji60⟩ : ∃ j_ : ByteArray, ((⟨#[120, 58, 47, 47]⟩ : ByteArray) ++ (ji58)) = j_ := ⟨_, rfl⟩
                                  (first | rw [hji60] at H | simp only [hji60] at H | skip)
                                  by_cases c61 : (ji60).size + (ji40).size ≤ 9223372036854775807
                                  · rw [if_pos c61] at H
                                    have c61b0 := eq_true c61
                                    have c61b1 : decide ((ji60).size + (ji40).size ≤ 9223372036854775807) = true := decide_eq_true c61
                                    try have c61b2 : (9223372036854775807 < (ji60).size + (ji40).size) = False := eq_false (Nat.not_lt.2 c61)
                                    obtain ⟨ji62, hji62⟩ : ∃ j_ : ByteArray, ((ji60) ++ (ji40)) = j_ := ⟨_, rfl⟩
                                    (first | rw [hji62] at H | simp only [hji62] at H | skip)
                                    replace H := Option.bind_eq_some_iff.mp H
                                    obtain ⟨⟨t224, t225, t226⟩, A630, H⟩ := H
                                    try dsimp only at H
                                    have A63 := Aside0.mk A630
                                    clear A630
                                    replace H := Option.bind_eq_some_iff.mp H
                                    obtain ⟨⟨t228, t229, t230⟩, A640, H⟩ := H
                                    try dsimp only at H
                                    have A64 := Aside0.mk A640
                                    clear A640
                                    have HH_ := Aside0.mk H
                                    clear H
                                    try go_wp2_with (first | ((with_reducible refine gate_callee (f := 7) rfl ?_); refine goesL_ (some 43) rfl rfl Try.func7 (by kernel_rfl) rfl #[.int .u8 0, .int .u8 32] rfl (by (try simp only [List.map_toArray, List.map_cons, List.map_nil]); first | done | rfl | (simp only [List.length_drop, List.length_take]; rfl)) ?_; (with_reducible refine (octets_Range.calls 0 32 t147 t148 t149 t150 _ A14.out).mono ?_); rintro e w69 ⟨rfl, hb⟩; refine ⟨_, rfl, ?_⟩; have n0_ := Aside0.mk (below_step (by repeat (first | (with_reducible first | exact HB.out | apply below_alloc | apply pw_below_drewN | apply below_drew1) | exact HB.out)) hb); clear HB; have HB := n0_; clear n0_; (try clear hb); (try clear hb2); (try clear hk); (try clear hi)) | ((with_reducible refine gate_dst (N := 44) rfl ?_); (try (refine gate_guard (by rfl) ?_; dsimp only)); refine Kd.R_lit (Kd.int .u8) _ 5 ?hg (N := 44) ?hd (xs := ([127] : List Int)) (inner := [.int .u8 127]) (ok := fun _ => True) (okp := fun _ => True) ?hr ?hp (fun _ hk => hk) trivial (Below.refl _ _) (Nat.le_refl _) (by simp) ?_; (case hd => rfl); (case hg => rfl); (case hr => first | (go_simp; done) | (go_simp; rfl)); (case hp => exact (Reps.one (show Kd.M (Kd.int .u8) _ _ _ 127 [.int .u8 127] from rfl) (Reps.none _ _))); intro v152 w70 ho71 hb hg_ hnew_; clear hg_ hnew_; (first | rw [← Ny151.out] at ho71 | (simp only [Int.reduceToNat] at ho71; rw [← Ny151.out] at ho71)); have n0_ := Aside0.mk (Kd.R_lower ho71 (below_size (by repeat (first | (with_reducible first | exact HB.out | apply below_alloc | apply pw_below_drewN | apply below_drew1) | exact HB.out)))); have n1_ := Aside0.mk (below_step (by repeat (first | (with_reducible first | exact HB.out | apply below_alloc | apply pw_below_drewN | apply below_drew1) | exact HB.out)) hb); clear HB; have HO153 := n0_; have HB := n1_; clear n0_ n1_; clear hb ho71; obtain ⟨Ao72, co72, eo72⟩ := Kd.R_slice HO153.out; subst eo72) | ((with_reducible refine gate_callee (f := 8) rfl ?_); refine goesL_ (some 45) rfl rfl Try.func8 (by kernel_rfl) rfl #[.slice Ao72 y151.length co72] rfl (by (try simp only [List.map_toArray, List.map_cons, List.map_nil]); first | done | rfl | (simp only [List.length_drop, List.length_take]; rfl)) ?_; (with_reducible refine (octets_Of.calls _ _ y151 t154 t155 t156 t157 _ ?side1 ?side2 A15.out).mono ?_); (case side1 => repeat (first | exact (Kd.R_reads' HO153.out).2.2 | (with_reducible refine Kd.C_alloc ?_ _) | (with_reducible refine Kd.C_drewN ?_ _) | (with_reducible refine Kd.C_drew ?_))); (case side2 => exact (Kd.R_reads' HO153.out).2.1); rintro e w73 ⟨rfl, hb⟩; refine ⟨_, rfl, ?_⟩; have n0_ := Aside0.mk (Kd.R_below (by (with_reducible repeat (first | apply Kd.R_alloc | apply Kd.R_drewN | apply Kd.R_drew)); exact HO153.out) hb); have n1_ := Aside0.mk (below_step (by repeat (first | (with_reducible first | exact HB.out | apply below_alloc | apply pw_below_drewN | apply below_drew1) | exact HB.out)) hb); clear HO153; clear HB; have HO153 := n0_; have HB := n1_; clear n0_ n1_; (try clear hb); (try clear hb2); (try clear hk); (try clear hi)) | ((with_reducible refine gate_callee (f := 6) rfl ?_); refine goesL_ (some 46) rfl rfl Try.func6 (by kernel_rfl) rfl #[.agg #[.int .u64 t147, .int .u64 t148, .int .u64 t149, .int .u64 t150], .agg #[.int .u64 t154, .int .u64 t155, .int .u64 t156, .int .u64 t157]] rfl (by (try simp only [List.map_toArray, List.map_cons, List.map_nil]); first | done | rfl | (simp only [List.length_drop, List.length_take]; rfl)) ?_; (with_reducible refine (octets_Or.calls t147 t148 t149 t150 t154 t155 t156 t157 t158 t159 t160 t161 _ A16.out).mono ?_); rintro e w74 ⟨rfl, hb⟩; refine ⟨_, rfl, ?_⟩; have n0_ := Aside0.mk (Kd.R_below (by (with_reducible repeat (first | apply Kd.R_alloc | apply Kd.R_drewN | apply Kd.R_drew)); exact HO153.out) hb); have n1_ := Aside0.mk (below_step (by repeat (first | (with_reducible first | exact HB.out | apply below_alloc | apply pw_below_drewN | apply below_drew1) | exact HB.out)) hb); clear HO153; clear HB; have HO153 := n0_; have HB := n1_; clear n0_ n1_; (try clear hb); (try clear hb2); (try clear hk); (try clear hi)) | ((with_reducible refine gate_callee (f := 5) rfl ?_); refine goesL_ (some 47) rfl rfl Try.func5 (by kernel_rfl) rfl #[.agg #[.int .u64 t158, .int .u64 t159, .int .u64 t160, .int .u64 t161]] rfl (by (try simp only [List.map_toArray, List.map_cons, List.map_nil]); first | done | rfl | (simp only [List.length_drop, List.length_take]; rfl)) ?_; (with_reducible refine (octets_Not.calls t158 t159 t160 t161 t162 t163 t164 t165 _ A17.out).mono ?_); rintro e w75 ⟨rfl, hb⟩; refine ⟨_, rfl, ?_⟩; have n0_ := Aside0.mk (Kd.R_below (by (with_reducible repeat (first | apply Kd.R_alloc | apply Kd.R_drewN | apply Kd.R_drew)); exact HO153.out) hb); have n1_ := Aside0.mk (below_step (by repeat (first | (with_reducible first | exact HB.out | apply below_alloc | apply pw_below_drewN | apply below_drew1) | exact HB.out)) hb); clear HO153; clear HB; have HO153 := n0_; have HB := n1_; clear n0_ n1_; (try clear hb); (try clear hb2); (try clear hk); (try clear hi)) | ((with_reducible refine gate_dst (N := 11) rfl ?_); (try (refine gate_guard (by rfl) ?_; dsimp only)); refine box_event ?hg (N := 11) ?hd (cs := #[.int .u64 0, .int .u64 0, .int .u64 0, .int .u64 0]) (t := 25) ?hr ?_; (case hd => rfl); (case hg => rfl); (case hr => first | (go_simp; done) | (go_simp; rfl)); intro gb166 hg w76 hbox hb; have n0_ := Aside0.mk (Kd.R_below (by (with_reducible repeat (first | apply Kd.R_alloc | apply Kd.R_drewN | apply Kd.R_drew)); exact HO153.out) hb); have n1_ := Aside0.mk (below_step (by repeat (first | (with_reducible first | exact HB.out | apply below_alloc | apply pw_below_drewN | apply below_drew1) | exact HB.out)) hb); have n2_ := Aside0.mk (hbox); have n3_ := Aside0.mk ((by rw [hg]; exact (below_size (by repeat (first | (with_reducible first | exact HB.out | apply below_alloc | apply pw_below_drewN | apply below_drew1) | exact HB.out))) : w.heap.size ≤ gb166)); have n4_ := Aside0.mk ((by rw [hg]; exact (below_size (by repeat (first | (with_reducible first | exact HB.out | apply below_alloc | apply pw_below_drewN | apply below_drew1) | exact HB.out))) : w.heap.size ≤ gb166)); clear HO153; clear HB; have HO153 := n0_; have HB := n1_; have BK166 := n2_; have GW166 := n3_; have GE166 := n4_; clear n0_ n1_ n2_ n3_ n4_; clear hb hbox hg; have hcz77_0 : w76.cell? ⟨gb166, 0, none⟩ = some (.int .u64 0) := (blk_cell BK166.out 0).trans rfl; have hcz77_1 : w76.cell? ⟨gb166, 1, none⟩ = some (.int .u64 0) := (blk_cell BK166.out 1).trans rfl; have hcz77_2 : w76.cell? ⟨gb166, 2, none⟩ = some (.int .u64 0) := (blk_cell BK166.out 2).trans rfl; have hcz77_3 : w76.cell? ⟨gb166, 3, none⟩ = some (.int .u64 0) := (blk_cell BK166.out 3).trans rfl; have hfz77_0 := blk_frozen BK166.out 0; have hfz77_1 := blk_frozen BK166.out 1; have hfz77_2 := blk_frozen BK166.out 2; have hfz77_3 := blk_frozen BK166.out 3) | ((with_reducible refine gate_callee (f := 8) rfl ?_); refine goesL_ (some 50) rfl rfl Try.func8 (by kernel_rfl) rfl #[.slice _ _ _] rfl (by (try simp only [List.map_toArray, List.map_cons, List.map_nil]); first | done | rfl | (simp only [List.length_drop, List.length_take]; rfl)) ?_; (with_reducible refine (octets_Of.callsn _ _ ([47, 58, 35, 63, 33, 64, 123, 125, 91, 93, 92, 36, 39, 34, 94, 96, 42, 60, 62, 61, 59, 44] : List Int) t167 t168 t169 t170 _ ?side1 ?side2 A18.out).mono ?_); (case side1 => repeat (first | exact lit8_C _ _ _ _ | exact lit8_Cb _ _ _ _ _ (by simp [go_sem]) | (with_reducible refine Kd.C_alloc ?_ _) | (with_reducible refine Kd.C_drewN ?_ _) | (with_reducible refine Kd.C_drew ?_))); (case side2 => decide); rintro e w78 ⟨rfl, hb⟩; refine ⟨_, rfl, ?_⟩; have n0_ := Aside0.mk (Kd.R_below (by (with_reducible repeat (first | apply Kd.R_alloc | apply Kd.R_drewN | apply Kd.R_drew)); exact (Kd.R_mono (Kd.R_far (p := ⟨gb166, 3, none⟩) (Kd.R_far (p := ⟨gb166, 2, none⟩) (Kd.R_far (p := ⟨gb166, 1, none⟩) (Kd.R_far (p := ⟨gb166, 0, none⟩) (Kd.R_types HO153.out BK166.out (by decide)) (fun _ hk => hk.2) (.int .u64 t162)) (fun _ hk => hk.2) (.int .u64 t163)) (fun _ hk => hk.2) (.int .u64 t164)) (fun _ hk => hk.2) (.int .u64 t165)) (fun _ h_ => h_.1))) hb); have n1_ := Aside0.mk (blk_below (g := gb166) (o := .cells #[.int .u64 t162, .int .u64 t163, .int .u64 t164, .int .u64 t165] 25 (0, 0)) (by (with_reducible repeat (first | refine blk_drewN ?_ _ | refine blk_drew ?_ | refine blk_alloc ?_ _)); refine blk_put (cs := #[.int .u64 t162, .int .u64 t163, .int .u64 t164, .int .u64 0]) ?_ 3 _ rfl; (with_reducible repeat (first | refine blk_drewN ?_ _ | refine blk_drew ?_ | refine blk_alloc ?_ _)); refine blk_put (cs := #[.int .u64 t162, .int .u64 t163, .int .u64 0, .int .u64 0]) ?_ 2 _ rfl; (with_reducible repeat (first | refine blk_drewN ?_ _ | refine blk_drew ?_ | refine blk_alloc ?_ _)); refine blk_put (cs := #[.int .u64 t162, .int .u64 0, .int .u64 0, .int .u64 0]) ?_ 1 _ rfl; (with_reducible repeat (first | refine blk_drewN ?_ _ | refine blk_drew ?_ | refine blk_alloc ?_ _)); refine blk_put (cs := #[.int .u64 0, .int .u64 0, .int .u64 0, .int .u64 0]) ?_ 0 _ rfl; (with_reducible repeat (first | refine blk_drewN ?_ _ | refine blk_drew ?_ | refine blk_alloc ?_ _)); exact BK166.out) hb); have n2_ := Aside0.mk (below_step (by repeat (first | (with_reducible first | exact HB.out | apply below_alloc | apply pw_below_drewN | apply below_drew1 | refine below_set ?_ GE166.out) | exact HB.out)) hb); clear HO153; clear BK166; clear HB; have HO153 := n0_; have BK166 := n1_; have HB := n2_; clear n0_ n1_ n2_; (try clear hb); (try clear hb2); (try clear hk); (try clear hi)) | ((with_reducible refine gate_dst (N := 12) rfl ?_); (try (refine gate_guard (by rfl) ?_; dsimp only)); refine box_event ?hg (N := 12) ?hd (cs := #[.int .u64 0, .int .u64 0, .int .u64 0, .int .u64 0]) (t := 25) ?hr ?_; (case hd => rfl); (case hg => rfl); (case hr => first | (go_simp; done) | (go_simp; rfl)); intro gb171 hg w79 hbox hb; have n0_ := Aside0.mk (Kd.R_below (by (with_reducible repeat (first | apply Kd.R_alloc | apply Kd.R_drewN | apply Kd.R_drew)); exact HO153.out) hb); have n1_ := Aside0.mk (blk_below (g := gb166) (o := .cells #[.int .u64 t162, .int .u64 t163, .int .u64 t164, .int .u64 t165] 25 (0, 0)) (by (with_reducible repeat (first | refine blk_drewN ?_ _ | refine blk_drew ?_ | refine blk_alloc ?_ _)); exact BK166.out) hb); have n2_ := Aside0.mk (below_step (by repeat (first | (with_reducible first | exact HB.out | apply below_alloc | apply pw_below_drewN | apply below_drew1 | refine below_set ?_ GE166.out) | exact HB.out)) hb); have n3_ := Aside0.mk (hbox); have n4_ := Aside0.mk ((by rw [hg]; exact (below_size (by repeat (first | (with_reducible first | exact HB.out | apply below_alloc | apply pw_below_drewN | apply below_drew1 | refine below_set ?_ GE166.out) | exact HB.out))) : w.heap.size ≤ gb171)); have n5_ := Aside0.mk ((by rw [hg]; exact (below_size (by repeat (first | (with_reducible first | exact HB.out | apply below_alloc | apply pw_below_drewN | apply below_drew1 | refine below_set ?_ GE166.out) | exact HB.out))) : w.heap.size ≤ gb171)); have n6_ := Aside0.mk ((by rw [hg]; exact Nat.ne_of_lt (blk_lt (g := gb166) (o := .cells #[.int .u64 t162, .int .u64 t163, .int .u64 t164, .int .u64 t165] 25 (0, 0)) (by (with_reducible repeat (first | refine blk_drewN ?_ _ | refine blk_drew ?_ | refine blk_alloc ?_ _)); exact BK166.out)) : gb166 ≠ gb171)); have n7_ := Aside0.mk ((by rw [hg]; exact Nat.ne_of_gt (blk_lt (g := gb166) (o := .cells #[.int .u64 t162, .int .u64 t163, .int .u64 t164, .int .u64 t165] 25 (0, 0)) (by (with_reducible repeat (first | refine blk_drewN ?_ _ | refine blk_drew ?_ | refine blk_alloc ?_ _)); exact BK166.out)) : gb171 ≠ gb166)); clear HO153; clear BK166; clear HB; have HO153 := n0_; have BK166 := n1_; have HB := n2_; have BK171 := n3_; have GW171 := n4_; have GE171 := n5_; have NB166_171 := n6_; have NB171_166 := n7_; clear n0_ n1_ n2_ n3_ n4_ n5_ n6_ n7_; clear hb hbox hg; have hnb80 := NB171_166.out; have hnc80 := NB166_171.out; have hcz81_0 : w79.cell? ⟨gb171, 0, none⟩ = some (.int .u64 0) := (blk_cell BK171.out 0).trans rfl; have hcz81_1 : w79.cell? ⟨gb171, 1, none⟩ = some (.int .u64 0) := (blk_cell BK171.out 1).trans rfl; have hcz81_2 : w79.cell? ⟨gb171, 2, none⟩ = some (.int .u64 0) := (blk_cell BK171.out 2).trans rfl; have hcz81_3 : w79.cell? ⟨gb171, 3, none⟩ = some (.int .u64 0) := (blk_cell BK171.out 3).trans rfl; have hfz81_0 := blk_frozen BK171.out 0; have hfz81_1 := blk_frozen BK171.out 1; have hfz81_2 := blk_frozen BK171.out 2; have hfz81_3 := blk_frozen BK171.out 3))
                                    have n0_ : Aside0 (Kd.R (Kd.int .u8) 5 ((((w79.setCell ⟨gb171, 0, none⟩ (.int .u64 t167)).setCell ⟨gb171, 1, none⟩ (.int .u64 t168)).setCell ⟨gb171, 2, none⟩ (.int .u64 t169)).setCell ⟨gb171, 3, none⟩ (.int .u64 t170)) w.heap.size (fun _ => True) (.slice Ao72 y151.length co72) y151) := ⟨by (with_reducible repeat (first | apply Kd.R_alloc | apply Kd.R_drewN | apply Kd.R_drew)); exact Kd.R_mono (Kd.R_far (p := ⟨gb171, 3, none⟩) (Kd.R_far (p := ⟨gb171, 2, none⟩) (Kd.R_far (p := ⟨gb171, 1, none⟩) (Kd.R_far (p := ⟨gb171, 0, none⟩) (Kd.R_types HO153.out BK171.out (by decide)) (fun _ hk => hk.2) (.int .u64 t167)) (fun _ hk => hk.2) (.int .u64 t168)) (fun _ hk => hk.2) (.int .u64 t169)) (fun _ hk => hk.2) (.int .u64 t170)) (fun _ hk => trivial)⟩
                                    have n1_ : Aside0 (((((w79.setCell ⟨gb171, 0, none⟩ (.int .u64 t167)).setCell ⟨gb171, 1, none⟩ (.int .u64 t168)).setCell ⟨gb171, 2, none⟩ (.int .u64 t169)).setCell ⟨gb171, 3, none⟩ (.int .u64 t170)).heap[gb166]? = some (.cells #[.int .u64 t162, .int .u64 t163, .int .u64 t164, .int .u64 t165] 25 (0, 0))) := ⟨by (with_reducible repeat (first | refine blk_drewN ?_ _ | refine blk_drew ?_ | refine blk_alloc ?_ _)); refine blk_far ?_ NB166_171.out _; (with_reducible repeat (first | refine blk_drewN ?_ _ | refine blk_drew ?_ | refine blk_alloc ?_ _)); refine blk_far ?_ NB166_171.out _; (with_reducible repeat (first | refine blk_drewN ?_ _ | refine blk_drew ?_ | refine blk_alloc ?_ _)); refine blk_far ?_ NB166_171.out _; (with_reducible repeat (first | refine blk_drewN ?_ _ | refine blk_drew ?_ | refine blk_alloc ?_ _)); refine blk_far ?_ NB166_171.out _; (with_reducible repeat (first | refine blk_drewN ?_ _ | refine blk_drew ?_ | refine blk_alloc ?_ _)); exact BK166.out⟩
                                    have n2_ : Aside0 (((((w79.setCell ⟨gb171, 0, none⟩ (.int .u64 t167)).setCell ⟨gb171, 1, none⟩ (.int .u64 t168)).setCell ⟨gb171, 2, none⟩ (.int .u64 t169)).setCell ⟨gb171, 3, none⟩ (.int .u64 t170)).heap[gb171]? = some (.cells #[.int .u64 t167, .int .u64 t168, .int .u64 t169, .int .u64 t170] 25 (0, 0))) := ⟨by (with_reducible repeat (first | refine blk_drewN ?_ _ | refine blk_drew ?_ | refine blk_alloc ?_ _)); refine blk_put (cs := #[.int .u64 t167, .int .u64 t168, .int .u64 t169, .int .u64 0]) ?_ 3 _ rfl; (with_reducible repeat (first | refine blk_drewN ?_ _ | refine blk_drew ?_ | refine blk_alloc ?_ _)); refine blk_put (cs := #[.int .u64 t167, .int .u64 t168, .int .u64 0, .int .u64 0]) ?_ 2 _ rfl; (with_reducible repeat (first | refine blk_drewN ?_ _ | refine blk_drew ?_ | refine blk_alloc ?_ _)); refine blk_put (cs := #[.int .u64 t167, .int .u64 0, .int .u64 0, .int .u64 0]) ?_ 1 _ rfl; (with_reducible repeat (first | refine blk_drewN ?_ _ | refine blk_drew ?_ | refine blk_alloc ?_ _)); refine blk_put (cs := #[.int .u64 0, .int .u64 0, .int .u64 0, .int .u64 0]) ?_ 0 _ rfl; (with_reducible repeat (first | refine blk_drewN ?_ _ | refine blk_drew ?_ | refine blk_alloc ?_ _)); exact BK171.out⟩
                                    have n3_ : Aside0 (Below w.heap.size w ((((w79.setCell ⟨gb171, 0, none⟩ (.int .u64 t167)).setCell ⟨gb171, 1, none⟩ (.int .u64 t168)).setCell ⟨gb171, 2, none⟩ (.int .u64 t169)).setCell ⟨gb171, 3, none⟩ (.int .u64 t170))) := ⟨by repeat (first | (with_reducible first | exact HB.out | apply below_alloc | apply pw_below_drewN | apply below_drew1 | refine below_set ?_ GE166.out | refine below_set ?_ GE171.out) | exact HB.out)⟩
                                    (try clear HO153)
                                    (try clear BK166)
                                    (try clear BK171)
                                    (try clear HB)
                                    generalize ((((w79.setCell ⟨gb171, 0, none⟩ (.int .u64 t167)).setCell ⟨gb171, 1, none⟩ (.int .u64 t168)).setCell ⟨gb171, 2, none⟩ (.int .u64 t169)).setCell ⟨gb171, 3, none⟩ (.int .u64 t170)) = w82 at n0_ n1_ n2_ n3_ ⊢
                                    have HO153 := n0_
                                    have BK166 := n1_
                                    have BK171 := n2_
                                    have HB := n3_
                                    clear n0_ n1_ n2_ n3_
                                    have n0_ := Aside0.mk (Kd.R_drew HO153.out)
                                    have n1_ := Aside0.mk (blk_drew BK166.out)
                                    have n2_ := Aside0.mk (blk_drew BK171.out)
                                    have n3_ := Aside0.mk (below_drew1 HB.out)
                                    clear HO153
                                    clear BK166
                                    clear BK171
                                    clear HB
                                    have HO153 := n0_
                                    have BK166 := n1_
                                    have BK171 := n2_
                                    have HB := n3_
                                    clear n0_ n1_ n2_ n3_
                                    refine start_ (n := 8) (S := fun w' => w'.cell? ⟨gb166, 0, none⟩ = some (.int .u64 t162) ∧ w'.cell? ⟨gb166, 1, none⟩ = some (.int .u64 t163) ∧ w'.cell? ⟨gb166, 2, none⟩ = some (.int .u64 t164) ∧ w'.cell? ⟨gb166, 3, none⟩ = some (.int .u64 t165) ∧ w'.cell? ⟨gb171, 0, none⟩ = some (.int .u64 t167) ∧ w'.cell? ⟨gb171, 1, none⟩ = some (.int .u64 t168) ∧ w'.cell? ⟨gb171, 2, none⟩ = some (.int .u64 t169) ∧ w'.cell? ⟨gb171, 3, none⟩ = some (.int .u64 t170)) (ds := []) #[false, false, false, false, false, false, false, false] (by kernel_rfl) rfl rfl ⟨(blk_cell BK166.out 0).trans rfl, (blk_cell BK166.out 1).trans rfl, (blk_cell BK166.out 2).trans rfl, (blk_cell BK166.out 3).trans rfl, (blk_cell BK171.out 0).trans rfl, (blk_cell BK171.out 1).trans rfl, (blk_cell BK171.out 2).trans rfl, (blk_cell BK171.out 3).trans rfl⟩ (fun hHeld => ?_); refine with_tabW shibbolethlaw22_CurlBuilt.tab5 shibbolethlaw22_CurlBuilt.bits5 (fun HT_ HW_ => ?_)
                                    generalize w82.drew = w83 at HO153 BK166 BK171 HB hHeld ⊢
                                    refine pure_ (i := 0) (N := some 51) (v := ?_) (a' := ?_) #[true, false, false, false, false, false, false, false] rfl rfl (any_of HT_.out (by kernel_rfl)) (fun _ _ _ h => h) (Or.inl ⟨by rfl, ?_⟩) ?_ ?_
                                    rotate_left
                                    · intro w'
                                      go_simp
                                      with_reducible rfl
                                    rotate_left
                                    · simp only [Act.put, List.setIfInBounds_toArray, List.set_cons_zero, List.set_cons_succ, i64_w, i32_w]
                                      rfl
                                    refine take_ (i := 1) (N := some 52) (v := ?_) (a' := ?_) #[true, true, false, false, false, false, false, false] rfl rfl (take_ofW HT_.out HW_.out (by kernel_rfl)) (fun _ _ _ h => h) (Or.inl ⟨by rfl, ?_⟩) hHeld ?_ ?_
                                    rotate_left
                                    · rintro w' ⟨s0, s1, s2, s3, s4, s5, s6, s7⟩
                                      go_simp
                                      with_reducible rfl
                                    rotate_left
                                    · simp only [Act.put, List.setIfInBounds_toArray, List.set_cons_zero, List.set_cons_succ, i64_w, i32_w]
                                      rfl
                                    refine take_ (i := 2) (N := some 53) (v := ?_) (a' := ?_) #[true, true, true, false, false, false, false, false] rfl rfl (take_ofW HT_.out HW_.out (by kernel_rfl)) (fun _ _ _ h => h) (Or.inl ⟨by rfl, ?_⟩) hHeld ?_ ?_
                                    rotate_left
                                    · rintro w' ⟨s0, s1, s2, s3, s4, s5, s6, s7⟩
                                      go_simp
                                      with_reducible rfl
                                    rotate_left
                                    · simp only [Act.put, List.setIfInBounds_toArray, List.set_cons_zero, List.set_cons_succ, i64_w, i32_w]
                                      rfl
                                    refine one_ (i := 3) (N := some 54) #[true, true, true, true, false, false, false, false] rfl rfl (one_of HT_.out (by kernel_rfl)) (by decide) (fun K hK => ?_)
                                    refine goes_ Try.func5 (by kernel_rfl) rfl #[.agg #[.int .u64 t167, .int .u64 t168, .int .u64 t169, .int .u64 t170]] (by rfl) rfl rfl (by (try simp only [List.map_toArray, List.map_cons, List.map_nil]); first | done | rfl | (simp only [List.length_drop, List.length_take]; rfl)) ?_
                                    with_reducible refine (octets_Not.calls t167 t168 t169 t170 t172 t173 t174 t175 _ A19.out).mono ?_
                                    rintro e w84 ⟨rfl, hb⟩
                                    refine ⟨_, rfl, ?_⟩
                                    have n0_ := Aside0.mk (Kd.R_below (by (with_reducible repeat (first | apply Kd.R_alloc | apply Kd.R_drewN | apply Kd.R_drew)); exact HO153.out) hb)
                                    have n1_ := Aside0.mk (blk_below (g := gb166) (o := .cells #[.int .u64 t162, .int .u64 t163, .int .u64 t164, .int .u64 t165] 25 (0, 0)) (by (with_reducible repeat (first | refine blk_drewN ?_ _ | refine blk_drew ?_ | refine blk_alloc ?_ _)); exact BK166.out) hb)
                                    have n2_ := Aside0.mk (blk_below (g := gb171) (o := .cells #[.int .u64 t167, .int .u64 t168, .int .u64 t169, .int .u64 t170] 25 (0, 0)) (by (with_reducible repeat (first | refine blk_drewN ?_ _ | refine blk_drew ?_ | refine blk_alloc ?_ _)); exact BK171.out) hb)
                                    have n3_ := Aside0.mk (below_step (by repeat (first | (with_reducible first | exact HB.out | apply below_alloc | apply pw_below_drewN | apply below_drew1 | refine below_set ?_ GE166.out | refine below_set ?_ GE171.out) | exact HB.out)) hb)
                                    clear HO153
                                    clear BK166
                                    clear BK171
                                    clear HB
                                    have HO153 := n0_
                                    have BK166 := n1_
                                    have BK171 := n2_
                                    have HB := n3_
                                    clear n0_ n1_ n2_ n3_
                                    (try clear hb)
                                    (try clear hb2)
                                    (try clear hk)
                                    (try clear hi)
                                    refine hK.out _ _ ⟨(blk_cell BK166.out 0).trans rfl, (blk_cell BK166.out 1).trans rfl, (blk_cell BK166.out 2).trans rfl, (blk_cell BK166.out 3).trans rfl, (blk_cell BK171.out 0).trans rfl, (blk_cell BK171.out 1).trans rfl, (blk_cell BK171.out 2).trans rfl, (blk_cell BK171.out 3).trans rfl⟩ (fun hHeld => ?_)
                                    clear hK K
                                    refine norm_ (a' := ?_) ?_ ?_
                                    rotate_left
                                    · show Act.put _ (some 54) _ = _
                                      simp only [Act.put, List.setIfInBounds_toArray, List.set_cons_zero, List.set_cons_succ, i64_w, i32_w]
                                      rfl
                                    refine one_ (i := 4) (N := some 55) #[true, true, true, true, true, false, false, false] rfl rfl (one_of HT_.out (by kernel_rfl)) (by decide) (fun K hK => ?_)
                                    refine goes_ Try.func10 (by kernel_rfl) rfl #[.agg #[.int .u64 t162, .int .u64 t163, .int .u64 t164, .int .u64 t165], .agg #[.int .u64 t172, .int .u64 t173, .int .u64 t174, .int .u64 t175]] (by rfl) rfl rfl (by (try simp only [List.map_toArray, List.map_cons, List.map_nil]); first | done | rfl | (simp only [List.length_drop, List.length_take]; rfl)) ?_
                                    with_reducible refine (octets_And.calls t162 t163 t164 t165 t172 t173 t174 t175 t176 t177 t178 t179 _ A20.out).mono ?_
                                    rintro e w85 ⟨rfl, hb⟩
                                    refine ⟨_, rfl, ?_⟩
                                    have n0_ := Aside0.mk (Kd.R_below (by (with_reducible repeat (first | apply Kd.R_alloc | apply Kd.R_drewN | apply Kd.R_drew)); exact HO153.out) hb)
                                    have n1_ := Aside0.mk (blk_below (g := gb166) (o := .cells #[.int .u64 t162, .int .u64 t163, .int .u64 t164, .int .u64 t165] 25 (0, 0)) (by (with_reducible repeat (first | refine blk_drewN ?_ _ | refine blk_drew ?_ | refine blk_alloc ?_ _)); exact BK166.out) hb)
                                    have n2_ := Aside0.mk (blk_below (g := gb171) (o := .cells #[.int .u64 t167, .int .u64 t168, .int .u64 t169, .int .u64 t170] 25 (0, 0)) (by (with_reducible repeat (first | refine blk_drewN ?_ _ | refine blk_drew ?_ | refine blk_alloc ?_ _)); exact BK171.out) hb)
                                    have n3_ := Aside0.mk (below_step (by repeat (first | (with_reducible first | exact HB.out | apply below_alloc | apply pw_below_drewN | apply below_drew1 | refine below_set ?_ GE166.out | refine below_set ?_ GE171.out) | exact HB.out)) hb)
                                    clear HO153
                                    clear BK166
                                    clear BK171
                                    clear HB
                                    have HO153 := n0_
                                    have BK166 := n1_
                                    have BK171 := n2_
                                    have HB := n3_
                                    clear n0_ n1_ n2_ n3_
                                    (try clear hb)
                                    (try clear hb2)
                                    (try clear hk)
                                    (try clear hi)
                                    refine hK.out _ _ ⟨(blk_cell BK166.out 0).trans rfl, (blk_cell BK166.out 1).trans rfl, (blk_cell BK166.out 2).trans rfl, (blk_cell BK166.out 3).trans rfl, (blk_cell BK171.out 0).trans rfl, (blk_cell BK171.out 1).trans rfl, (blk_cell BK171.out 2).trans rfl, (blk_cell BK171.out 3).trans rfl⟩ (fun hHeld => ?_)
                                    clear hK K
                                    refine norm_ (a' := ?_) ?_ ?_
                                    rotate_left
                                    · show Act.put _ (some 55) _ = _
                                      simp only [Act.put, List.setIfInBounds_toArray, List.set_cons_zero, List.set_cons_succ, i64_w, i32_w]
                                      rfl
                                    refine one_ (i := 5) (N := some 56) #[true, true, true, true, true, true, false, false] rfl rfl (one_of HT_.out (by kernel_rfl)) (by decide) (fun K hK => ?_)
                                    refine goes_ Try.func9 (by kernel_rfl) rfl #[.string a1, .agg #[.int .u64 t176, .int .u64 t177, .int .u64 t178, .int .u64 t179]] (by rfl) rfl rfl (by (try simp only [List.map_toArray, List.map_cons, List.map_nil]); first | done | rfl | (simp only [List.length_drop, List.length_take]; rfl)) ?_
                                    with_reducible refine (shibbolethlaw22_only.calls kj5 a1 t176 t177 t178 t179 t180 _ A21.out).mono ?_
                                    rintro e w86 ⟨rfl, hb⟩
                                    refine ⟨_, rfl, ?_⟩
                                    have n0_ := Aside0.mk (Kd.R_below (by (with_reducible repeat (first | apply Kd.R_alloc | apply Kd.R_drewN | apply Kd.R_drew)); exact HO153.out) hb)
                                    have n1_ := Aside0.mk (blk_below (g := gb166) (o := .cells #[.int .u64 t162, .int .u64 t163, .int .u64 t164, .int .u64 t165] 25 (0, 0)) (by (with_reducible repeat (first | refine blk_drewN ?_ _ | refine blk_drew ?_ | refine blk_alloc ?_ _)); exact BK166.out) hb)
                                    have n2_ := Aside0.mk (blk_below (g := gb171) (o := .cells #[.int .u64 t167, .int .u64 t168, .int .u64 t169, .int .u64 t170] 25 (0, 0)) (by (with_reducible repeat (first | refine blk_drewN ?_ _ | refine blk_drew ?_ | refine blk_alloc ?_ _)); exact BK171.out) hb)
                                    have n3_ := Aside0.mk (below_step (by repeat (first | (with_reducible first | exact HB.out | apply below_alloc | apply pw_below_drewN | apply below_drew1 | refine below_set ?_ GE166.out | refine below_set ?_ GE171.out) | exact HB.out)) hb)
                                    clear HO153
                                    clear BK166
                                    clear BK171
                                    clear HB
                                    have HO153 := n0_
                                    have BK166 := n1_
                                    have BK171 := n2_
                                    have HB := n3_
                                    clear n0_ n1_ n2_ n3_
                                    (try clear hb)
                                    (try clear hb2)
                                    (try clear hk)
                                    (try clear hi)
                                    refine hK.out _ _ ⟨(blk_cell BK166.out 0).trans rfl, (blk_cell BK166.out 1).trans rfl, (blk_cell BK166.out 2).trans rfl, (blk_cell BK166.out 3).trans rfl, (blk_cell BK171.out 0).trans rfl, (blk_cell BK171.out 1).trans rfl, (blk_cell BK171.out 2).trans rfl, (blk_cell BK171.out 3).trans rfl⟩ (fun hHeld => ?_)
                                    clear hK K
                                    refine norm_ (a' := ?_) ?_ ?_
                                    rotate_left
                                    · show Act.put _ (some 56) _ = _
                                      simp only [Act.put, List.setIfInBounds_toArray, List.set_cons_zero, List.set_cons_succ, i64_w, i32_w]
                                      rfl
                                    refine pure_ (i := 6) (N := some 57) (v := ?_) (a' := ?_) #[true, true, true, true, true, true, true, false] rfl rfl (any_of HT_.out (by kernel_rfl)) (fun _ _ _ h => h) (Or.inl ⟨by rfl, ?_⟩) ?_ ?_
                                    rotate_left
                                    · intro w'
                                      go_simp
                                      with_reducible rfl
                                    rotate_left
                                    · simp only [Act.put, List.setIfInBounds_toArray, List.set_cons_zero, List.set_cons_succ, i64_w, i32_w]
                                      rfl
                                    refine pure_ (i := 7) (N := some 13) (v := ?_) (a' := ?_) #[true, true, true, true, true, true, true, true] rfl rfl (any_of HT_.out (by kernel_rfl)) (fun _ _ _ h => h) (Or.inl ⟨by rfl, ?_⟩) ?_ ?_
                                    rotate_left
                                    · intro w'
                                      go_simp
                                      with_reducible rfl
                                    rotate_left
                                    · simp only [Act.put, List.setIfInBounds_toArray, List.set_cons_zero, List.set_cons_succ, i64_w, i32_w]
                                      rfl
                                    refine done_ (done_of HT_.out (by kernel_rfl)) ?_
                                    try go_wp2
                                    have n0_ := Aside0.mk (Kd.R_drew HO153.out)
                                    have n1_ := Aside0.mk (blk_drew BK166.out)
                                    have n2_ := Aside0.mk (blk_drew BK171.out)
                                    have n3_ := Aside0.mk (below_drew1 HB.out)
                                    clear HO153
                                    clear BK166
                                    clear BK171
                                    clear HB
                                    have HO153 := n0_
                                    have BK166 := n1_
                                    have BK171 := n2_
                                    have HB := n3_
                                    clear n0_ n1_ n2_ n3_
                                    refine start_ (n := 9) (S := fun w' => w'.cell? ⟨gb166, 0, none⟩ = some (.int .u64 t162) ∧ w'.cell? ⟨gb166, 1, none⟩ = some (.int .u64 t163) ∧ w'.cell? ⟨gb166, 2, none⟩ = some (.int .u64 t164) ∧ w'.cell? ⟨gb166, 3, none⟩ = some (.int .u64 t165)) (ds := []) #[false, false, false, false, false, false, false, false, false] (by kernel_rfl) rfl rfl ⟨(blk_cell BK166.out 0).trans rfl, (blk_cell BK166.out 1).trans rfl, (blk_cell BK166.out 2).trans rfl, (blk_cell BK166.out 3).trans rfl⟩ (fun hHeld => ?_); refine with_tabW shibbolethlaw22_CurlBuilt.tab6 shibbolethlaw22_CurlBuilt.bits6 (fun HT_ HW_ => ?_)
                                    generalize w86.drew = w87 at HO153 BK166 BK171 HB hHeld ⊢
                                    refine pure_ (i := 0) (N := some 58) (v := ?_) (a' := ?_) #[true, false, false, false, false, false, false, false, false] rfl rfl (any_of HT_.out (by kernel_rfl)) (fun _ _ _ h => h) (Or.inl ⟨by rfl, ?_⟩) ?_ ?_
                                    rotate_left
                                    · intro w'
                                      go_simp
                                      with_reducible rfl
                                    rotate_left
                                    · simp only [Act.put, List.setIfInBounds_toArray, List.set_cons_zero, List.set_cons_succ, i64_w, i32_w]
                                      rfl
                                    refine take_ (i := 1) (N := some 59) (v := ?_) (a' := ?_) #[true, true, false, false, false, false, false, false, false] rfl rfl (take_ofW HT_.out HW_.out (by kernel_rfl)) (fun _ _ _ h => h) (Or.inl ⟨by rfl, ?_⟩) hHeld ?_ ?_
                                    rotate_left
                                    · rintro w' ⟨s0, s1, s2, s3⟩
                                      go_simp
                                      with_reducible rfl
                                    rotate_left
                                    · simp only [Act.put, List.setIfInBounds_toArray, List.set_cons_zero, List.set_cons_succ, i64_w, i32_w]
                                      rfl
                                    refine one_ (i := 2) (N := some 60) #[true, true, true, false, false, false, false, false, false] rfl rfl (one_of HT_.out (by kernel_rfl)) (by decide) (fun K hK => ?_)
                                    refine Kd.R_lit_step (Kd.int .u8) _ 5 ?hg (N := 60) ?hd (xs := ([63, 35] : List Int)) (inner := [.int .u8 63, .int .u8 35]) (ok := fun _ => True) (okp := fun _ => True) ?hr ?hp (fun _ hk => hk) trivial (Below.refl _ _) (Nat.le_refl _) (by simp) ?_; (case hd => rfl); (case hg => rfl); (case hr => first | (go_simp; done) | (go_simp; rfl)); (case hp => exact (Reps.one (show Kd.M (Kd.int .u8) _ _ _ 63 [.int .u8 63] from rfl) (Reps.one (show Kd.M (Kd.int .u8) _ _ _ 35 [.int .u8 35] from rfl) (Reps.none _ _))))
                                    intro v182 w88 ho89 hb hg_ hnew_
                                    clear hg_ hnew_
                                    (first | rw [← Ny181.out] at ho89 | (simp only [Int.reduceToNat] at ho89; rw [← Ny181.out] at ho89))
                                    have n0_ := Aside0.mk (Kd.R_elder' (by (with_reducible repeat (first | apply Kd.R_alloc | apply Kd.R_drewN | apply Kd.R_drew)); exact HO153.out) (Kd.R_base ho89) hb)
                                    have n1_ := Aside0.mk (Kd.R_lower (Kd.R_new' ho89 (Kd.R_lt (by (with_reducible repeat (first | apply Kd.R_alloc | apply Kd.R_drewN | apply Kd.R_drew)); exact HO153.out))) (below_size (by repeat (first | (with_reducible first | exact HB.out | apply below_alloc | apply pw_below_drewN | apply below_drew1 | refine below_set ?_ GE166.out | refine below_set ?_ GE171.out) | exact HB.out))))
                                    have n2_ := Aside0.mk (blk_below (g := gb166) (o := .cells #[.int .u64 t162, .int .u64 t163, .int .u64 t164, .int .u64 t165] 25 (0, 0)) (by (with_reducible repeat (first | refine blk_drewN ?_ _ | refine blk_drew ?_ | refine blk_alloc ?_ _)); exact BK166.out) hb)
                                    have n3_ := Aside0.mk (blk_below (g := gb171) (o := .cells #[.int .u64 t167, .int .u64 t168, .int .u64 t169, .int .u64 t170] 25 (0, 0)) (by (with_reducible repeat (first | refine blk_drewN ?_ _ | refine blk_drew ?_ | refine blk_alloc ?_ _)); exact BK171.out) hb)
                                    have n4_ := Aside0.mk (below_step (by repeat (first | (with_reducible first | exact HB.out | apply below_alloc | apply pw_below_drewN | apply below_drew1 | refine below_set ?_ GE166.out | refine below_set ?_ GE171.out) | exact HB.out)) hb)
                                    clear HO153
                                    clear BK166
                                    clear BK171
                                    clear HB
                                    have HO153 := n0_
                                    have HO183 := n1_
                                    have BK166 := n2_
                                    have BK171 := n3_
                                    have HB := n4_
                                    clear n0_ n1_ n2_ n3_ n4_
                                    clear hb ho89
                                    obtain ⟨Ao90, co90, eo90⟩ := Kd.R_slice HO183.out
                                    (first | subst eo90 | (injection eo90 with f1_ f2_ f3_; have f4_ := f1_.symm; have f5_ := f3_.symm; clear f1_ f2_ f3_; subst f4_; subst f5_))
                                    refine hK.out _ _ ⟨(blk_cell BK166.out 0).trans rfl, (blk_cell BK166.out 1).trans rfl, (blk_cell BK166.out 2).trans rfl, (blk_cell BK166.out 3).trans rfl⟩ (fun hHeld => ?_)
                                    clear hK K
                                    refine norm_ (a' := ?_) ?_ ?_
                                    rotate_left
                                    · show Act.put _ (some 60) _ = _
                                      simp only [Act.put, List.setIfInBounds_toArray, List.set_cons_zero, List.set_cons_succ, i64_w, i32_w]
                                      rfl
                                    refine one_ (i := 3) (N := some 61) #[true, true, true, true, false, false, false, false, false] rfl rfl (one_of HT_.out (by kernel_rfl)) (by decide) (fun K hK => ?_)
                                    refine goes_ Try.func8 (by kernel_rfl) rfl #[.slice Ao90 y181.length co90] (by rfl) rfl rfl (by (try simp only [List.map_toArray, List.map_cons, List.map_nil]); first | done | rfl | (simp only [List.length_drop, List.length_take]; rfl)) ?_
                                    with_reducible refine (octets_Of.calls _ _ y181 t184 t185 t186 t187 _ ?side1 ?side2 A24.out).mono ?_
                                    (case side1 => repeat (first | exact (Kd.R_reads' HO183.out).2.2 | (with_reducible refine Kd.C_alloc ?_ _) | (with_reducible refine Kd.C_drewN ?_ _) | (with_reducible refine Kd.C_drew ?_)))
                                    (case side2 => exact (Kd.R_reads' HO183.out).2.1)
                                    rintro e w91 ⟨rfl, hb⟩
                                    refine ⟨_, rfl, ?_⟩
                                    have n0_ := Aside0.mk (Kd.R_below (by (with_reducible repeat (first | apply Kd.R_alloc | apply Kd.R_drewN | apply Kd.R_drew)); exact HO153.out) hb)
                                    have n1_ := Aside0.mk (Kd.R_below (by (with_reducible repeat (first | apply Kd.R_alloc | apply Kd.R_drewN | apply Kd.R_drew)); exact HO183.out) hb)
                                    have n2_ := Aside0.mk (blk_below (g := gb166) (o := .cells #[.int .u64 t162, .int .u64 t163, .int .u64 t164, .int .u64 t165] 25 (0, 0)) (by (with_reducible repeat (first | refine blk_drewN ?_ _ | refine blk_drew ?_ | refine blk_alloc ?_ _)); exact BK166.out) hb)
                                    have n3_ := Aside0.mk (blk_below (g := gb171) (o := .cells #[.int .u64 t167, .int .u64 t168, .int .u64 t169, .int .u64 t170] 25 (0, 0)) (by (with_reducible repeat (first | refine blk_drewN ?_ _ | refine blk_drew ?_ | refine blk_alloc ?_ _)); exact BK171.out) hb)
                                    have n4_ := Aside0.mk (below_step (by repeat (first | (with_reducible first | exact HB.out | apply below_alloc | apply pw_below_drewN | apply below_drew1 | refine below_set ?_ GE166.out | refine below_set ?_ GE171.out) | exact HB.out)) hb)
                                    clear HO153
                                    clear HO183
                                    clear BK166
                                    clear BK171
                                    clear HB
                                    have HO153 := n0_
                                    have HO183 := n1_
                                    have BK166 := n2_
                                    have BK171 := n3_
                                    have HB := n4_
                                    clear n0_ n1_ n2_ n3_ n4_
                                    (try clear hb)
                                    (try clear hb2)
                                    (try clear hk)
                                    (try clear hi)
                                    refine hK.out _ _ ⟨(blk_cell BK166.out 0).trans rfl, (blk_cell BK166.out 1).trans rfl, (blk_cell BK166.out 2).trans rfl, (blk_cell BK166.out 3).trans rfl⟩ (fun hHeld => ?_)
                                    clear hK K
                                    refine norm_ (a' := ?_) ?_ ?_
                                    rotate_left
                                    · show Act.put _ (some 61) _ = _
                                      simp only [Act.put, List.setIfInBounds_toArray, List.set_cons_zero, List.set_cons_succ, i64_w, i32_w]
                                      rfl
                                    refine one_ (i := 4) (N := some 62) #[true, true, true, true, true, false, false, false, false] rfl rfl (one_of HT_.out (by kernel_rfl)) (by decide) (fun K hK => ?_)
                                    refine goes_ Try.func5 (by kernel_rfl) rfl #[.agg #[.int .u64 t184, .int .u64 t185, .int .u64 t186, .int .u64 t187]] (by rfl) rfl rfl (by (try simp only [List.map_toArray, List.map_cons, List.map_nil]); first | done | rfl | (simp only [List.length_drop, List.length_take]; rfl)) ?_
                                    with_reducible refine (octets_Not.calls t184 t185 t186 t187 t188 t189 t190 t191 _ A25.out).mono ?_
                                    rintro e w92 ⟨rfl, hb⟩
                                    refine ⟨_, rfl, ?_⟩
                                    have n0_ := Aside0.mk (Kd.R_below (by (with_reducible repeat (first | apply Kd.R_alloc | apply Kd.R_drewN | apply Kd.R_drew)); exact HO153.out) hb)
                                    have n1_ := Aside0.mk (Kd.R_below (by (with_reducible repeat (first | apply Kd.R_alloc | apply Kd.R_drewN | apply Kd.R_drew)); exact HO183.out) hb)
                                    have n2_ := Aside0.mk (blk_below (g := gb166) (o := .cells #[.int .u64 t162, .int .u64 t163, .int .u64 t164, .int .u64 t165] 25 (0, 0)) (by (with_reducible repeat (first | refine blk_drewN ?_ _ | refine blk_drew ?_ | refine blk_alloc ?_ _)); exact BK166.out) hb)
                                    have n3_ := Aside0.mk (blk_below (g := gb171) (o := .cells #[.int .u64 t167, .int .u64 t168, .int .u64 t169, .int .u64 t170] 25 (0, 0)) (by (with_reducible repeat (first | refine blk_drewN ?_ _ | refine blk_drew ?_ | refine blk_alloc ?_ _)); exact BK171.out) hb)
                                    have n4_ := Aside0.mk (below_step (by repeat (first | (with_reducible first | exact HB.out | apply below_alloc | apply pw_below_drewN | apply below_drew1 | refine below_set ?_ GE166.out | refine below_set ?_ GE171.out) | exact HB.out)) hb)
                                    clear HO153
                                    clear HO183
                                    clear BK166
                                    clear BK171
                                    clear HB
                                    have HO153 := n0_
                                    have HO183 := n1_
                                    have BK166 := n2_
                                    have BK171 := n3_
                                    have HB := n4_
                                    clear n0_ n1_ n2_ n3_ n4_
                                    (try clear hb)
                                    (try clear hb2)
                                    (try clear hk)
                                    (try clear hi)
                                    refine hK.out _ _ ⟨(blk_cell BK166.out 0).trans rfl, (blk_cell BK166.out 1).trans rfl, (blk_cell BK166.out 2).trans rfl, (blk_cell BK166.out 3).trans rfl⟩ (fun hHeld => ?_)
                                    clear hK K
                                    refine norm_ (a' := ?_) ?_ ?_
                                    rotate_left
                                    · show Act.put _ (some 62) _ = _
                                      simp only [Act.put, List.setIfInBounds_toArray, List.set_cons_zero, List.set_cons_succ, i64_w, i32_w]
                                      rfl
                                    refine one_ (i := 5) (N := some 63) #[true, true, true, true, true, true, false, false, false] rfl rfl (one_of HT_.out (by kernel_rfl)) (by decide) (fun K hK => ?_)
                                    refine goes_ Try.func10 (by kernel_rfl) rfl #[.agg #[.int .u64 t162, .int .u64 t163, .int .u64 t164, .int .u64 t165], .agg #[.int .u64 t188, .int .u64 t189, .int .u64 t190, .int .u64 t191]] (by rfl) rfl rfl (by (try simp only [List.map_toArray, List.map_cons, List.map_nil]); first | done | rfl | (simp only [List.length_drop, List.length_take]; rfl)) ?_
                                    with_reducible refine (octets_And.calls t162 t163 t164 t165 t188 t189 t190 t191 t192 t193 t194 t195 _ A26.out).mono ?_
                                    rintro e w93 ⟨rfl, hb⟩
                                    refine ⟨_, rfl, ?_⟩
                                    have n0_ := Aside0.mk (Kd.R_below (by (with_reducible repeat (first | apply Kd.R_alloc | apply Kd.R_drewN | apply Kd.R_drew)); exact HO153.out) hb)
                                    have n1_ := Aside0.mk (Kd.R_below (by (with_reducible repeat (first | apply Kd.R_alloc | apply Kd.R_drewN | apply Kd.R_drew)); exact HO183.out) hb)
                                    have n2_ := Aside0.mk (blk_below (g := gb166) (o := .cells #[.int .u64 t162, .int .u64 t163, .int .u64 t164, .int .u64 t165] 25 (0, 0)) (by (with_reducible repeat (first | refine blk_drewN ?_ _ | refine blk_drew ?_ | refine blk_alloc ?_ _)); exact BK166.out) hb)
                                    have n3_ := Aside0.mk (blk_below (g := gb171) (o := .cells #[.int .u64 t167, .int .u64 t168, .int .u64 t169, .int .u64 t170] 25 (0, 0)) (by (with_reducible repeat (first | refine blk_drewN ?_ _ | refine blk_drew ?_ | refine blk_alloc ?_ _)); exact BK171.out) hb)
                                    have n4_ := Aside0.mk (below_step (by repeat (first | (with_reducible first | exact HB.out | apply below_alloc | apply pw_below_drewN | apply below_drew1 | refine below_set ?_ GE166.out | refine below_set ?_ GE171.out) | exact HB.out)) hb)
                                    clear HO153
                                    clear HO183
                                    clear BK166
                                    clear BK171
                                    clear HB
                                    have HO153 := n0_
                                    have HO183 := n1_
                                    have BK166 := n2_
                                    have BK171 := n3_
                                    have HB := n4_
                                    clear n0_ n1_ n2_ n3_ n4_
                                    (try clear hb)
                                    (try clear hb2)
                                    (try clear hk)
                                    (try clear hi)
                                    refine hK.out _ _ ⟨(blk_cell BK166.out 0).trans rfl, (blk_cell BK166.out 1).trans rfl, (blk_cell BK166.out 2).trans rfl, (blk_cell BK166.out 3).trans rfl⟩ (fun hHeld => ?_)
                                    clear hK K
                                    refine norm_ (a' := ?_) ?_ ?_
                                    rotate_left
                                    · show Act.put _ (some 63) _ = _
                                      simp only [Act.put, List.setIfInBounds_toArray, List.set_cons_zero, List.set_cons_succ, i64_w, i32_w]
                                      rfl
                                    refine one_ (i := 6) (N := some 64) #[true, true, true, true, true, true, true, false, false] rfl rfl (one_of HT_.out (by kernel_rfl)) (by decide) (fun K hK => ?_)
                                    refine goes_ Try.func9 (by kernel_rfl) rfl #[.string a3, .agg #[.int .u64 t192, .int .u64 t193, .int .u64 t194, .int .u64 t195]] (by rfl) rfl rfl (by (try simp only [List.map_toArray, List.map_cons, List.map_nil]); first | done | rfl | (simp only [List.length_drop, List.length_take]; rfl)) ?_
                                    with_reducible refine (shibbolethlaw22_only.calls kj5 a3 t192 t193 t194 t195 t196 _ A27.out).mono ?_
                                    rintro e w94 ⟨rfl, hb⟩
                                    refine ⟨_, rfl, ?_⟩
                                    have n0_ := Aside0.mk (Kd.R_below (by (with_reducible repeat (first | apply Kd.R_alloc | apply Kd.R_drewN | apply Kd.R_drew)); exact HO153.out) hb)
                                    have n1_ := Aside0.mk (Kd.R_below (by (with_reducible repeat (first | apply Kd.R_alloc | apply Kd.R_drewN | apply Kd.R_drew)); exact HO183.out) hb)
                                    have n2_ := Aside0.mk (blk_below (g := gb166) (o := .cells #[.int .u64 t162, .int .u64 t163, .int .u64 t164, .int .u64 t165] 25 (0, 0)) (by (with_reducible repeat (first | refine blk_drewN ?_ _ | refine blk_drew ?_ | refine blk_alloc ?_ _)); exact BK166.out) hb)
                                    have n3_ := Aside0.mk (blk_below (g := gb171) (o := .cells #[.int .u64 t167, .int .u64 t168, .int .u64 t169, .int .u64 t170] 25 (0, 0)) (by (with_reducible repeat (first | refine blk_drewN ?_ _ | refine blk_drew ?_ | refine blk_alloc ?_ _)); exact BK171.out) hb)
                                    have n4_ := Aside0.mk (below_step (by repeat (first | (with_reducible first | exact HB.out | apply below_alloc | apply pw_below_drewN | apply below_drew1 | refine below_set ?_ GE166.out | refine below_set ?_ GE171.out) | exact HB.out)) hb)
                                    clear HO153
                                    clear HO183
                                    clear BK166
                                    clear BK171
                                    clear HB
                                    have HO153 := n0_
                                    have HO183 := n1_
                                    have BK166 := n2_
                                    have BK171 := n3_
                                    have HB := n4_
                                    clear n0_ n1_ n2_ n3_ n4_
                                    (try clear hb)
                                    (try clear hb2)
                                    (try clear hk)
                                    (try clear hi)
                                    refine hK.out _ _ ⟨(blk_cell BK166.out 0).trans rfl, (blk_cell BK166.out 1).trans rfl, (blk_cell BK166.out 2).trans rfl, (blk_cell BK166.out 3).trans rfl⟩ (fun hHeld => ?_)
                                    clear hK K
                                    refine norm_ (a' := ?_) ?_ ?_
                                    rotate_left
                                    · show Act.put _ (some 64) _ = _
                                      simp only [Act.put, List.setIfInBounds_toArray, List.set_cons_zero, List.set_cons_succ, i64_w, i32_w]
                                      rfl
                                    refine pure_ (i := 7) (N := some 65) (v := ?_) (a' := ?_) #[true, true, true, true, true, true, true, true, false] rfl rfl (any_of HT_.out (by kernel_rfl)) (fun _ _ _ h => h) (Or.inl ⟨by rfl, ?_⟩) ?_ ?_
                                    rotate_left
                                    · intro w'
                                      go_simp
                                      with_reducible rfl
                                    rotate_left
                                    · simp only [Act.put, List.setIfInBounds_toArray, List.set_cons_zero, List.set_cons_succ, i64_w, i32_w]
                                      rfl
                                    refine pure_ (i := 8) (N := some 14) (v := ?_) (a' := ?_) #[true, true, true, true, true, true, true, true, true] rfl rfl (any_of HT_.out (by kernel_rfl)) (fun _ _ _ h => h) (Or.inl ⟨by rfl, ?_⟩) ?_ ?_
                                    rotate_left
                                    · intro w'
                                      go_simp
                                      with_reducible rfl
                                    rotate_left
                                    · simp only [Act.put, List.setIfInBounds_toArray, List.set_cons_zero, List.set_cons_succ, i64_w, i32_w]
                                      rfl
                                    refine done_ (done_of HT_.out (by kernel_rfl)) ?_
                                    try go_wp2
                                    have n0_ := Aside0.mk (Kd.R_drew HO153.out)
                                    have n1_ := Aside0.mk (Kd.R_drew HO183.out)
                                    have n2_ := Aside0.mk (blk_drew BK166.out)
                                    have n3_ := Aside0.mk (blk_drew BK171.out)
                                    have n4_ := Aside0.mk (below_drew1 HB.out)
                                    clear HO153
                                    clear HO183
                                    clear BK166
                                    clear BK171
                                    clear HB
                                    have HO153 := n0_
                                    have HO183 := n1_
                                    have BK166 := n2_
                                    have BK171 := n3_
                                    have HB := n4_
                                    clear n0_ n1_ n2_ n3_ n4_
                                    refine start_ (n := 12) (S := fun w' => w'.cell? ⟨gb166, 0, none⟩ = some (.int .u64 t162) ∧ w'.cell? ⟨gb166, 1, none⟩ = some (.int .u64 t163) ∧ w'.cell? ⟨gb166, 2, none⟩ = some (.int .u64 t164) ∧ w'.cell? ⟨gb166, 3, none⟩ = some (.int .u64 t165)) (ds := []) #[false, false, false, false, false, false, false, false, false, false, false, false] (by kernel_rfl) rfl rfl ⟨(blk_cell BK166.out 0).trans rfl, (blk_cell BK166.out 1).trans rfl, (blk_cell BK166.out 2).trans rfl, (blk_cell BK166.out 3).trans rfl⟩ (fun hHeld => ?_); refine with_tabW shibbolethlaw22_CurlBuilt.tab7 shibbolethlaw22_CurlBuilt.bits7 (fun HT_ HW_ => ?_)
                                    generalize w94.drew = w95 at HO153 HO183 BK166 BK171 HB hHeld ⊢
                                    refine pure_ (i := 0) (N := some 66) (v := ?_) (a' := ?_) #[true, false, false, false, false, false, false, false, false, false, false, false] rfl rfl (any_of HT_.out (by kernel_rfl)) (fun _ _ _ h => h) (Or.inl ⟨by rfl, ?_⟩) ?_ ?_
                                    rotate_left
                                    · intro w'
                                      go_simp
                                      with_reducible rfl
                                    rotate_left
                                    · simp only [Act.put, List.setIfInBounds_toArray, List.set_cons_zero, List.set_cons_succ, i64_w, i32_w]
                                      rfl
                                    refine pure_ (i := 4) (N := some 70) (v := ?_) (a' := ?_) #[true, false, false, false, true, false, false, false, false, false, false, false] rfl rfl (any_of HT_.out (by kernel_rfl)) (fun _ _ _ h => h) (Or.inl ⟨by rfl, ?_⟩) ?_ ?_
                                    rotate_left
                                    · intro w'
                                      go_simp
                                      with_reducible rfl
                                    rotate_left
                                    · simp only [Act.put, List.setIfInBounds_toArray, List.set_cons_zero, List.set_cons_succ, i64_w, i32_w]
                                      rfl
                                    refine pure_ (i := 7) (N := some 73) (v := ?_) (a' := ?_) #[true, false, false, false, true, false, false, true, false, false, false, false] rfl rfl (any_of HT_.out (by kernel_rfl)) (fun _ _ _ h => h) (Or.inl ⟨by rfl, ?_⟩) ?_ ?_
                                    rotate_left
                                    · intro w'
                                      go_simp
                                      with_reducible rfl
                                    rotate_left
                                    · simp only [Act.put, List.setIfInBounds_toArray, List.set_cons_zero, List.set_cons_succ, i64_w, i32_w]
                                      rfl
                                    refine take_ (i := 8) (N := some 74) (v := ?_) (a' := ?_) #[true, false, false, false, true, false, false, true, true, false, false, false] rfl rfl (take_ofW HT_.out HW_.out (by kernel_rfl)) (fun _ _ _ h => h) (Or.inl ⟨by rfl, ?_⟩) hHeld ?_ ?_
                                    rotate_left
                                    · rintro w' ⟨s0, s1, s2, s3⟩
                                      go_simp
                                      with_reducible rfl
                                    rotate_left
                                    · simp only [Act.put, List.setIfInBounds_toArray, List.set_cons_zero, List.set_cons_succ, i64_w, i32_w]
                                      rfl
                                    refine one_ (i := 1) (N := some 67) #[true, true, false, false, true, false, false, true, true, false, false, false] rfl rfl (one_of HT_.out (by kernel_rfl)) (by decide) (fun K hK => ?_)
                                    refine goes_ Try.func7 (by kernel_rfl) rfl #[.int .u8 48, .int .u8 57] (by rfl) rfl rfl (by (try simp only [List.map_toArray, List.map_cons, List.map_nil]); first | done | rfl | (simp only [List.length_drop, List.length_take]; rfl)) ?_
                                    with_reducible refine (octets_Range.calls 48 57 t197 t198 t199 t200 _ A30.out).mono ?_
                                    rintro e w96 ⟨rfl, hb⟩
                                    refine ⟨_, rfl, ?_⟩
                                    have n0_ := Aside0.mk (Kd.R_below (by (with_reducible repeat (first | apply Kd.R_alloc | apply Kd.R_drewN | apply Kd.R_drew)); exact HO153.out) hb)
                                    have n1_ := Aside0.mk (Kd.R_below (by (with_reducible repeat (first | apply Kd.R_alloc | apply Kd.R_drewN | apply Kd.R_drew)); exact HO183.out) hb)
                                    have n2_ := Aside0.mk (blk_below (g := gb166) (o := .cells #[.int .u64 t162, .int .u64 t163, .int .u64 t164, .int .u64 t165] 25 (0, 0)) (by (with_reducible repeat (first | refine blk_drewN ?_ _ | refine blk_drew ?_ | refine blk_alloc ?_ _)); exact BK166.out) hb)
                                    have n3_ := Aside0.mk (blk_below (g := gb171) (o := .cells #[.int .u64 t167, .int .u64 t168, .int .u64 t169, .int .u64 t170] 25 (0, 0)) (by (with_reducible repeat (first | refine blk_drewN ?_ _ | refine blk_drew ?_ | refine blk_alloc ?_ _)); exact BK171.out) hb)
                                    have n4_ := Aside0.mk (below_step (by repeat (first | (with_reducible first | exact HB.out | apply below_alloc | apply pw_below_drewN | apply below_drew1 | refine below_set ?_ GE166.out | refine below_set ?_ GE171.out) | exact HB.out)) hb)
                                    clear HO153
                                    clear HO183
                                    clear BK166
                                    clear BK171
                                    clear HB
                                    have HO153 := n0_
                                    have HO183 := n1_
                                    have BK166 := n2_
                                    have BK171 := n3_
                                    have HB := n4_
                                    clear n0_ n1_ n2_ n3_ n4_
                                    (try clear hb)
                                    (try clear hb2)
                                    (try clear hk)
                                    (try clear hi)
                                    refine hK.out _ _ ⟨(blk_cell BK166.out 0).trans rfl, (blk_cell BK166.out 1).trans rfl, (blk_cell BK166.out 2).trans rfl, (blk_cell BK166.out 3).trans rfl⟩ (fun hHeld => ?_)
                                    clear hK K
                                    refine norm_ (a' := ?_) ?_ ?_
                                    rotate_left
                                    · show Act.put _ (some 67) _ = _
                                      simp only [Act.put, List.setIfInBounds_toArray, List.set_cons_zero, List.set_cons_succ, i64_w, i32_w]
                                      rfl
                                    refine one_ (i := 2) (N := some 68) #[true, true, true, false, true, false, false, true, true, false, false, false] rfl rfl (one_of HT_.out (by kernel_rfl)) (by decide) (fun K hK => ?_)
                                    refine goes_ Try.func9 (by kernel_rfl) rfl #[.string a2, .agg #[.int .u64 t197, .int .u64 t198, .int .u64 t199, .int .u64 t200]] (by rfl) rfl rfl (by (try simp only [List.map_toArray, List.map_cons, List.map_nil]); first | done | rfl | (simp only [List.length_drop, List.length_take]; rfl)) ?_
                                    with_reducible refine (shibbolethlaw22_only.calls kj5 a2 t197 t198 t199 t200 t201 _ A31.out).mono ?_
                                    rintro e w97 ⟨rfl, hb⟩
                                    refine ⟨_, rfl, ?_⟩
                                    have n0_ := Aside0.mk (Kd.R_below (by (with_reducible repeat (first | apply Kd.R_alloc | apply Kd.R_drewN | apply Kd.R_drew)); exact HO153.out) hb)
                                    have n1_ := Aside0.mk (Kd.R_below (by (with_reducible repeat (first | apply Kd.R_alloc | apply Kd.R_drewN | apply Kd.R_drew)); exact HO183.out) hb)
                                    have n2_ := Aside0.mk (blk_below (g := gb166) (o := .cells #[.int .u64 t162, .int .u64 t163, .int .u64 t164, .int .u64 t165] 25 (0, 0)) (by (with_reducible repeat (first | refine blk_drewN ?_ _ | refine blk_drew ?_ | refine blk_alloc ?_ _)); exact BK166.out) hb)
                                    have n3_ := Aside0.mk (blk_below (g := gb171) (o := .cells #[.int .u64 t167, .int .u64 t168, .int .u64 t169, .int .u64 t170] 25 (0, 0)) (by (with_reducible repeat (first | refine blk_drewN ?_ _ | refine blk_drew ?_ | refine blk_alloc ?_ _)); exact BK171.out) hb)
                                    have n4_ := Aside0.mk (below_step (by repeat (first | (with_reducible first | exact HB.out | apply below_alloc | apply pw_below_drewN | apply below_drew1 | refine below_set ?_ GE166.out | refine below_set ?_ GE171.out) | exact HB.out)) hb)
                                    clear HO153
                                    clear HO183
                                    clear BK166
                                    clear BK171
                                    clear HB
                                    have HO153 := n0_
                                    have HO183 := n1_
                                    have BK166 := n2_
                                    have BK171 := n3_
                                    have HB := n4_
                                    clear n0_ n1_ n2_ n3_ n4_
                                    (try clear hb)
                                    (try clear hb2)
                                    (try clear hk)
                                    (try clear hi)
                                    refine hK.out _ _ ⟨(blk_cell BK166.out 0).trans rfl, (blk_cell BK166.out 1).trans rfl, (blk_cell BK166.out 2).trans rfl, (blk_cell BK166.out 3).trans rfl⟩ (fun hHeld => ?_)
                                    clear hK K
                                    refine norm_ (a' := ?_) ?_ ?_
                                    rotate_left
                                    · show Act.put _ (some 68) _ = _
                                      simp only [Act.put, List.setIfInBounds_toArray, List.set_cons_zero, List.set_cons_succ, i64_w, i32_w]
                                      rfl
                                    refine pure_ (i := 3) (N := some 69) (v := ?_) (a' := ?_) #[true, true, true, true, true, false, false, true, true, false, false, false] rfl rfl (any_of HT_.out (by kernel_rfl)) (fun _ _ _ h => h) (Or.inl ⟨by rfl, ?_⟩) ?_ ?_
                                    rotate_left
                                    · intro w'
                                      go_simp
                                      with_reducible rfl
                                    rotate_left
                                    · simp only [Act.put, List.setIfInBounds_toArray, List.set_cons_zero, List.set_cons_succ, i64_w, i32_w]
                                      rfl
                                    refine pure_ (i := 5) (N := some 71) (v := ?_) (a' := ?_) #[true, true, true, true, true, true, false, true, true, false, false, false] rfl rfl (any_of HT_.out (by kernel_rfl)) (fun _ _ _ h => h) (Or.inl ⟨by rfl, ?_⟩) ?_ ?_
                                    rotate_left
                                    · intro w'
                                      go_simp
                                      with_reducible rfl
                                    rotate_left
                                    · simp only [Act.put, List.setIfInBounds_toArray, List.set_cons_zero, List.set_cons_succ, i64_w, i32_w]
                                      rfl
                                    refine pure_ (i := 6) (N := some 72) (v := ?_) (a' := ?_) #[true, true, true, true, true, true, true, true, true, false, false, false] rfl rfl (any_of HT_.out (by kernel_rfl)) (fun _ _ _ h => h) (Or.inl ⟨by rfl, ?_⟩) ?_ ?_
                                    rotate_left
                                    · intro w'
                                      go_simp
                                      with_reducible rfl
                                    rotate_left
                                    · simp only [Act.put, List.setIfInBounds_toArray, List.set_cons_zero, List.set_cons_succ, i64_w, i32_w]
                                      rfl
                                    refine one_ (i := 9) (N := some 75) #[true, true, true, true, true, true, true, true, true, true, false, false] rfl rfl (one_of HT_.out (by kernel_rfl)) (by decide) (fun K hK => ?_)
                                    refine goes_ Try.func9 (by kernel_rfl) rfl #[.string a4, .agg #[.int .u64 t162, .int .u64 t163, .int .u64 t164, .int .u64 t165]] (by rfl) rfl rfl (by (try simp only [List.map_toArray, List.map_cons, List.map_nil]); first | done | rfl | (simp only [List.length_drop, List.length_take]; rfl)) ?_
                                    with_reducible refine (shibbolethlaw22_only.calls kj5 a4 t162 t163 t164 t165 t202 _ A38.out).mono ?_
                                    rintro e w98 ⟨rfl, hb⟩
                                    refine ⟨_, rfl, ?_⟩
                                    have n0_ := Aside0.mk (Kd.R_below (by (with_reducible repeat (first | apply Kd.R_alloc | apply Kd.R_drewN | apply Kd.R_drew)); exact HO153.out) hb)
                                    have n1_ := Aside0.mk (Kd.R_below (by (with_reducible repeat (first | apply Kd.R_alloc | apply Kd.R_drewN | apply Kd.R_drew)); exact HO183.out) hb)
                                    have n2_ := Aside0.mk (blk_below (g := gb166) (o := .cells #[.int .u64 t162, .int .u64 t163, .int .u64 t164, .int .u64 t165] 25 (0, 0)) (by (with_reducible repeat (first | refine blk_drewN ?_ _ | refine blk_drew ?_ | refine blk_alloc ?_ _)); exact BK166.out) hb)
                                    have n3_ := Aside0.mk (blk_below (g := gb171) (o := .cells #[.int .u64 t167, .int .u64 t168, .int .u64 t169, .int .u64 t170] 25 (0, 0)) (by (with_reducible repeat (first | refine blk_drewN ?_ _ | refine blk_drew ?_ | refine blk_alloc ?_ _)); exact BK171.out) hb)
                                    have n4_ := Aside0.mk (below_step (by repeat (first | (with_reducible first | exact HB.out | apply below_alloc | apply pw_below_drewN | apply below_drew1 | refine below_set ?_ GE166.out | refine below_set ?_ GE171.out) | exact HB.out)) hb)
                                    clear HO153
                                    clear HO183
                                    clear BK166
                                    clear BK171
                                    clear HB
                                    have HO153 := n0_
                                    have HO183 := n1_
                                    have BK166 := n2_
                                    have BK171 := n3_
                                    have HB := n4_
                                    clear n0_ n1_ n2_ n3_ n4_
                                    (try clear hb)
                                    (try clear hb2)
                                    (try clear hk)
                                    (try clear hi)
                                    refine hK.out _ _ ⟨(blk_cell BK166.out 0).trans rfl, (blk_cell BK166.out 1).trans rfl, (blk_cell BK166.out 2).trans rfl, (blk_cell BK166.out 3).trans rfl⟩ (fun hHeld => ?_)
                                    clear hK K
                                    refine norm_ (a' := ?_) ?_ ?_
                                    rotate_left
                                    · show Act.put _ (some 75) _ = _
                                      simp only [Act.put, List.setIfInBounds_toArray, List.set_cons_zero, List.set_cons_succ, i64_w, i32_w]
                                      rfl
                                    refine pure_ (i := 10) (N := some 76) (v := ?_) (a' := ?_) #[true, true, true, true, true, true, true, true, true, true, true, false] rfl rfl (any_of HT_.out (by kernel_rfl)) (fun _ _ _ h => h) (Or.inl ⟨by rfl, ?_⟩) ?_ ?_
                                    rotate_left
                                    · intro w'
                                      go_simp
                                      with_reducible rfl
                                    rotate_left
                                    · simp only [Act.put, List.setIfInBounds_toArray, List.set_cons_zero, List.set_cons_succ, i64_w, i32_w]
                                      rfl
                                    refine pure_ (i := 11) (N := some 15) (v := ?_) (a' := ?_) #[true, true, true, true, true, true, true, true, true, true, true, true] rfl rfl (any_of HT_.out (by kernel_rfl)) (fun _ _ _ h => h) (Or.inl ⟨by rfl, ?_⟩) ?_ ?_
                                    rotate_left
                                    · intro w'
                                      go_simp
                                      with_reducible rfl
                                    rotate_left
                                    · simp only [Act.put, List.setIfInBounds_toArray, List.set_cons_zero, List.set_cons_succ, i64_w, i32_w]
                                      rfl
                                    refine done_ (done_of HT_.out (by kernel_rfl)) ?_
                                    try go_wp2
                                    have n0_ := Aside0.mk (Kd.R_drew HO153.out)
                                    have n1_ := Aside0.mk (Kd.R_drew HO183.out)
                                    have n2_ := Aside0.mk (blk_drew BK166.out)
                                    have n3_ := Aside0.mk (blk_drew BK171.out)
                                    have n4_ := Aside0.mk (below_drew1 HB.out)
                                    clear HO153
                                    clear HO183
                                    clear BK166
                                    clear BK171
                                    clear HB
                                    have HO153 := n0_
                                    have HO183 := n1_
                                    have BK166 := n2_
                                    have BK171 := n3_
                                    have HB := n4_
                                    clear n0_ n1_ n2_ n3_ n4_
                                    refine start_ (n := 14) (S := fun w' => w'.cell? ⟨gb166, 0, none⟩ = some (.int .u64 t162) ∧ w'.cell? ⟨gb166, 1, none⟩ = some (.int .u64 t163) ∧ w'.cell? ⟨gb166, 2, none⟩ = some (.int .u64 t164) ∧ w'.cell? ⟨gb166, 3, none⟩ = some (.int .u64 t165)) (ds := []) #[false, false, false, false, false, false, false, false, false, false, false, false, false, false] (by kernel_rfl) rfl rfl ⟨(blk_cell BK166.out 0).trans rfl, (blk_cell BK166.out 1).trans rfl, (blk_cell BK166.out 2).trans rfl, (blk_cell BK166.out 3).trans rfl⟩ (fun hHeld => ?_); refine with_tabW shibbolethlaw22_CurlBuilt.tab8 shibbolethlaw22_CurlBuilt.bits8 (fun HT_ HW_ => ?_)
                                    generalize w98.drew = w99 at HO153 HO183 BK166 BK171 HB hHeld ⊢
                                    refine pure_ (i := 0) (N := some 77) (v := ?_) (a' := ?_) #[true, false, false, false, false, false, false, false, false, false, false, false, false, false] rfl rfl (any_of HT_.out (by kernel_rfl)) (fun _ _ _ h => h) (Or.inl ⟨by rfl, ?_⟩) ?_ ?_
                                    rotate_left
                                    · intro w'
                                      go_simp
                                      with_reducible rfl
                                    rotate_left
                                    · simp only [Act.put, List.setIfInBounds_toArray, List.set_cons_zero, List.set_cons_succ, i64_w, i32_w]
                                      rfl
                                    refine pure_ (i := 9) (N := some 86) (v := ?_) (a' := ?_) #[true, false, false, false, false, false, false, false, false, true, false, false, false, false] rfl rfl (any_of HT_.out (by kernel_rfl)) (fun _ _ _ h => h) (Or.inl ⟨by rfl, ?_⟩) ?_ ?_
                                    rotate_left
                                    · intro w'
                                      go_simp
                                      with_reducible rfl
                                    rotate_left
                                    · simp only [Act.put, List.setIfInBounds_toArray, List.set_cons_zero, List.set_cons_succ, i64_w, i32_w]
                                      rfl
                                    refine pure_ (i := 11) (N := some 88) (v := ?_) (a' := ?_) #[true, false, false, false, false, false, false, false, false, true, false, true, false, false] rfl rfl (any_of HT_.out (by kernel_rfl)) (fun _ _ _ h => h) (Or.inl ⟨by rfl, ?_⟩) ?_ ?_
                                    rotate_left
                                    · intro w'
                                      go_simp
                                      with_reducible rfl
                                    rotate_left
                                    · simp only [Act.put, List.setIfInBounds_toArray, List.set_cons_zero, List.set_cons_succ, i64_w, i32_w]
                                      rfl
                                    refine take_ (i := 1) (N := some 78) (v := ?_) (a' := ?_) #[true, true, false, false, false, false, false, false, false, true, false, true, false, false] rfl rfl (take_ofW HT_.out HW_.out (by kernel_rfl)) (fun _ _ _ h => h) (Or.inl ⟨by rfl, ?_⟩) hHeld ?_ ?_
                                    rotate_left
                                    · rintro w' ⟨s0, s1, s2, s3⟩
                                      go_simp
                                      with_reducible rfl
                                    rotate_left
                                    · simp only [Act.put, List.setIfInBounds_toArray, List.set_cons_zero, List.set_cons_succ, i64_w, i32_w]
                                      rfl
                                    refine one_ (i := 2) (N := some 79) #[true, true, true, false, false, false, false, false, false, true, false, true, false, false] rfl rfl (one_of HT_.out (by kernel_rfl)) (by decide) (fun K hK => ?_)
                                    refine Kd.R_lit_step (Kd.int .u8) _ 5 ?hg (N := 79) ?hd (xs := ([47, 63, 35, 64] : List Int)) (inner := [.int .u8 47, .int .u8 63, .int .u8 35, .int .u8 64]) (ok := fun _ => True) (okp := fun _ => True) ?hr ?hp (fun _ hk => hk) trivial (Below.refl _ _) (Nat.le_refl _) (by simp) ?_; (case hd => rfl); (case hg => rfl); (case hr => first | (go_simp; done) | (go_simp; rfl)); (case hp => exact (Reps.one (show Kd.M (Kd.int .u8) _ _ _ 47 [.int .u8 47] from rfl) (Reps.one (show Kd.M (Kd.int .u8) _ _ _ 63 [.int .u8 63] from rfl) (Reps.one (show Kd.M (Kd.int .u8) _ _ _ 35 [.int .u8 35] from rfl) (Reps.one (show Kd.M (Kd.int .u8) _ _ _ 64 [.int .u8 64] from rfl) (Reps.none _ _))))))
                                    intro v204 w100 ho101 hb hg_ hnew_
                                    clear hg_ hnew_
                                    (first | rw [← Ny203.out] at ho101 | (simp only [Int.reduceToNat] at ho101; rw [← Ny203.out] at ho101))
                                    have n0_ := Aside0.mk (Kd.R_elder' (by (with_reducible repeat (first | apply Kd.R_alloc | apply Kd.R_drewN | apply Kd.R_drew)); exact HO153.out) (Kd.R_base ho101) hb)
                                    have n1_ := Aside0.mk (Kd.R_elder' (by (with_reducible repeat (first | apply Kd.R_alloc | apply Kd.R_drewN | apply Kd.R_drew)); exact HO183.out) (Kd.R_base ho101) hb)
                                    have n2_ := Aside0.mk (Kd.R_lower (Kd.R_new' (Kd.R_new' ho101 (Kd.R_lt (by (with_reducible repeat (first | apply Kd.R_alloc | apply Kd.R_drewN | apply Kd.R_drew)); exact HO153.out))) (Kd.R_lt (by (with_reducible repeat (first | apply Kd.R_alloc | apply Kd.R_drewN | apply Kd.R_drew)); exact HO183.out))) (below_size (by repeat (first | (with_reducible first | exact HB.out | apply below_alloc | apply pw_below_drewN | apply below_drew1 | refine below_set ?_ GE166.out | refine below_set ?_ GE171.out) | exact HB.out))))
                                    have n3_ := Aside0.mk (blk_below (g := gb166) (o := .cells #[.int .u64 t162, .int .u64 t163, .int .u64 t164, .int .u64 t165] 25 (0, 0)) (by (with_reducible repeat (first | refine blk_drewN ?_ _ | refine blk_drew ?_ | refine blk_alloc ?_ _)); exact BK166.out) hb)
                                    have n4_ := Aside0.mk (blk_below (g := gb171) (o := .cells #[.int .u64 t167, .int .u64 t168, .int .u64 t169, .int .u64 t170] 25 (0, 0)) (by (with_reducible repeat (first | refine blk_drewN ?_ _ | refine blk_drew ?_ | refine blk_alloc ?_ _)); exact BK171.out) hb)
                                    have n5_ := Aside0.mk (below_step (by repeat (first | (with_reducible first | exact HB.out | apply below_alloc | apply pw_below_drewN | apply below_drew1 | refine below_set ?_ GE166.out | refine below_set ?_ GE171.out) | exact HB.out)) hb)
                                    clear HO153
                                    clear HO183
                                    clear BK166
                                    clear BK171
                                    clear HB
                                    have HO153 := n0_
                                    have HO183 := n1_
                                    have HO205 := n2_
                                    have BK166 := n3_
                                    have BK171 := n4_
                                    have HB := n5_
                                    clear n0_ n1_ n2_ n3_ n4_ n5_
                                    clear hb ho101
                                    obtain ⟨Ao102, co102, eo102⟩ := Kd.R_slice HO205.out
                                    (first | subst eo102 | (injection eo102 with f1_ f2_ f3_; have f4_ := f1_.symm; have f5_ := f3_.symm; clear f1_ f2_ f3_; subst f4_; subst f5_))
                                    refine hK.out _ _ ⟨(blk_cell BK166.out 0).trans rfl, (blk_cell BK166.out 1).trans rfl, (blk_cell BK166.out 2).trans rfl, (blk_cell BK166.out 3).trans rfl⟩ (fun hHeld => ?_)
                                    clear hK K
                                    refine norm_ (a' := ?_) ?_ ?_
                                    rotate_left
                                    · show Act.put _ (some 79) _ = _
                                      simp only [Act.put, List.setIfInBounds_toArray, List.set_cons_zero, List.set_cons_succ, i64_w, i32_w]
                                      rfl
                                    refine one_ (i := 3) (N := some 80) #[true, true, true, true, false, false, false, false, false, true, false, true, false, false] rfl rfl (one_of HT_.out (by kernel_rfl)) (by decide) (fun K hK => ?_)
                                    refine goes_ Try.func8 (by kernel_rfl) rfl #[.slice Ao102 y203.length co102] (by rfl) rfl rfl (by (try simp only [List.map_toArray, List.map_cons, List.map_nil]); first | done | rfl | (simp only [List.length_drop, List.length_take]; rfl)) ?_
                                    with_reducible refine (octets_Of.calls _ _ y203 t206 t207 t208 t209 _ ?side1 ?side2 A41.out).mono ?_
                                    (case side1 => repeat (first | exact (Kd.R_reads' HO205.out).2.2 | (with_reducible refine Kd.C_alloc ?_ _) | (with_reducible refine Kd.C_drewN ?_ _) | (with_reducible refine Kd.C_drew ?_)))
                                    (case side2 => exact (Kd.R_reads' HO205.out).2.1)
                                    rintro e w103 ⟨rfl, hb⟩
                                    refine ⟨_, rfl, ?_⟩
                                    have n0_ := Aside0.mk (Kd.R_below (by (with_reducible repeat (first | apply Kd.R_alloc | apply Kd.R_drewN | apply Kd.R_drew)); exact HO153.out) hb)
                                    have n1_ := Aside0.mk (Kd.R_below (by (with_reducible repeat (first | apply Kd.R_alloc | apply Kd.R_drewN | apply Kd.R_drew)); exact HO183.out) hb)
                                    have n2_ := Aside0.mk (Kd.R_below (by (with_reducible repeat (first | apply Kd.R_alloc | apply Kd.R_drewN | apply Kd.R_drew)); exact HO205.out) hb)
                                    have n3_ := Aside0.mk (blk_below (g := gb166) (o := .cells #[.int .u64 t162, .int .u64 t163, .int .u64 t164, .int .u64 t165] 25 (0, 0)) (by (with_reducible repeat (first | refine blk_drewN ?_ _ | refine blk_drew ?_ | refine blk_alloc ?_ _)); exact BK166.out) hb)
                                    have n4_ := Aside0.mk (blk_below (g := gb171) (o := .cells #[.int .u64 t167, .int .u64 t168, .int .u64 t169, .int .u64 t170] 25 (0, 0)) (by (with_reducible repeat (first | refine blk_drewN ?_ _ | refine blk_drew ?_ | refine blk_alloc ?_ _)); exact BK171.out) hb)
                                    have n5_ := Aside0.mk (below_step (by repeat (first | (with_reducible first | exact HB.out | apply below_alloc | apply pw_below_drewN | apply below_drew1 | refine below_set ?_ GE166.out | refine below_set ?_ GE171.out) | exact HB.out)) hb)
                                    clear HO153
                                    clear HO183
                                    clear HO205
                                    clear BK166
                                    clear BK171
                                    clear HB
                                    have HO153 := n0_
                                    have HO183 := n1_
                                    have HO205 := n2_
                                    have BK166 := n3_
                                    have BK171 := n4_
                                    have HB := n5_
                                    clear n0_ n1_ n2_ n3_ n4_ n5_
                                    (try clear hb)
                                    (try clear hb2)
                                    (try clear hk)
                                    (try clear hi)
                                    refine hK.out _ _ ⟨(blk_cell BK166.out 0).trans rfl, (blk_cell BK166.out 1).trans rfl, (blk_cell BK166.out 2).trans rfl, (blk_cell BK166.out 3).trans rfl⟩ (fun hHeld => ?_)
                                    clear hK K
                                    refine norm_ (a' := ?_) ?_ ?_
                                    rotate_left
                                    · show Act.put _ (some 80) _ = _
                                      simp only [Act.put, List.setIfInBounds_toArray, List.set_cons_zero, List.set_cons_succ, i64_w, i32_w]
                                      rfl
                                    refine one_ (i := 4) (N := some 81) #[true, true, true, true, true, false, false, false, false, true, false, true, false, false] rfl rfl (one_of HT_.out (by kernel_rfl)) (by decide) (fun K hK => ?_)
                                    refine goes_ Try.func5 (by kernel_rfl) rfl #[.agg #[.int .u64 t206, .int .u64 t207, .int .u64 t208, .int .u64 t209]] (by rfl) rfl rfl (by (try simp only [List.map_toArray, List.map_cons, List.map_nil]); first | done | rfl | (simp only [List.length_drop, List.length_take]; rfl)) ?_
                                    with_reducible refine (octets_Not.calls t206 t207 t208 t209 t210 t211 t212 t213 _ A42.out).mono ?_
                                    rintro e w104 ⟨rfl, hb⟩
                                    refine ⟨_, rfl, ?_⟩
                                    have n0_ := Aside0.mk (Kd.R_below (by (with_reducible repeat (first | apply Kd.R_alloc | apply Kd.R_drewN | apply Kd.R_drew)); exact HO153.out) hb)
                                    have n1_ := Aside0.mk (Kd.R_below (by (with_reducible repeat (first | apply Kd.R_alloc | apply Kd.R_drewN | apply Kd.R_drew)); exact HO183.out) hb)
                                    have n2_ := Aside0.mk (Kd.R_below (by (with_reducible repeat (first | apply Kd.R_alloc | apply Kd.R_drewN | apply Kd.R_drew)); exact HO205.out) hb)
                                    have n3_ := Aside0.mk (blk_below (g := gb166) (o := .cells #[.int .u64 t162, .int .u64 t163, .int .u64 t164, .int .u64 t165] 25 (0, 0)) (by (with_reducible repeat (first | refine blk_drewN ?_ _ | refine blk_drew ?_ | refine blk_alloc ?_ _)); exact BK166.out) hb)
                                    have n4_ := Aside0.mk (blk_below (g := gb171) (o := .cells #[.int .u64 t167, .int .u64 t168, .int .u64 t169, .int .u64 t170] 25 (0, 0)) (by (with_reducible repeat (first | refine blk_drewN ?_ _ | refine blk_drew ?_ | refine blk_alloc ?_ _)); exact BK171.out) hb)
                                    have n5_ := Aside0.mk (below_step (by repeat (first | (with_reducible first | exact HB.out | apply below_alloc | apply pw_below_drewN | apply below_drew1 | refine below_set ?_ GE166.out | refine below_set ?_ GE171.out) | exact HB.out)) hb)
                                    clear HO153
                                    clear HO183
                                    clear HO205
                                    clear BK166
                                    clear BK171
                                    clear HB
                                    have HO153 := n0_
                                    have HO183 := n1_
                                    have HO205 := n2_
                                    have BK166 := n3_
                                    have BK171 := n4_
                                    have HB := n5_
                                    clear n0_ n1_ n2_ n3_ n4_ n5_
                                    (try clear hb)
                                    (try clear hb2)
                                    (try clear hk)
                                    (try clear hi)
                                    refine hK.out _ _ ⟨(blk_cell BK166.out 0).trans rfl, (blk_cell BK166.out 1).trans rfl, (blk_cell BK166.out 2).trans rfl, (blk_cell BK166.out 3).trans rfl⟩ (fun hHeld => ?_)
                                    clear hK K
                                    refine norm_ (a' := ?_) ?_ ?_
                                    rotate_left
                                    · show Act.put _ (some 81) _ = _
                                      simp only [Act.put, List.setIfInBounds_toArray, List.set_cons_zero, List.set_cons_succ, i64_w, i32_w]
                                      rfl
                                    refine one_ (i := 5) (N := some 82) #[true, true, true, true, true, true, false, false, false, true, false, true, false, false] rfl rfl (one_of HT_.out (by kernel_rfl)) (by decide) (fun K hK => ?_)
                                    refine goes_ Try.func10 (by kernel_rfl) rfl #[.agg #[.int .u64 t162, .int .u64 t163, .int .u64 t164, .int .u64 t165], .agg #[.int .u64 t210, .int .u64 t211, .int .u64 t212, .int .u64 t213]] (by rfl) rfl rfl (by (try simp only [List.map_toArray, List.map_cons, List.map_nil]); first | done | rfl | (simp only [List.length_drop, List.length_take]; rfl)) ?_
                                    with_reducible refine (octets_And.calls t162 t163 t164 t165 t210 t211 t212 t213 t214 t215 t216 t217 _ A43.out).mono ?_
                                    rintro e w105 ⟨rfl, hb⟩
                                    refine ⟨_, rfl, ?_⟩
                                    have n0_ := Aside0.mk (Kd.R_below (by (with_reducible repeat (first | apply Kd.R_alloc | apply Kd.R_drewN | apply Kd.R_drew)); exact HO153.out) hb)
                                    have n1_ := Aside0.mk (Kd.R_below (by (with_reducible repeat (first | apply Kd.R_alloc | apply Kd.R_drewN | apply Kd.R_drew)); exact HO183.out) hb)
                                    have n2_ := Aside0.mk (Kd.R_below (by (with_reducible repeat (first | apply Kd.R_alloc | apply Kd.R_drewN | apply Kd.R_drew)); exact HO205.out) hb)
                                    have n3_ := Aside0.mk (blk_below (g := gb166) (o := .cells #[.int .u64 t162, .int .u64 t163, .int .u64 t164, .int .u64 t165] 25 (0, 0)) (by (with_reducible repeat (first | refine blk_drewN ?_ _ | refine blk_drew ?_ | refine blk_alloc ?_ _)); exact BK166.out) hb)
                                    have n4_ := Aside0.mk (blk_below (g := gb171) (o := .cells #[.int .u64 t167, .int .u64 t168, .int .u64 t169, .int .u64 t170] 25 (0, 0)) (by (with_reducible repeat (first | refine blk_drewN ?_ _ | refine blk_drew ?_ | refine blk_alloc ?_ _)); exact BK171.out) hb)
                                    have n5_ := Aside0.mk (below_step (by repeat (first | (with_reducible first | exact HB.out | apply below_alloc | apply pw_below_drewN | apply below_drew1 | refine below_set ?_ GE166.out | refine below_set ?_ GE171.out) | exact HB.out)) hb)
                                    clear HO153
                                    clear HO183
                                    clear HO205
                                    clear BK166
                                    clear BK171
                                    clear HB
                                    have HO153 := n0_
                                    have HO183 := n1_
                                    have HO205 := n2_
                                    have BK166 := n3_
                                    have BK171 := n4_
                                    have HB := n5_
                                    clear n0_ n1_ n2_ n3_ n4_ n5_
                                    (try clear hb)
                                    (try clear hb2)
                                    (try clear hk)
                                    (try clear hi)
                                    refine hK.out _ _ ⟨(blk_cell BK166.out 0).trans rfl, (blk_cell BK166.out 1).trans rfl, (blk_cell BK166.out 2).trans rfl, (blk_cell BK166.out 3).trans rfl⟩ (fun hHeld => ?_)
                                    clear hK K
                                    refine norm_ (a' := ?_) ?_ ?_
                                    rotate_left
                                    · show Act.put _ (some 82) _ = _
                                      simp only [Act.put, List.setIfInBounds_toArray, List.set_cons_zero, List.set_cons_succ, i64_w, i32_w]
                                      rfl
                                    refine one_ (i := 6) (N := some 83) #[true, true, true, true, true, true, true, false, false, true, false, true, false, false] rfl rfl (one_of HT_.out (by kernel_rfl)) (by decide) (fun K hK => ?_)
                                    refine goes_ Try.func9 (by kernel_rfl) rfl #[.string a0, .agg #[.int .u64 t214, .int .u64 t215, .int .u64 t216, .int .u64 t217]] (by rfl) rfl rfl (by (try simp only [List.map_toArray, List.map_cons, List.map_nil]); first | done | rfl | (simp only [List.length_drop, List.length_take]; rfl)) ?_
                                    with_reducible refine (shibbolethlaw22_only.calls kj5 a0 t214 t215 t216 t217 t218 _ A44.out).mono ?_
                                    rintro e w106 ⟨rfl, hb⟩
                                    refine ⟨_, rfl, ?_⟩
                                    have n0_ := Aside0.mk (Kd.R_below (by (with_reducible repeat (first | apply Kd.R_alloc | apply Kd.R_drewN | apply Kd.R_drew)); exact HO153.out) hb)
                                    have n1_ := Aside0.mk (Kd.R_below (by (with_reducible repeat (first | apply Kd.R_alloc | apply Kd.R_drewN | apply Kd.R_drew)); exact HO183.out) hb)
                                    have n2_ := Aside0.mk (Kd.R_below (by (with_reducible repeat (first | apply Kd.R_alloc | apply Kd.R_drewN | apply Kd.R_drew)); exact HO205.out) hb)
                                    have n3_ := Aside0.mk (blk_below (g := gb166) (o := .cells #[.int .u64 t162, .int .u64 t163, .int .u64 t164, .int .u64 t165] 25 (0, 0)) (by (with_reducible repeat (first | refine blk_drewN ?_ _ | refine blk_drew ?_ | refine blk_alloc ?_ _)); exact BK166.out) hb)
                                    have n4_ := Aside0.mk (blk_below (g := gb171) (o := .cells #[.int .u64 t167, .int .u64 t168, .int .u64 t169, .int .u64 t170] 25 (0, 0)) (by (with_reducible repeat (first | refine blk_drewN ?_ _ | refine blk_drew ?_ | refine blk_alloc ?_ _)); exact BK171.out) hb)
                                    have n5_ := Aside0.mk (below_step (by repeat (first | (with_reducible first | exact HB.out | apply below_alloc | apply pw_below_drewN | apply below_drew1 | refine below_set ?_ GE166.out | refine below_set ?_ GE171.out) | exact HB.out)) hb)
                                    clear HO153
                                    clear HO183
                                    clear HO205
                                    clear BK166
                                    clear BK171
                                    clear HB
                                    have HO153 := n0_
                                    have HO183 := n1_
                                    have HO205 := n2_
                                    have BK166 := n3_
                                    have BK171 := n4_
                                    have HB := n5_
                                    clear n0_ n1_ n2_ n3_ n4_ n5_
                                    (try clear hb)
                                    (try clear hb2)
                                    (try clear hk)
                                    (try clear hi)
                                    refine hK.out _ _ ⟨(blk_cell BK166.out 0).trans rfl, (blk_cell BK166.out 1).trans rfl, (blk_cell BK166.out 2).trans rfl, (blk_cell BK166.out 3).trans rfl⟩ (fun hHeld => ?_)
                                    clear hK K
                                    refine norm_ (a' := ?_) ?_ ?_
                                    rotate_left
                                    · show Act.put _ (some 83) _ = _
                                      simp only [Act.put, List.setIfInBounds_toArray, List.set_cons_zero, List.set_cons_succ, i64_w, i32_w]
                                      rfl
                                    refine pure_ (i := 7) (N := some 84) (v := ?_) (a' := ?_) #[true, true, true, true, true, true, true, true, false, true, false, true, false, false] rfl rfl (any_of HT_.out (by kernel_rfl)) (fun _ _ _ h => h) (Or.inl ⟨by rfl, ?_⟩) ?_ ?_
                                    rotate_left
                                    · intro w'
                                      go_simp
                                      with_reducible rfl
                                    rotate_left
                                    · simp only [Act.put, List.setIfInBounds_toArray, List.set_cons_zero, List.set_cons_succ, i64_w, i32_w]
                                      rfl
                                    refine pure_ (i := 8) (N := some 85) (v := ?_) (a' := ?_) #[true, true, true, true, true, true, true, true, true, true, false, true, false, false] rfl rfl (any_of HT_.out (by kernel_rfl)) (fun _ _ _ h => h) (Or.inl ⟨by rfl, ?_⟩) ?_ ?_
                                    rotate_left
                                    · intro w'
                                      go_simp
                                      with_reducible rfl
                                    rotate_left
                                    · simp only [Act.put, List.setIfInBounds_toArray, List.set_cons_zero, List.set_cons_succ, i64_w, i32_w]
                                      rfl
                                    refine pure_ (i := 10) (N := some 87) (v := ?_) (a' := ?_) #[true, true, true, true, true, true, true, true, true, true, true, true, false, false] rfl rfl (any_of HT_.out (by kernel_rfl)) (fun _ _ _ h => h) (Or.inl ⟨by rfl, ?_⟩) ?_ ?_
                                    rotate_left
                                    · intro w'
                                      go_simp
                                      with_reducible rfl
                                    rotate_left
                                    · simp only [Act.put, List.setIfInBounds_toArray, List.set_cons_zero, List.set_cons_succ, i64_w, i32_w]
                                      rfl
                                    refine pure_ (i := 12) (N := some 89) (v := ?_) (a' := ?_) #[true, true, true, true, true, true, true, true, true, true, true, true, true, false] rfl rfl (any_of HT_.out (by kernel_rfl)) (fun _ _ _ h => h) (Or.inl ⟨by rfl, ?_⟩) ?_ ?_
                                    rotate_left
                                    · intro w'
                                      go_simp
                                      with_reducible rfl
                                    rotate_left
                                    · simp only [Act.put, List.setIfInBounds_toArray, List.set_cons_zero, List.set_cons_succ, i64_w, i32_w]
                                      rfl
                                    refine pure_ (i := 13) (N := some 16) (v := ?_) (a' := ?_) #[true, true, true, true, true, true, true, true, true, true, true, true, true, true] rfl rfl (any_of HT_.out (by kernel_rfl)) (fun _ _ _ h => h) (Or.inl ⟨by rfl, ?_⟩) ?_ ?_
                                    rotate_left
                                    · intro w'
                                      go_simp
                                      with_reducible rfl
                                    rotate_left
                                    · simp only [Act.put, List.setIfInBounds_toArray, List.set_cons_zero, List.set_cons_succ, i64_w, i32_w]
                                      rfl
                                    refine done_ (done_of HT_.out (by kernel_rfl)) ?_
                                    have H := HH_.out
                                    clear HH_
                                    by_cases c65 : (t228 && (t229.toList == ((ji23).toList) && (t230.toList == ((ji29).toList)))) = true
                                    · rw [if_pos c65] at H
                                      have c65b0 : (t228 && (t229.toList == ((ji23).toList) && (t230.toList == ((ji29).toList)))) = true := c65
                                      clear c65
                                      by_cases c66 : ((ji58).size : Int) = 2
                                      · rw [if_pos c66] at H
                                        have c66b0 : (((ji58).size : Int) == 2) = true := beq_iff_eq.mpr c66
                                        have c66b1 : (((ji58).size : Int) != 2) = false := bne_eq_false_iff_eq.mpr c66
                                        clear c66
                                        by_cases c67 : (!t224 && (t225.toList == ([] : List UInt8) && (t226.toList == ([] : List UInt8)))) = true
                                        · rw [if_pos c67] at H
                                          have c67b0 : (!t224 && (t225.toList == ([] : List UInt8) && (t226.toList == ([] : List UInt8)))) = true := c67
                                          (try (have c67b1 : (!t224 && ((t225).toList.isEmpty && ((t226).toList.isEmpty))) = true := by simpa using c67))
                                          clear c67
                                          replace H := Option.bind_eq_some_iff.mp H
                                          obtain ⟨t231, A680, H⟩ := H
                                          try dsimp only at H
                                          have A68 := Aside0.mk A680
                                          clear A680
                                          obtain rfl := Option.some.inj H
                                          try go_wp2_with (first | ((with_reducible refine gate_callee (f := 8) rfl ?_); refine goesL_ (some 93) rfl rfl Try.func8 (by kernel_rfl) rfl #[.slice _ _ _] rfl (by (try simp only [List.map_toArray, List.map_cons, List.map_nil]); first | done | rfl | (simp only [List.length_drop, List.length_take]; rfl)) ?_; (with_reducible refine (octets_Of.callsn _ _ ([48, 49, 50, 51, 52, 53, 54, 55, 56, 57, 97, 98, 99, 100, 101, 102, 65, 66, 67, 68, 69, 70, 58, 46] : List Int) t219 t220 t221 t222 _ ?side1 ?side2 A53.out).mono ?_); (case side1 => repeat (first | exact lit8_C _ _ _ _ | exact lit8_Cb _ _ _ _ _ (by simp [go_sem]) | (with_reducible refine Kd.C_alloc ?_ _) | (with_reducible refine Kd.C_drewN ?_ _) | (with_reducible refine Kd.C_drew ?_))); (case side2 => decide); rintro e w107 ⟨rfl, hb⟩; refine ⟨_, rfl, ?_⟩; have n0_ := Aside0.mk (Kd.R_below (by (with_reducible repeat (first | apply Kd.R_alloc | apply Kd.R_drewN | apply Kd.R_drew)); exact HO153.out) hb); have n1_ := Aside0.mk (Kd.R_below (by (with_reducible repeat (first | apply Kd.R_alloc | apply Kd.R_drewN | apply Kd.R_drew)); exact HO183.out) hb); have n2_ := Aside0.mk (Kd.R_below (by (with_reducible repeat (first | apply Kd.R_alloc | apply Kd.R_drewN | apply Kd.R_drew)); exact HO205.out) hb); have n3_ := Aside0.mk (blk_below (g := gb166) (o := .cells #[.int .u64 t162, .int .u64 t163, .int .u64 t164, .int .u64 t165] 25 (0, 0)) (by (with_reducible repeat (first | refine blk_drewN ?_ _ | refine blk_drew ?_ | refine blk_alloc ?_ _)); exact BK166.out) hb); have n4_ := Aside0.mk (blk_below (g := gb171) (o := .cells #[.int .u64 t167, .int .u64 t168, .int .u64 t169, .int .u64 t170] 25 (0, 0)) (by (with_reducible repeat (first | refine blk_drewN ?_ _ | refine blk_drew ?_ | refine blk_alloc ?_ _)); exact BK171.out) hb); have n5_ := Aside0.mk (below_step (by repeat (first | (with_reducible first | exact HB.out | apply below_alloc | apply pw_below_drewN | apply below_drew1 | refine below_set ?_ GE166.out | refine below_set ?_ GE171.out) | exact HB.out)) hb); clear HO153; clear HO183; clear HO205; clear BK166; clear BK171; clear HB; have HO153 := n0_; have HO183 := n1_; have HO205 := n2_; have BK166 := n3_; have BK171 := n4_; have HB := n5_; clear n0_ n1_ n2_ n3_ n4_ n5_; (try clear hb); (try clear hb2); (try clear hk); (try clear hi)) | ((with_reducible refine gate_callee (f := 9) rfl ?_); refine goesL_ (some 94) rfl rfl Try.func9 (by kernel_rfl) rfl #[.string a1, .agg #[.int .u64 t219, .int .u64 t220, .int .u64 t221, .int .u64 t222]] rfl (by (try simp only [List.map_toArray, List.map_cons, List.map_nil]); first | done | rfl | (simp only [List.length_drop, List.length_take]; rfl)) ?_; (with_reducible refine (shibbolethlaw22_only.calls kj5 a1 t219 t220 t221 t222 t223 _ A54.out).mono ?_); rintro e w108 ⟨rfl, hb⟩; refine ⟨_, rfl, ?_⟩; have n0_ := Aside0.mk (Kd.R_below (by (with_reducible repeat (first | apply Kd.R_alloc | apply Kd.R_drewN | apply Kd.R_drew)); exact HO153.out) hb); have n1_ := Aside0.mk (Kd.R_below (by (with_reducible repeat (first | apply Kd.R_alloc | apply Kd.R_drewN | apply Kd.R_drew)); exact HO183.out) hb); have n2_ := Aside0.mk (Kd.R_below (by (with_reducible repeat (first | apply Kd.R_alloc | apply Kd.R_drewN | apply Kd.R_drew)); exact HO205.out) hb); have n3_ := Aside0.mk (blk_below (g := gb166) (o := .cells #[.int .u64 t162, .int .u64 t163, .int .u64 t164, .int .u64 t165] 25 (0, 0)) (by (with_reducible repeat (first | refine blk_drewN ?_ _ | refine blk_drew ?_ | refine blk_alloc ?_ _)); exact BK166.out) hb); have n4_ := Aside0.mk (blk_below (g := gb171) (o := .cells #[.int .u64 t167, .int .u64 t168, .int .u64 t169, .int .u64 t170] 25 (0, 0)) (by (with_reducible repeat (first | refine blk_drewN ?_ _ | refine blk_drew ?_ | refine blk_alloc ?_ _)); exact BK171.out) hb); have n5_ := Aside0.mk (below_step (by repeat (first | (with_reducible first | exact HB.out | apply below_alloc | apply pw_below_drewN | apply below_drew1 | refine below_set ?_ GE166.out | refine below_set ?_ GE171.out) | exact HB.out)) hb); clear HO153; clear HO183; clear HO205; clear BK166; clear BK171; clear HB; have HO153 := n0_; have HO183 := n1_; have HO205 := n2_; have BK166 := n3_; have BK171 := n4_; have HB := n5_; clear n0_ n1_ n2_ n3_ n4_ n5_; (try clear hb); (try clear hb2); (try clear hk); (try clear hi)) | ((with_reducible refine gate_callee (f := 11) rfl ?_); refine goesL_ (some 101) rfl rfl Try.func11 (by kernel_rfl) rfl #[.string ji62] rfl (by (try simp only [List.map_toArray, List.map_cons, List.map_nil]); first | done | (simp only [hji62]; rfl) | rfl | (simp only [List.length_drop, List.length_take]; rfl)) ?_; (with_reducible refine (curl_Parse.calls kj5 ji62 t224 t225 t226 _ A63.out).mono ?_); rintro e w109 ⟨rfl, hb⟩; refine ⟨_, rfl, ?_⟩; have n0_ := Aside0.mk (Kd.R_below (by (with_reducible repeat (first | apply Kd.R_alloc | apply Kd.R_drewN | apply Kd.R_drew)); exact HO153.out) hb); have n1_ := Aside0.mk (Kd.R_below (by (with_reducible repeat (first | apply Kd.R_alloc | apply Kd.R_drewN | apply Kd.R_drew)); exact HO183.out) hb); have n2_ := Aside0.mk (Kd.R_below (by (with_reducible repeat (first | apply Kd.R_alloc | apply Kd.R_drewN | apply Kd.R_drew)); exact HO205.out) hb); have n3_ := Aside0.mk (blk_below (g := gb166) (o := .cells #[.int .u64 t162, .int .u64 t163, .int .u64 t164, .int .u64 t165] 25 (0, 0)) (by (with_reducible repeat (first | refine blk_drewN ?_ _ | refine blk_drew ?_ | refine blk_alloc ?_ _)); exact BK166.out) hb); have n4_ := Aside0.mk (blk_below (g := gb171) (o := .cells #[.int .u64 t167, .int .u64 t168, .int .u64 t169, .int .u64 t170] 25 (0, 0)) (by (with_reducible repeat (first | refine blk_drewN ?_ _ | refine blk_drew ?_ | refine blk_alloc ?_ _)); exact BK171.out) hb); have n5_ := Aside0.mk (below_step (by repeat (first | (with_reducible first | exact HB.out | apply below_alloc | apply pw_below_drewN | apply below_drew1 | refine below_set ?_ GE166.out | refine below_set ?_ GE171.out) | exact HB.out)) hb); clear HO153; clear HO183; clear HO205; clear BK166; clear BK171; clear HB; have HO153 := n0_; have HO183 := n1_; have HO205 := n2_; have BK166 := n3_; have BK171 := n4_; have HB := n5_; clear n0_ n1_ n2_ n3_ n4_ n5_; (try clear hb); (try clear hb2); (try clear hk); (try clear hi)) | ((with_reducible refine gate_dst (N := 18) rfl ?_); (try (refine gate_guard (by rfl) ?_; dsimp only)); refine box_event ?hg (N := 18) ?hd (cs := #[.bool false, .string (⟨#[]⟩ : ByteArray), .string (⟨#[]⟩ : ByteArray)]) (t := 33) ?hr ?_; (case hd => rfl); (case hg => rfl); (case hr => first | (go_simp; done) | (go_simp; rfl)); intro gb227 hg w110 hbox hb; have n0_ := Aside0.mk (Kd.R_below (by (with_reducible repeat (first | apply Kd.R_alloc | apply Kd.R_drewN | apply Kd.R_drew)); exact HO153.out) hb); have n1_ := Aside0.mk (Kd.R_below (by (with_reducible repeat (first | apply Kd.R_alloc | apply Kd.R_drewN | apply Kd.R_drew)); exact HO183.out) hb); have n2_ := Aside0.mk (Kd.R_below (by (with_reducible repeat (first | apply Kd.R_alloc | apply Kd.R_drewN | apply Kd.R_drew)); exact HO205.out) hb); have n3_ := Aside0.mk (blk_below (g := gb166) (o := .cells #[.int .u64 t162, .int .u64 t163, .int .u64 t164, .int .u64 t165] 25 (0, 0)) (by (with_reducible repeat (first | refine blk_drewN ?_ _ | refine blk_drew ?_ | refine blk_alloc ?_ _)); exact BK166.out) hb); have n4_ := Aside0.mk (blk_below (g := gb171) (o := .cells #[.int .u64 t167, .int .u64 t168, .int .u64 t169, .int .u64 t170] 25 (0, 0)) (by (with_reducible repeat (first | refine blk_drewN ?_ _ | refine blk_drew ?_ | refine blk_alloc ?_ _)); exact BK171.out) hb); have n5_ := Aside0.mk (below_step (by repeat (first | (with_reducible first | exact HB.out | apply below_alloc | apply pw_below_drewN | apply below_drew1 | refine below_set ?_ GE166.out | refine below_set ?_ GE171.out) | exact HB.out)) hb); have n6_ := Aside0.mk (hbox); have n7_ := Aside0.mk ((by rw [hg]; exact (below_size (by repeat (first | (with_reducible first | exact HB.out | apply below_alloc | apply pw_below_drewN | apply below_drew1 | refine below_set ?_ GE166.out | refine below_set ?_ GE171.out) | exact HB.out))) : w.heap.size ≤ gb227)); have n8_ := Aside0.mk ((by rw [hg]; exact (below_size (by repeat (first | (with_reducible first | exact HB.out | apply below_alloc | apply pw_below_drewN | apply below_drew1 | refine below_set ?_ GE166.out | refine below_set ?_ GE171.out) | exact HB.out))) : w.heap.size ≤ gb227)); have n9_ := Aside0.mk ((by rw [hg]; exact Nat.ne_of_lt (blk_lt (g := gb166) (o := .cells #[.int .u64 t162, .int .u64 t163, .int .u64 t164, .int .u64 t165] 25 (0, 0)) (by (with_reducible repeat (first | refine blk_drewN ?_ _ | refine blk_drew ?_ | refine blk_alloc ?_ _)); exact BK166.out)) : gb166 ≠ gb227)); have n10_ := Aside0.mk ((by rw [hg]; exact Nat.ne_of_gt (blk_lt (g := gb166) (o := .cells #[.int .u64 t162, .int .u64 t163, .int .u64 t164, .int .u64 t165] 25 (0, 0)) (by (with_reducible repeat (first | refine blk_drewN ?_ _ | refine blk_drew ?_ | refine blk_alloc ?_ _)); exact BK166.out)) : gb227 ≠ gb166)); have n11_ := Aside0.mk ((by rw [hg]; exact Nat.ne_of_lt (blk_lt (g := gb171) (o := .cells #[.int .u64 t167, .int .u64 t168, .int .u64 t169, .int .u64 t170] 25 (0, 0)) (by (with_reducible repeat (first | refine blk_drewN ?_ _ | refine blk_drew ?_ | refine blk_alloc ?_ _)); exact BK171.out)) : gb171 ≠ gb227)); have n12_ := Aside0.mk ((by rw [hg]; exact Nat.ne_of_gt (blk_lt (g := gb171) (o := .cells #[.int .u64 t167, .int .u64 t168, .int .u64 t169, .int .u64 t170] 25 (0, 0)) (by (with_reducible repeat (first | refine blk_drewN ?_ _ | refine blk_drew ?_ | refine blk_alloc ?_ _)); exact BK171.out)) : gb227 ≠ gb171)); clear HO153; clear HO183; clear HO205; clear BK166; clear BK171; clear HB; have HO153 := n0_; have HO183 := n1_; have HO205 := n2_; have BK166 := n3_; have BK171 := n4_; have HB := n5_; have BK227 := n6_; have GW227 := n7_; have GE227 := n8_; have NB166_227 := n9_; have NB227_166 := n10_; have NB171_227 := n11_; have NB227_171 := n12_; clear n0_ n1_ n2_ n3_ n4_ n5_ n6_ n7_ n8_ n9_ n10_ n11_ n12_; clear hb hbox hg; have hnb111 := NB227_166.out; have hnc111 := NB166_227.out; have hnb112 := NB227_171.out; have hnc112 := NB171_227.out; have hcz113_0 : w110.cell? ⟨gb227, 0, none⟩ = some (.bool false) := (blk_cell BK227.out 0).trans rfl; have hcz113_1 : w110.cell? ⟨gb227, 1, none⟩ = some (.string (⟨#[]⟩ : ByteArray)) := (blk_cell BK227.out 1).trans rfl; have hcz113_2 : w110.cell? ⟨gb227, 2, none⟩ = some (.string (⟨#[]⟩ : ByteArray)) := (blk_cell BK227.out 2).trans rfl; have hfz113_0 := blk_frozen BK227.out 0; have hfz113_1 := blk_frozen BK227.out 1; have hfz113_2 := blk_frozen BK227.out 2) | ((with_reducible refine gate_callee (f := 11) rfl ?_); refine goesL_ (some 103) rfl rfl Try.func11 (by kernel_rfl) rfl #[.string ji52] rfl (by (try simp only [List.map_toArray, List.map_cons, List.map_nil]); first | done | (simp only [hji52]; rfl) | rfl | (simp only [List.length_drop, List.length_take]; rfl)) ?_; (with_reducible refine (curl_Parse.calls kj5 ji52 t228 t229 t230 _ A64.out).mono ?_); rintro e w114 ⟨rfl, hb⟩; refine ⟨_, rfl, ?_⟩; have n0_ := Aside0.mk (Kd.R_below (by (with_reducible repeat (first | apply Kd.R_alloc | apply Kd.R_drewN | apply Kd.R_drew)); exact (Kd.R_mono (Kd.R_far (p := ⟨gb227, 2, none⟩) (Kd.R_far (p := ⟨gb227, 1, none⟩) (Kd.R_far (p := ⟨gb227, 0, none⟩) (Kd.R_types HO153.out BK227.out (by decide)) (fun _ hk => hk.2) (.bool t224)) (fun _ hk => hk.2) (.string t225)) (fun _ hk => hk.2) (.string t226)) (fun _ h_ => h_.1))) hb); have n1_ := Aside0.mk (Kd.R_below (by (with_reducible repeat (first | apply Kd.R_alloc | apply Kd.R_drewN | apply Kd.R_drew)); exact (Kd.R_mono (Kd.R_far (p := ⟨gb227, 2, none⟩) (Kd.R_far (p := ⟨gb227, 1, none⟩) (Kd.R_far (p := ⟨gb227, 0, none⟩) (Kd.R_types HO183.out BK227.out (by decide)) (fun _ hk => hk.2) (.bool t224)) (fun _ hk => hk.2) (.string t225)) (fun _ hk => hk.2) (.string t226)) (fun _ h_ => h_.1))) hb); have n2_ := Aside0.mk (Kd.R_below (by (with_reducible repeat (first | apply Kd.R_alloc | apply Kd.R_drewN | apply Kd.R_drew)); exact (Kd.R_mono (Kd.R_far (p := ⟨gb227, 2, none⟩) (Kd.R_far (p := ⟨gb227, 1, none⟩) (Kd.R_far (p := ⟨gb227, 0, none⟩) (Kd.R_types HO205.out BK227.out (by decide)) (fun _ hk => hk.2) (.bool t224)) (fun _ hk => hk.2) (.string t225)) (fun _ hk => hk.2) (.string t226)) (fun _ h_ => h_.1))) hb); have n3_ := Aside0.mk (blk_below (g := gb166) (o := .cells #[.int .u64 t162, .int .u64 t163, .int .u64 t164, .int .u64 t165] 25 (0, 0)) (by (with_reducible repeat (first | refine blk_drewN ?_ _ | refine blk_drew ?_ | refine blk_alloc ?_ _)); refine blk_far ?_ NB166_227.out _; (with_reducible repeat (first | refine blk_drewN ?_ _ | refine blk_drew ?_ | refine blk_alloc ?_ _)); refine blk_far ?_ NB166_227.out _; (with_reducible repeat (first | refine blk_drewN ?_ _ | refine blk_drew ?_ | refine blk_alloc ?_ _)); refine blk_far ?_ NB166_227.out _; (with_reducible repeat (first | refine blk_drewN ?_ _ | refine blk_drew ?_ | refine blk_alloc ?_ _)); exact BK166.out) hb); have n4_ := Aside0.mk (blk_below (g := gb171) (o := .cells #[.int .u64 t167, .int .u64 t168, .int .u64 t169, .int .u64 t170] 25 (0, 0)) (by (with_reducible repeat (first | refine blk_drewN ?_ _ | refine blk_drew ?_ | refine blk_alloc ?_ _)); refine blk_far ?_ NB171_227.out _; (with_reducible repeat (first | refine blk_drewN ?_ _ | refine blk_drew ?_ | refine blk_alloc ?_ _)); refine blk_far ?_ NB171_227.out _; (with_reducible repeat (first | refine blk_drewN ?_ _ | refine blk_drew ?_ | refine blk_alloc ?_ _)); refine blk_far ?_ NB171_227.out _; (with_reducible repeat (first | refine blk_drewN ?_ _ | refine blk_drew ?_ | refine blk_alloc ?_ _)); exact BK171.out) hb); have n5_ := Aside0.mk (blk_below (g := gb227) (o := .cells #[.bool t224, .string t225, .string t226] 33 (0, 0)) (by (with_reducible repeat (first | refine blk_drewN ?_ _ | refine blk_drew ?_ | refine blk_alloc ?_ _)); refine blk_put (cs := #[.bool t224, .string t225, .string (⟨#[]⟩ : ByteArray)]) ?_ 2 _ rfl; (with_reducible repeat (first | refine blk_drewN ?_ _ | refine blk_drew ?_ | refine blk_alloc ?_ _)); refine blk_put (cs := #[.bool t224, .string (⟨#[]⟩ : ByteArray), .string (⟨#[]⟩ : ByteArray)]) ?_ 1 _ rfl; (with_reducible repeat (first | refine blk_drewN ?_ _ | refine blk_drew ?_ | refine blk_alloc ?_ _)); refine blk_put (cs := #[.bool false, .string (⟨#[]⟩ : ByteArray), .string (⟨#[]⟩ : ByteArray)]) ?_ 0 _ rfl; (with_reducible repeat (first | refine blk_drewN ?_ _ | refine blk_drew ?_ | refine blk_alloc ?_ _)); exact BK227.out) hb); have n6_ := Aside0.mk (below_step (by repeat (first | (with_reducible first | exact HB.out | apply below_alloc | apply pw_below_drewN | apply below_drew1 | refine below_set ?_ GE166.out | refine below_set ?_ GE171.out | refine below_set ?_ GE227.out) | exact HB.out)) hb); clear HO153; clear HO183; clear HO205; clear BK166; clear BK171; clear BK227; clear HB; have HO153 := n0_; have HO183 := n1_; have HO205 := n2_; have BK166 := n3_; have BK171 := n4_; have BK227 := n5_; have HB := n6_; clear n0_ n1_ n2_ n3_ n4_ n5_ n6_; (try clear hb); (try clear hb2); (try clear hk); (try clear hi); have hcz115_0 : w114.cell? ⟨gb227, 0, none⟩ = some (.bool t224) := (blk_cell BK227.out 0).trans rfl; have hcz115_1 : w114.cell? ⟨gb227, 1, none⟩ = some (.string t225) := (blk_cell BK227.out 1).trans rfl; have hcz115_2 : w114.cell? ⟨gb227, 2, none⟩ = some (.string t226) := (blk_cell BK227.out 2).trans rfl; have hfz115_0 := blk_frozen BK227.out 0; have hfz115_1 := blk_frozen BK227.out 1; have hfz115_2 := blk_frozen BK227.out 2) | (go_at_call 4; (with_reducible refine (shibbolethlaw22_awake.calls kj5  t231 _ A68.out).mono ?_); rintro e w116 ⟨rfl, hb⟩; have n0_ := Aside0.mk (Kd.R_below (by (with_reducible repeat (first | apply Kd.R_alloc | apply Kd.R_drewN | apply Kd.R_drew)); exact HO153.out) hb); have n1_ := Aside0.mk (Kd.R_below (by (with_reducible repeat (first | apply Kd.R_alloc | apply Kd.R_drewN | apply Kd.R_drew)); exact HO183.out) hb); have n2_ := Aside0.mk (Kd.R_below (by (with_reducible repeat (first | apply Kd.R_alloc | apply Kd.R_drewN | apply Kd.R_drew)); exact HO205.out) hb); have n3_ := Aside0.mk (blk_below (g := gb166) (o := .cells #[.int .u64 t162, .int .u64 t163, .int .u64 t164, .int .u64 t165] 25 (0, 0)) (by (with_reducible repeat (first | refine blk_drewN ?_ _ | refine blk_drew ?_ | refine blk_alloc ?_ _)); exact BK166.out) hb); have n4_ := Aside0.mk (blk_below (g := gb171) (o := .cells #[.int .u64 t167, .int .u64 t168, .int .u64 t169, .int .u64 t170] 25 (0, 0)) (by (with_reducible repeat (first | refine blk_drewN ?_ _ | refine blk_drew ?_ | refine blk_alloc ?_ _)); exact BK171.out) hb); have n5_ := Aside0.mk (blk_below (g := gb227) (o := .cells #[.bool t224, .string t225, .string t226] 33 (0, 0)) (by (with_reducible repeat (first | refine blk_drewN ?_ _ | refine blk_drew ?_ | refine blk_alloc ?_ _)); exact BK227.out) hb); have n6_ := Aside0.mk (below_step (by repeat (first | (with_reducible first | exact HB.out | apply below_alloc | apply pw_below_drewN | apply below_drew1 | refine below_set ?_ GE166.out | refine below_set ?_ GE171.out | refine below_set ?_ GE227.out) | exact HB.out)) hb); clear HO153; clear HO183; clear HO205; clear BK166; clear BK171; clear BK227; clear HB; have HO153 := n0_; have HO183 := n1_; have HO205 := n2_; have BK166 := n3_; have BK171 := n4_; have BK227 := n5_; have HB := n6_; clear n0_ n1_ n2_ n3_ n4_ n5_ n6_; (try clear hb); (try clear hb2); (try clear hk); (try clear hi)))
                                          go_ret
                                          exact ⟨by first | rfl | (simp [errW_none, errW_some] <;> rfl) | (simp only [← hji23, ← hji29, ← hji33, ← hji35, ← hji37, ← hji40, ← hji46, ← hji48, ← hji50, ← hji52, ← hji56, ← hji58, ← hji60, ← hji62]; first | rfl | (simp [errW_none, errW_some] <;> rfl)) | (simp [*, errW_none, errW_some] <;> rfl), by repeat (first | (with_reducible first | exact HB.out | apply below_alloc | apply pw_below_drewN | apply below_drew1 | refine below_set ?_ GE166.out | refine below_set ?_ GE171.out | refine below_set ?_ GE227.out) | exact HB.out)⟩
                                        · rw [if_neg c67] at H
                                          have c67b0 : (!t224 && (t225.toList == ([] : List UInt8) && (t226.toList == ([] : List UInt8)))) = false := by simpa using c67
                                          (try (have c67b1 : (!t224 && ((t225).toList.isEmpty && ((t226).toList.isEmpty))) = false := by simpa using c67))
                                          clear c67
                                          by_cases c117 : (t224 && (t225.toList == ((ji58).toList) && (t226.toList == ((ji29).toList)))) = true
                                          · rw [if_pos c117] at H
                                            have c117b0 : (t224 && (t225.toList == ((ji58).toList) && (t226.toList == ((ji29).toList)))) = true := c117
                                            clear c117
                                            replace H := Option.bind_eq_some_iff.mp H
                                            obtain ⟨t232, A1180, H⟩ := H
                                            try dsimp only at H
                                            have A118 := Aside0.mk A1180
                                            clear A1180
                                            obtain rfl := Option.some.inj H
                                            try go_wp2_with (first | ((with_reducible refine gate_callee (f := 8) rfl ?_); refine goesL_ (some 93) rfl rfl Try.func8 (by kernel_rfl) rfl #[.slice _ _ _] rfl (by (try simp only [List.map_toArray, List.map_cons, List.map_nil]); first | done | rfl | (simp only [List.length_drop, List.length_take]; rfl)) ?_; (with_reducible refine (octets_Of.callsn _ _ ([48, 49, 50, 51, 52, 53, 54, 55, 56, 57, 97, 98, 99, 100, 101, 102, 65, 66, 67, 68, 69, 70, 58, 46] : List Int) t219 t220 t221 t222 _ ?side1 ?side2 A53.out).mono ?_); (case side1 => repeat (first | exact lit8_C _ _ _ _ | exact lit8_Cb _ _ _ _ _ (by simp [go_sem]) | (with_reducible refine Kd.C_alloc ?_ _) | (with_reducible refine Kd.C_drewN ?_ _) | (with_reducible refine Kd.C_drew ?_))); (case side2 => decide); rintro e w157 ⟨rfl, hb⟩; refine ⟨_, rfl, ?_⟩; have n0_ := Aside0.mk (Kd.R_below (by (with_reducible repeat (first | apply Kd.R_alloc | apply Kd.R_drewN | apply Kd.R_drew)); exact HO153.out) hb); have n1_ := Aside0.mk (Kd.R_below (by (with_reducible repeat (first | apply Kd.R_alloc | apply Kd.R_drewN | apply Kd.R_drew)); exact HO183.out) hb); have n2_ := Aside0.mk (Kd.R_below (by (with_reducible repeat (first | apply Kd.R_alloc | apply Kd.R_drewN | apply Kd.R_drew)); exact HO205.out) hb); have n3_ := Aside0.mk (blk_below (g := gb166) (o := .cells #[.int .u64 t162, .int .u64 t163, .int .u64 t164, .int .u64 t165] 25 (0, 0)) (by (with_reducible repeat (first | refine blk_drewN ?_ _ | refine blk_drew ?_ | refine blk_alloc ?_ _)); exact BK166.out) hb); have n4_ := Aside0.mk (blk_below (g := gb171) (o := .cells #[.int .u64 t167, .int .u64 t168, .int .u64 t169, .int .u64 t170] 25 (0, 0)) (by (with_reducible repeat (first | refine blk_drewN ?_ _ | refine blk_drew ?_ | refine blk_alloc ?_ _)); exact BK171.out) hb); have n5_ := Aside0.mk (below_step (by repeat (first | (with_reducible first | exact HB.out | apply below_alloc | apply pw_below_drewN | apply below_drew1 | refine below_set ?_ GE166.out | refine below_set ?_ GE171.out) | exact HB.out)) hb); clear HO153; clear HO183; clear HO205; clear BK166; clear BK171; clear HB; have HO153 := n0_; have HO183 := n1_; have HO205 := n2_; have BK166 := n3_; have BK171 := n4_; have HB := n5_; clear n0_ n1_ n2_ n3_ n4_ n5_; (try clear hb); (try clear hb2); (try clear hk); (try clear hi)) | ((with_reducible refine gate_callee (f := 9) rfl ?_); refine goesL_ (some 94) rfl rfl Try.func9 (by kernel_rfl) rfl #[.string a1, .agg #[.int .u64 t219, .int .u64 t220, .int .u64 t221, .int .u64 t222]] rfl (by (try simp only [List.map_toArray, List.map_cons, List.map_nil]); first | done | rfl | (simp only [List.length_drop, List.length_take]; rfl)) ?_; (with_reducible refine (shibbolethlaw22_only.calls kj5 a1 t219 t220 t221 t222 t223 _ A54.out).mono ?_); rintro e w158 ⟨rfl, hb⟩; refine ⟨_, rfl, ?_⟩; have n0_ := Aside0.mk (Kd.R_below (by (with_reducible repeat (first | apply Kd.R_alloc | apply Kd.R_drewN | apply Kd.R_drew)); exact HO153.out) hb); have n1_ := Aside0.mk (Kd.R_below (by (with_reducible repeat (first | apply Kd.R_alloc | apply Kd.R_drewN | apply Kd.R_drew)); exact HO183.out) hb); have n2_ := Aside0.mk (Kd.R_below (by (with_reducible repeat (first | apply Kd.R_alloc | apply Kd.R_drewN | apply Kd.R_drew)); exact HO205.out) hb); have n3_ := Aside0.mk (blk_below (g := gb166) (o := .cells #[.int .u64 t162, .int .u64 t163, .int .u64 t164, .int .u64 t165] 25 (0, 0)) (by (with_reducible repeat (first | refine blk_drewN ?_ _ | refine blk_drew ?_ | refine blk_alloc ?_ _)); exact BK166.out) hb); have n4_ := Aside0.mk (blk_below (g := gb171) (o := .cells #[.int .u64 t167, .int .u64 t168, .int .u64 t169, .int .u64 t170] 25 (0, 0)) (by (with_reducible repeat (first | refine blk_drewN ?_ _ | refine blk_drew ?_ | refine blk_alloc ?_ _)); exact BK171.out) hb); have n5_ := Aside0.mk (below_step (by repeat (first | (with_reducible first | exact HB.out | apply below_alloc | apply pw_below_drewN | apply below_drew1 | refine below_set ?_ GE166.out | refine below_set ?_ GE171.out) | exact HB.out)) hb); clear HO153; clear HO183; clear HO205; clear BK166; clear BK171; clear HB; have HO153 := n0_; have HO183 := n1_; have HO205 := n2_; have BK166 := n3_; have BK171 := n4_; have HB := n5_; clear n0_ n1_ n2_ n3_ n4_ n5_; (try clear hb); (try clear hb2); (try clear hk); (try clear hi)) | ((with_reducible refine gate_callee (f := 11) rfl ?_); refine goesL_ (some 101) rfl rfl Try.func11 (by kernel_rfl) rfl #[.string ji62] rfl (by (try simp only [List.map_toArray, List.map_cons, List.map_nil]); first | done | (simp only [hji62]; rfl) | rfl | (simp only [List.length_drop, List.length_take]; rfl)) ?_; (with_reducible refine (curl_Parse.calls kj5 ji62 t224 t225 t226 _ A63.out).mono ?_); rintro e w159 ⟨rfl, hb⟩; refine ⟨_, rfl, ?_⟩; have n0_ := Aside0.mk (Kd.R_below (by (with_reducible repeat (first | apply Kd.R_alloc | apply Kd.R_drewN | apply Kd.R_drew)); exact HO153.out) hb); have n1_ := Aside0.mk (Kd.R_below (by (with_reducible repeat (first | apply Kd.R_alloc | apply Kd.R_drewN | apply Kd.R_drew)); exact HO183.out) hb); have n2_ := Aside0.mk (Kd.R_below (by (with_reducible repeat (first | apply Kd.R_alloc | apply Kd.R_drewN | apply Kd.R_drew)); exact HO205.out) hb); have n3_ := Aside0.mk (blk_below (g := gb166) (o := .cells #[.int .u64 t162, .int .u64 t163, .int .u64 t164, .int .u64 t165] 25 (0, 0)) (by (with_reducible repeat (first | refine blk_drewN ?_ _ | refine blk_drew ?_ | refine blk_alloc ?_ _)); exact BK166.out) hb); have n4_ := Aside0.mk (blk_below (g := gb171) (o := .cells #[.int .u64 t167, .int .u64 t168, .int .u64 t169, .int .u64 t170] 25 (0, 0)) (by (with_reducible repeat (first | refine blk_drewN ?_ _ | refine blk_drew ?_ | refine blk_alloc ?_ _)); exact BK171.out) hb); have n5_ := Aside0.mk (below_step (by repeat (first | (with_reducible first | exact HB.out | apply below_alloc | apply pw_below_drewN | apply below_drew1 | refine below_set ?_ GE166.out | refine below_set ?_ GE171.out) | exact HB.out)) hb); clear HO153; clear HO183; clear HO205; clear BK166; clear BK171; clear HB; have HO153 := n0_; have HO183 := n1_; have HO205 := n2_; have BK166 := n3_; have BK171 := n4_; have HB := n5_; clear n0_ n1_ n2_ n3_ n4_ n5_; (try clear hb); (try clear hb2); (try clear hk); (try clear hi)) | ((with_reducible refine gate_dst (N := 18) rfl ?_); (try (refine gate_guard (by rfl) ?_; dsimp only)); refine box_event ?hg (N := 18) ?hd (cs := #[.bool false, .string (⟨#[]⟩ : ByteArray), .string (⟨#[]⟩ : ByteArray)]) (t := 33) ?hr ?_; (case hd => rfl); (case hg => rfl); (case hr => first | (go_simp; done) | (go_simp; rfl)); intro gb227 hg w160 hbox hb; have n0_ := Aside0.mk (Kd.R_below (by (with_reducible repeat (first | apply Kd.R_alloc | apply Kd.R_drewN | apply Kd.R_drew)); exact HO153.out) hb); have n1_ := Aside0.mk (Kd.R_below (by (with_reducible repeat (first | apply Kd.R_alloc | apply Kd.R_drewN | apply Kd.R_drew)); exact HO183.out) hb); have n2_ := Aside0.mk (Kd.R_below (by (with_reducible repeat (first | apply Kd.R_alloc | apply Kd.R_drewN | apply Kd.R_drew)); exact HO205.out) hb); have n3_ := Aside0.mk (blk_below (g := gb166) (o := .cells #[.int .u64 t162, .int .u64 t163, .int .u64 t164, .int .u64 t165] 25 (0, 0)) (by (with_reducible repeat (first | refine blk_drewN ?_ _ | refine blk_drew ?_ | refine blk_alloc ?_ _)); exact BK166.out) hb); have n4_ := Aside0.mk (blk_below (g := gb171) (o := .cells #[.int .u64 t167, .int .u64 t168, .int .u64 t169, .int .u64 t170] 25 (0, 0)) (by (with_reducible repeat (first | refine blk_drewN ?_ _ | refine blk_drew ?_ | refine blk_alloc ?_ _)); exact BK171.out) hb); have n5_ := Aside0.mk (below_step (by repeat (first | (with_reducible first | exact HB.out | apply below_alloc | apply pw_below_drewN | apply below_drew1 | refine below_set ?_ GE166.out | refine below_set ?_ GE171.out) | exact HB.out)) hb); have n6_ := Aside0.mk (hbox); have n7_ := Aside0.mk ((by rw [hg]; exact (below_size (by repeat (first | (with_reducible first | exact HB.out | apply below_alloc | apply pw_below_drewN | apply below_drew1 | refine below_set ?_ GE166.out | refine below_set ?_ GE171.out) | exact HB.out))) : w.heap.size ≤ gb227)); have n8_ := Aside0.mk ((by rw [hg]; exact (below_size (by repeat (first | (with_reducible first | exact HB.out | apply below_alloc | apply pw_below_drewN | apply below_drew1 | refine below_set ?_ GE166.out | refine below_set ?_ GE171.out) | exact HB.out))) : w.heap.size ≤ gb227)); have n9_ := Aside0.mk ((by rw [hg]; exact Nat.ne_of_lt (blk_lt (g := gb166) (o := .cells #[.int .u64 t162, .int .u64 t163, .int .u64 t164, .int .u64 t165] 25 (0, 0)) (by (with_reducible repeat (first | refine blk_drewN ?_ _ | refine blk_drew ?_ | refine blk_alloc ?_ _)); exact BK166.out)) : gb166 ≠ gb227)); have n10_ := Aside0.mk ((by rw [hg]; exact Nat.ne_of_gt (blk_lt (g := gb166) (o := .cells #[.int .u64 t162, .int .u64 t163, .int .u64 t164, .int .u64 t165] 25 (0, 0)) (by (with_reducible repeat (first | refine blk_drewN ?_ _ | refine blk_drew ?_ | refine blk_alloc ?_ _)); exact BK166.out)) : gb227 ≠ gb166)); have n11_ := Aside0.mk ((by rw [hg]; exact Nat.ne_of_lt (blk_lt (g := gb171) (o := .cells #[.int .u64 t167, .int .u64 t168, .int .u64 t169, .int .u64 t170] 25 (0, 0)) (by (with_reducible repeat (first | refine blk_drewN ?_ _ | refine blk_drew ?_ | refine blk_alloc ?_ _)); exact BK171.out)) : gb171 ≠ gb227)); have n12_ := Aside0.mk ((by rw [hg]; exact Nat.ne_of_gt (blk_lt (g := gb171) (o := .cells #[.int .u64 t167, .int .u64 t168, .int .u64 t169, .int .u64 t170] 25 (0, 0)) (by (with_reducible repeat (first | refine blk_drewN ?_ _ | refine blk_drew ?_ | refine blk_alloc ?_ _)); exact BK171.out)) : gb227 ≠ gb171)); clear HO153; clear HO183; clear HO205; clear BK166; clear BK171; clear HB; have HO153 := n0_; have HO183 := n1_; have HO205 := n2_; have BK166 := n3_; have BK171 := n4_; have HB := n5_; have BK227 := n6_; have GW227 := n7_; have GE227 := n8_; have NB166_227 := n9_; have NB227_166 := n10_; have NB171_227 := n11_; have NB227_171 := n12_; clear n0_ n1_ n2_ n3_ n4_ n5_ n6_ n7_ n8_ n9_ n10_ n11_ n12_; clear hb hbox hg; have hnb161 := NB227_166.out; have hnc161 := NB166_227.out; have hnb162 := NB227_171.out; have hnc162 := NB171_227.out; have hcz163_0 : w160.cell? ⟨gb227, 0, none⟩ = some (.bool false) := (blk_cell BK227.out 0).trans rfl; have hcz163_1 : w160.cell? ⟨gb227, 1, none⟩ = some (.string (⟨#[]⟩ : ByteArray)) := (blk_cell BK227.out 1).trans rfl; have hcz163_2 : w160.cell? ⟨gb227, 2, none⟩ = some (.string (⟨#[]⟩ : ByteArray)) := (blk_cell BK227.out 2).trans rfl; have hfz163_0 := blk_frozen BK227.out 0; have hfz163_1 := blk_frozen BK227.out 1; have hfz163_2 := blk_frozen BK227.out 2) | ((with_reducible refine gate_callee (f := 11) rfl ?_); refine goesL_ (some 103) rfl rfl Try.func11 (by kernel_rfl) rfl #[.string ji52] rfl (by (try simp only [List.map_toArray, List.map_cons, List.map_nil]); first | done | (simp only [hji52]; rfl) | rfl | (simp only [List.length_drop, List.length_take]; rfl)) ?_; (with_reducible refine (curl_Parse.calls kj5 ji52 t228 t229 t230 _ A64.out).mono ?_); rintro e w164 ⟨rfl, hb⟩; refine ⟨_, rfl, ?_⟩; have n0_ := Aside0.mk (Kd.R_below (by (with_reducible repeat (first | apply Kd.R_alloc | apply Kd.R_drewN | apply Kd.R_drew)); exact (Kd.R_mono (Kd.R_far (p := ⟨gb227, 2, none⟩) (Kd.R_far (p := ⟨gb227, 1, none⟩) (Kd.R_far (p := ⟨gb227, 0, none⟩) (Kd.R_types HO153.out BK227.out (by decide)) (fun _ hk => hk.2) (.bool t224)) (fun _ hk => hk.2) (.string t225)) (fun _ hk => hk.2) (.string t226)) (fun _ h_ => h_.1))) hb); have n1_ := Aside0.mk (Kd.R_below (by (with_reducible repeat (first | apply Kd.R_alloc | apply Kd.R_drewN | apply Kd.R_drew)); exact (Kd.R_mono (Kd.R_far (p := ⟨gb227, 2, none⟩) (Kd.R_far (p := ⟨gb227, 1, none⟩) (Kd.R_far (p := ⟨gb227, 0, none⟩) (Kd.R_types HO183.out BK227.out (by decide)) (fun _ hk => hk.2) (.bool t224)) (fun _ hk => hk.2) (.string t225)) (fun _ hk => hk.2) (.string t226)) (fun _ h_ => h_.1))) hb); have n2_ := Aside0.mk (Kd.R_below (by (with_reducible repeat (first | apply Kd.R_alloc | apply Kd.R_drewN | apply Kd.R_drew)); exact (Kd.R_mono (Kd.R_far (p := ⟨gb227, 2, none⟩) (Kd.R_far (p := ⟨gb227, 1, none⟩) (Kd.R_far (p := ⟨gb227, 0, none⟩) (Kd.R_types HO205.out BK227.out (by decide)) (fun _ hk => hk.2) (.bool t224)) (fun _ hk => hk.2) (.string t225)) (fun _ hk => hk.2) (.string t226)) (fun _ h_ => h_.1))) hb); have n3_ := Aside0.mk (blk_below (g := gb166) (o := .cells #[.int .u64 t162, .int .u64 t163, .int .u64 t164, .int .u64 t165] 25 (0, 0)) (by (with_reducible repeat (first | refine blk_drewN ?_ _ | refine blk_drew ?_ | refine blk_alloc ?_ _)); refine blk_far ?_ NB166_227.out _; (with_reducible repeat (first | refine blk_drewN ?_ _ | refine blk_drew ?_ | refine blk_alloc ?_ _)); refine blk_far ?_ NB166_227.out _; (with_reducible repeat (first | refine blk_drewN ?_ _ | refine blk_drew ?_ | refine blk_alloc ?_ _)); refine blk_far ?_ NB166_227.out _; (with_reducible repeat (first | refine blk_drewN ?_ _ | refine blk_drew ?_ | refine blk_alloc ?_ _)); exact BK166.out) hb); have n4_ := Aside0.mk (blk_below (g := gb171) (o := .cells #[.int .u64 t167, .int .u64 t168, .int .u64 t169, .int .u64 t170] 25 (0, 0)) (by (with_reducible repeat (first | refine blk_drewN ?_ _ | refine blk_drew ?_ | refine blk_alloc ?_ _)); refine blk_far ?_ NB171_227.out _; (with_reducible repeat (first | refine blk_drewN ?_ _ | refine blk_drew ?_ | refine blk_alloc ?_ _)); refine blk_far ?_ NB171_227.out _; (with_reducible repeat (first | refine blk_drewN ?_ _ | refine blk_drew ?_ | refine blk_alloc ?_ _)); refine blk_far ?_ NB171_227.out _; (with_reducible repeat (first | refine blk_drewN ?_ _ | refine blk_drew ?_ | refine blk_alloc ?_ _)); exact BK171.out) hb); have n5_ := Aside0.mk (blk_below (g := gb227) (o := .cells #[.bool t224, .string t225, .string t226] 33 (0, 0)) (by (with_reducible repeat (first | refine blk_drewN ?_ _ | refine blk_drew ?_ | refine blk_alloc ?_ _)); refine blk_put (cs := #[.bool t224, .string t225, .string (⟨#[]⟩ : ByteArray)]) ?_ 2 _ rfl; (with_reducible repeat (first | refine blk_drewN ?_ _ | refine blk_drew ?_ | refine blk_alloc ?_ _)); refine blk_put (cs := #[.bool t224, .string (⟨#[]⟩ : ByteArray), .string (⟨#[]⟩ : ByteArray)]) ?_ 1 _ rfl; (with_reducible repeat (first | refine blk_drewN ?_ _ | refine blk_drew ?_ | refine blk_alloc ?_ _)); refine blk_put (cs := #[.bool false, .string (⟨#[]⟩ : ByteArray), .string (⟨#[]⟩ : ByteArray)]) ?_ 0 _ rfl; (with_reducible repeat (first | refine blk_drewN ?_ _ | refine blk_drew ?_ | refine blk_alloc ?_ _)); exact BK227.out) hb); have n6_ := Aside0.mk (below_step (by repeat (first | (with_reducible first | exact HB.out | apply below_alloc | apply pw_below_drewN | apply below_drew1 | refine below_set ?_ GE166.out | refine below_set ?_ GE171.out | refine below_set ?_ GE227.out) | exact HB.out)) hb); clear HO153; clear HO183; clear HO205; clear BK166; clear BK171; clear BK227; clear HB; have HO153 := n0_; have HO183 := n1_; have HO205 := n2_; have BK166 := n3_; have BK171 := n4_; have BK227 := n5_; have HB := n6_; clear n0_ n1_ n2_ n3_ n4_ n5_ n6_; (try clear hb); (try clear hb2); (try clear hk); (try clear hi); have hcz165_0 : w164.cell? ⟨gb227, 0, none⟩ = some (.bool t224) := (blk_cell BK227.out 0).trans rfl; have hcz165_1 : w164.cell? ⟨gb227, 1, none⟩ = some (.string t225) := (blk_cell BK227.out 1).trans rfl; have hcz165_2 : w164.cell? ⟨gb227, 2, none⟩ = some (.string t226) := (blk_cell BK227.out 2).trans rfl; have hfz165_0 := blk_frozen BK227.out 0; have hfz165_1 := blk_frozen BK227.out 1; have hfz165_2 := blk_frozen BK227.out 2) | (go_at_call 4; (with_reducible refine (shibbolethlaw22_awake.calls kj5  t232 _ A118.out).mono ?_); rintro e w166 ⟨rfl, hb⟩; have n0_ := Aside0.mk (Kd.R_below (by (with_reducible repeat (first | apply Kd.R_alloc | apply Kd.R_drewN | apply Kd.R_drew)); exact HO153.out) hb); have n1_ := Aside0.mk (Kd.R_below (by (with_reducible repeat (first | apply Kd.R_alloc | apply Kd.R_drewN | apply Kd.R_drew)); exact HO183.out) hb); have n2_ := Aside0.mk (Kd.R_below (by (with_reducible repeat (first | apply Kd.R_alloc | apply Kd.R_drewN | apply Kd.R_drew)); exact HO205.out) hb); have n3_ := Aside0.mk (blk_below (g := gb166) (o := .cells #[.int .u64 t162, .int .u64 t163, .int .u64 t164, .int .u64 t165] 25 (0, 0)) (by (with_reducible repeat (first | refine blk_drewN ?_ _ | refine blk_drew ?_ | refine blk_alloc ?_ _)); exact BK166.out) hb); have n4_ := Aside0.mk (blk_below (g := gb171) (o := .cells #[.int .u64 t167, .int .u64 t168, .int .u64 t169, .int .u64 t170] 25 (0, 0)) (by (with_reducible repeat (first | refine blk_drewN ?_ _ | refine blk_drew ?_ | refine blk_alloc ?_ _)); exact BK171.out) hb); have n5_ := Aside0.mk (blk_below (g := gb227) (o := .cells #[.bool t224, .string t225, .string t226] 33 (0, 0)) (by (with_reducible repeat (first | refine blk_drewN ?_ _ | refine blk_drew ?_ | refine blk_alloc ?_ _)); exact BK227.out) hb); have n6_ := Aside0.mk (below_step (by repeat (first | (with_reducible first | exact HB.out | apply below_alloc | apply pw_below_drewN | apply below_drew1 | refine below_set ?_ GE166.out | refine below_set ?_ GE171.out | refine below_set ?_ GE227.out) | exact HB.out)) hb); clear HO153; clear HO183; clear HO205; clear BK166; clear BK171; clear BK227; clear HB; have HO153 := n0_; have HO183 := n1_; have HO205 := n2_; have BK166 := n3_; have BK171 := n4_; have BK227 := n5_; have HB := n6_; clear n0_ n1_ n2_ n3_ n4_ n5_ n6_; (try clear hb); (try clear hb2); (try clear hk); (try clear hi)))
                                            go_ret
                                            exact ⟨by first | rfl | (simp [errW_none, errW_some] <;> rfl) | (simp only [← hji23, ← hji29, ← hji33, ← hji35, ← hji37, ← hji40, ← hji46, ← hji48, ← hji50, ← hji52, ← hji56, ← hji58, ← hji60, ← hji62]; first | rfl | (simp [errW_none, errW_some] <;> rfl)) | (simp [*, errW_none, errW_some] <;> rfl), by repeat (first | (with_reducible first | exact HB.out | apply below_alloc | apply pw_below_drewN | apply below_drew1 | refine below_set ?_ GE166.out | refine below_set ?_ GE171.out | refine below_set ?_ GE227.out) | exact HB.out)⟩
                                          · rw [if_neg c117] at H
                                            have c117b0 : (t224 && (t225.toList == ((ji58).toList) && (t226.toList == ((ji29).toList)))) = false := by simpa using c117
                                            clear c117
                                            obtain rfl := Option.some.inj H
                                            try go_wp2_with (first | ((with_reducible refine gate_callee (f := 8) rfl ?_); refine goesL_ (some 93) rfl rfl Try.func8 (by kernel_rfl) rfl #[.slice _ _ _] rfl (by (try simp only [List.map_toArray, List.map_cons, List.map_nil]); first | done | rfl | (simp only [List.length_drop, List.length_take]; rfl)) ?_; (with_reducible refine (octets_Of.callsn _ _ ([48, 49, 50, 51, 52, 53, 54, 55, 56, 57, 97, 98, 99, 100, 101, 102, 65, 66, 67, 68, 69, 70, 58, 46] : List Int) t219 t220 t221 t222 _ ?side1 ?side2 A53.out).mono ?_); (case side1 => repeat (first | exact lit8_C _ _ _ _ | exact lit8_Cb _ _ _ _ _ (by simp [go_sem]) | (with_reducible refine Kd.C_alloc ?_ _) | (with_reducible refine Kd.C_drewN ?_ _) | (with_reducible refine Kd.C_drew ?_))); (case side2 => decide); rintro e w205 ⟨rfl, hb⟩; refine ⟨_, rfl, ?_⟩; have n0_ := Aside0.mk (Kd.R_below (by (with_reducible repeat (first | apply Kd.R_alloc | apply Kd.R_drewN | apply Kd.R_drew)); exact HO153.out) hb); have n1_ := Aside0.mk (Kd.R_below (by (with_reducible repeat (first | apply Kd.R_alloc | apply Kd.R_drewN | apply Kd.R_drew)); exact HO183.out) hb); have n2_ := Aside0.mk (Kd.R_below (by (with_reducible repeat (first | apply Kd.R_alloc | apply Kd.R_drewN | apply Kd.R_drew)); exact HO205.out) hb); have n3_ := Aside0.mk (blk_below (g := gb166) (o := .cells #[.int .u64 t162, .int .u64 t163, .int .u64 t164, .int .u64 t165] 25 (0, 0)) (by (with_reducible repeat (first | refine blk_drewN ?_ _ | refine blk_drew ?_ | refine blk_alloc ?_ _)); exact BK166.out) hb); have n4_ := Aside0.mk (blk_below (g := gb171) (o := .cells #[.int .u64 t167, .int .u64 t168, .int .u64 t169, .int .u64 t170] 25 (0, 0)) (by (with_reducible repeat (first | refine blk_drewN ?_ _ | refine blk_drew ?_ | refine blk_alloc ?_ _)); exact BK171.out) hb); have n5_ := Aside0.mk (below_step (by repeat (first | (with_reducible first | exact HB.out | apply below_alloc | apply pw_below_drewN | apply below_drew1 | refine below_set ?_ GE166.out | refine below_set ?_ GE171.out) | exact HB.out)) hb); clear HO153; clear HO183; clear HO205; clear BK166; clear BK171; clear HB; have HO153 := n0_; have HO183 := n1_; have HO205 := n2_; have BK166 := n3_; have BK171 := n4_; have HB := n5_; clear n0_ n1_ n2_ n3_ n4_ n5_; (try clear hb); (try clear hb2); (try clear hk); (try clear hi)) | ((with_reducible refine gate_callee (f := 9) rfl ?_); refine goesL_ (some 94) rfl rfl Try.func9 (by kernel_rfl) rfl #[.string a1, .agg #[.int .u64 t219, .int .u64 t220, .int .u64 t221, .int .u64 t222]] rfl (by (try simp only [List.map_toArray, List.map_cons, List.map_nil]); first | done | rfl | (simp only [List.length_drop, List.length_take]; rfl)) ?_; (with_reducible refine (shibbolethlaw22_only.calls kj5 a1 t219 t220 t221 t222 t223 _ A54.out).mono ?_); rintro e w206 ⟨rfl, hb⟩; refine ⟨_, rfl, ?_⟩; have n0_ := Aside0.mk (Kd.R_below (by (with_reducible repeat (first | apply Kd.R_alloc | apply Kd.R_drewN | apply Kd.R_drew)); exact HO153.out) hb); have n1_ := Aside0.mk (Kd.R_below (by (with_reducible repeat (first | apply Kd.R_alloc | apply Kd.R_drewN | apply Kd.R_drew)); exact HO183.out) hb); have n2_ := Aside0.mk (Kd.R_below (by (with_reducible repeat (first | apply Kd.R_alloc | apply Kd.R_drewN | apply Kd.R_drew)); exact HO205.out) hb); have n3_ := Aside0.mk (blk_below (g := gb166) (o := .cells #[.int .u64 t162, .int .u64 t163, .int .u64 t164, .int .u64 t165] 25 (0, 0)) (by (with_reducible repeat (first | refine blk_drewN ?_ _ | refine blk_drew ?_ | refine blk_alloc ?_ _)); exact BK166.out) hb); have n4_ := Aside0.mk (blk_below (g := gb171) (o := .cells #[.int .u64 t167, .int .u64 t168, .int .u64 t169, .int .u64 t170] 25 (0, 0)) (by (with_reducible repeat (first | refine blk_drewN ?_ _ | refine blk_drew ?_ | refine blk_alloc ?_ _)); exact BK171.out) hb); have n5_ := Aside0.mk (below_step (by repeat (first | (with_reducible first | exact HB.out | apply below_alloc | apply pw_below_drewN | apply below_drew1 | refine below_set ?_ GE166.out | refine below_set ?_ GE171.out) | exact HB.out)) hb); clear HO153; clear HO183; clear HO205; clear BK166; clear BK171; clear HB; have HO153 := n0_; have HO183 := n1_; have HO205 := n2_; have BK166 := n3_; have BK171 := n4_; have HB := n5_; clear n0_ n1_ n2_ n3_ n4_ n5_; (try clear hb); (try clear hb2); (try clear hk); (try clear hi)) | ((with_reducible refine gate_callee (f := 11) rfl ?_); refine goesL_ (some 101) rfl rfl Try.func11 (by kernel_rfl) rfl #[.string ji62] rfl (by (try simp only [List.map_toArray, List.map_cons, List.map_nil]); first | done | (simp only [hji62]; rfl) | rfl | (simp only [List.length_drop, List.length_take]; rfl)) ?_; (with_reducible refine (curl_Parse.calls kj5 ji62 t224 t225 t226 _ A63.out).mono ?_); rintro e w207 ⟨rfl, hb⟩; refine ⟨_, rfl, ?_⟩; have n0_ := Aside0.mk (Kd.R_below (by (with_reducible repeat (first | apply Kd.R_alloc | apply Kd.R_drewN | apply Kd.R_drew)); exact HO153.out) hb); have n1_ := Aside0.mk (Kd.R_below (by (with_reducible repeat (first | apply Kd.R_alloc | apply Kd.R_drewN | apply Kd.R_drew)); exact HO183.out) hb); have n2_ := Aside0.mk (Kd.R_below (by (with_reducible repeat (first | apply Kd.R_alloc | apply Kd.R_drewN | apply Kd.R_drew)); exact HO205.out) hb); have n3_ := Aside0.mk (blk_below (g := gb166) (o := .cells #[.int .u64 t162, .int .u64 t163, .int .u64 t164, .int .u64 t165] 25 (0, 0)) (by (with_reducible repeat (first | refine blk_drewN ?_ _ | refine blk_drew ?_ | refine blk_alloc ?_ _)); exact BK166.out) hb); have n4_ := Aside0.mk (blk_below (g := gb171) (o := .cells #[.int .u64 t167, .int .u64 t168, .int .u64 t169, .int .u64 t170] 25 (0, 0)) (by (with_reducible repeat (first | refine blk_drewN ?_ _ | refine blk_drew ?_ | refine blk_alloc ?_ _)); exact BK171.out) hb); have n5_ := Aside0.mk (below_step (by repeat (first | (with_reducible first | exact HB.out | apply below_alloc | apply pw_below_drewN | apply below_drew1 | refine below_set ?_ GE166.out | refine below_set ?_ GE171.out) | exact HB.out)) hb); clear HO153; clear HO183; clear HO205; clear BK166; clear BK171; clear HB; have HO153 := n0_; have HO183 := n1_; have HO205 := n2_; have BK166 := n3_; have BK171 := n4_; have HB := n5_; clear n0_ n1_ n2_ n3_ n4_ n5_; (try clear hb); (try clear hb2); (try clear hk); (try clear hi)) | ((with_reducible refine gate_dst (N := 18) rfl ?_); (try (refine gate_guard (by rfl) ?_; dsimp only)); refine box_event ?hg (N := 18) ?hd (cs := #[.bool false, .string (⟨#[]⟩ : ByteArray), .string (⟨#[]⟩ : ByteArray)]) (t := 33) ?hr ?_; (case hd => rfl); (case hg => rfl); (case hr => first | (go_simp; done) | (go_simp; rfl)); intro gb227 hg w208 hbox hb; have n0_ := Aside0.mk (Kd.R_below (by (with_reducible repeat (first | apply Kd.R_alloc | apply Kd.R_drewN | apply Kd.R_drew)); exact HO153.out) hb); have n1_ := Aside0.mk (Kd.R_below (by (with_reducible repeat (first | apply Kd.R_alloc | apply Kd.R_drewN | apply Kd.R_drew)); exact HO183.out) hb); have n2_ := Aside0.mk (Kd.R_below (by (with_reducible repeat (first | apply Kd.R_alloc | apply Kd.R_drewN | apply Kd.R_drew)); exact HO205.out) hb); have n3_ := Aside0.mk (blk_below (g := gb166) (o := .cells #[.int .u64 t162, .int .u64 t163, .int .u64 t164, .int .u64 t165] 25 (0, 0)) (by (with_reducible repeat (first | refine blk_drewN ?_ _ | refine blk_drew ?_ | refine blk_alloc ?_ _)); exact BK166.out) hb); have n4_ := Aside0.mk (blk_below (g := gb171) (o := .cells #[.int .u64 t167, .int .u64 t168, .int .u64 t169, .int .u64 t170] 25 (0, 0)) (by (with_reducible repeat (first | refine blk_drewN ?_ _ | refine blk_drew ?_ | refine blk_alloc ?_ _)); exact BK171.out) hb); have n5_ := Aside0.mk (below_step (by repeat (first | (with_reducible first | exact HB.out | apply below_alloc | apply pw_below_drewN | apply below_drew1 | refine below_set ?_ GE166.out | refine below_set ?_ GE171.out) | exact HB.out)) hb); have n6_ := Aside0.mk (hbox); have n7_ := Aside0.mk ((by rw [hg]; exact (below_size (by repeat (first | (with_reducible first | exact HB.out | apply below_alloc | apply pw_below_drewN | apply below_drew1 | refine below_set ?_ GE166.out | refine below_set ?_ GE171.out) | exact HB.out))) : w.heap.size ≤ gb227)); have n8_ := Aside0.mk ((by rw [hg]; exact (below_size (by repeat (first | (with_reducible first | exact HB.out | apply below_alloc | apply pw_below_drewN | apply below_drew1 | refine below_set ?_ GE166.out | refine below_set ?_ GE171.out) | exact HB.out))) : w.heap.size ≤ gb227)); have n9_ := Aside0.mk ((by rw [hg]; exact Nat.ne_of_lt (blk_lt (g := gb166) (o := .cells #[.int .u64 t162, .int .u64 t163, .int .u64 t164, .int .u64 t165] 25 (0, 0)) (by (with_reducible repeat (first | refine blk_drewN ?_ _ | refine blk_drew ?_ | refine blk_alloc ?_ _)); exact BK166.out)) : gb166 ≠ gb227)); have n10_ := Aside0.mk ((by rw [hg]; exact Nat.ne_of_gt (blk_lt (g := gb166) (o := .cells #[.int .u64 t162, .int .u64 t163, .int .u64 t164, .int .u64 t165] 25 (0, 0)) (by (with_reducible repeat (first | refine blk_drewN ?_ _ | refine blk_drew ?_ | refine blk_alloc ?_ _)); exact BK166.out)) : gb227 ≠ gb166)); have n11_ := Aside0.mk ((by rw [hg]; exact Nat.ne_of_lt (blk_lt (g := gb171) (o := .cells #[.int .u64 t167, .int .u64 t168, .int .u64 t169, .int .u64 t170] 25 (0, 0)) (by (with_reducible repeat (first | refine blk_drewN ?_ _ | refine blk_drew ?_ | refine blk_alloc ?_ _)); exact BK171.out)) : gb171 ≠ gb227)); have n12_ := Aside0.mk ((by rw [hg]; exact Nat.ne_of_gt (blk_lt (g := gb171) (o := .cells #[.int .u64 t167, .int .u64 t168, .int .u64 t169, .int .u64 t170] 25 (0, 0)) (by (with_reducible repeat (first | refine blk_drewN ?_ _ | refine blk_drew ?_ | refine blk_alloc ?_ _)); exact BK171.out)) : gb227 ≠ gb171)); clear HO153; clear HO183; clear HO205; clear BK166; clear BK171; clear HB; have HO153 := n0_; have HO183 := n1_; have HO205 := n2_; have BK166 := n3_; have BK171 := n4_; have HB := n5_; have BK227 := n6_; have GW227 := n7_; have GE227 := n8_; have NB166_227 := n9_; have NB227_166 := n10_; have NB171_227 := n11_; have NB227_171 := n12_; clear n0_ n1_ n2_ n3_ n4_ n5_ n6_ n7_ n8_ n9_ n10_ n11_ n12_; clear hb hbox hg; have hnb209 := NB227_166.out; have hnc209 := NB166_227.out; have hnb210 := NB227_171.out; have hnc210 := NB171_227.out; have hcz211_0 : w208.cell? ⟨gb227, 0, none⟩ = some (.bool false) := (blk_cell BK227.out 0).trans rfl; have hcz211_1 : w208.cell? ⟨gb227, 1, none⟩ = some (.string (⟨#[]⟩ : ByteArray)) := (blk_cell BK227.out 1).trans rfl; have hcz211_2 : w208.cell? ⟨gb227, 2, none⟩ = some (.string (⟨#[]⟩ : ByteArray)) := (blk_cell BK227.out 2).trans rfl; have hfz211_0 := blk_frozen BK227.out 0; have hfz211_1 := blk_frozen BK227.out 1; have hfz211_2 := blk_frozen BK227.out 2) | ((with_reducible refine gate_callee (f := 11) rfl ?_); refine goesL_ (some 103) rfl rfl Try.func11 (by kernel_rfl) rfl #[.string ji52] rfl (by (try simp only [List.map_toArray, List.map_cons, List.map_nil]); first | done | (simp only [hji52]; rfl) | rfl | (simp only [List.length_drop, List.length_take]; rfl)) ?_; (with_reducible refine (curl_Parse.calls kj5 ji52 t228 t229 t230 _ A64.out).mono ?_); rintro e w212 ⟨rfl, hb⟩; refine ⟨_, rfl, ?_⟩; have n0_ := Aside0.mk (Kd.R_below (by (with_reducible repeat (first | apply Kd.R_alloc | apply Kd.R_drewN | apply Kd.R_drew)); exact (Kd.R_mono (Kd.R_far (p := ⟨gb227, 2, none⟩) (Kd.R_far (p := ⟨gb227, 1, none⟩) (Kd.R_far (p := ⟨gb227, 0, none⟩) (Kd.R_types HO153.out BK227.out (by decide)) (fun _ hk => hk.2) (.bool t224)) (fun _ hk => hk.2) (.string t225)) (fun _ hk => hk.2) (.string t226)) (fun _ h_ => h_.1))) hb); have n1_ := Aside0.mk (Kd.R_below (by (with_reducible repeat (first | apply Kd.R_alloc | apply Kd.R_drewN | apply Kd.R_drew)); exact (Kd.R_mono (Kd.R_far (p := ⟨gb227, 2, none⟩) (Kd.R_far (p := ⟨gb227, 1, none⟩) (Kd.R_far (p := ⟨gb227, 0, none⟩) (Kd.R_types HO183.out BK227.out (by decide)) (fun _ hk => hk.2) (.bool t224)) (fun _ hk => hk.2) (.string t225)) (fun _ hk => hk.2) (.string t226)) (fun _ h_ => h_.1))) hb); have n2_ := Aside0.mk (Kd.R_below (by (with_reducible repeat (first | apply Kd.R_alloc | apply Kd.R_drewN | apply Kd.R_drew)); exact (Kd.R_mono (Kd.R_far (p := ⟨gb227, 2, none⟩) (Kd.R_far (p := ⟨gb227, 1, none⟩) (Kd.R_far (p := ⟨gb227, 0, none⟩) (Kd.R_types HO205.out BK227.out (by decide)) (fun _ hk => hk.2) (.bool t224)) (fun _ hk => hk.2) (.string t225)) (fun _ hk => hk.2) (.string t226)) (fun _ h_ => h_.1))) hb); have n3_ := Aside0.mk (blk_below (g := gb166) (o := .cells #[.int .u64 t162, .int .u64 t163, .int .u64 t164, .int .u64 t165] 25 (0, 0)) (by (with_reducible repeat (first | refine blk_drewN ?_ _ | refine blk_drew ?_ | refine blk_alloc ?_ _)); refine blk_far ?_ NB166_227.out _; (with_reducible repeat (first | refine blk_drewN ?_ _ | refine blk_drew ?_ | refine blk_alloc ?_ _)); refine blk_far ?_ NB166_227.out _; (with_reducible repeat (first | refine blk_drewN ?_ _ | refine blk_drew ?_ | refine blk_alloc ?_ _)); refine blk_far ?_ NB166_227.out _; (with_reducible repeat (first | refine blk_drewN ?_ _ | refine blk_drew ?_ | refine blk_alloc ?_ _)); exact BK166.out) hb); have n4_ := Aside0.mk (blk_below (g := gb171) (o := .cells #[.int .u64 t167, .int .u64 t168, .int .u64 t169, .int .u64 t170] 25 (0, 0)) (by (with_reducible repeat (first | refine blk_drewN ?_ _ | refine blk_drew ?_ | refine blk_alloc ?_ _)); refine blk_far ?_ NB171_227.out _; (with_reducible repeat (first | refine blk_drewN ?_ _ | refine blk_drew ?_ | refine blk_alloc ?_ _)); refine blk_far ?_ NB171_227.out _; (with_reducible repeat (first | refine blk_drewN ?_ _ | refine blk_drew ?_ | refine blk_alloc ?_ _)); refine blk_far ?_ NB171_227.out _; (with_reducible repeat (first | refine blk_drewN ?_ _ | refine blk_drew ?_ | refine blk_alloc ?_ _)); exact BK171.out) hb); have n5_ := Aside0.mk (blk_below (g := gb227) (o := .cells #[.bool t224, .string t225, .string t226] 33 (0, 0)) (by (with_reducible repeat (first | refine blk_drewN ?_ _ | refine blk_drew ?_ | refine blk_alloc ?_ _)); refine blk_put (cs := #[.bool t224, .string t225, .string (⟨#[]⟩ : ByteArray)]) ?_ 2 _ rfl; (with_reducible repeat (first | refine blk_drewN ?_ _ | refine blk_drew ?_ | refine blk_alloc ?_ _)); refine blk_put (cs := #[.bool t224, .string (⟨#[]⟩ : ByteArray), .string (⟨#[]⟩ : ByteArray)]) ?_ 1 _ rfl; (with_reducible repeat (first | refine blk_drewN ?_ _ | refine blk_drew ?_ | refine blk_alloc ?_ _)); refine blk_put (cs := #[.bool false, .string (⟨#[]⟩ : ByteArray), .string (⟨#[]⟩ : ByteArray)]) ?_ 0 _ rfl; (with_reducible repeat (first | refine blk_drewN ?_ _ | refine blk_drew ?_ | refine blk_alloc ?_ _)); exact BK227.out) hb); have n6_ := Aside0.mk (below_step (by repeat (first | (with_reducible first | exact HB.out | apply below_alloc | apply pw_below_drewN | apply below_drew1 | refine below_set ?_ GE166.out | refine below_set ?_ GE171.out | refine below_set ?_ GE227.out) | exact HB.out)) hb); clear HO153; clear HO183; clear HO205; clear BK166; clear BK171; clear BK227; clear HB; have HO153 := n0_; have HO183 := n1_; have HO205 := n2_; have BK166 := n3_; have BK171 := n4_; have BK227 := n5_; have HB := n6_; clear n0_ n1_ n2_ n3_ n4_ n5_ n6_; (try clear hb); (try clear hb2); (try clear hk); (try clear hi); have hcz213_0 : w212.cell? ⟨gb227, 0, none⟩ = some (.bool t224) := (blk_cell BK227.out 0).trans rfl; have hcz213_1 : w212.cell? ⟨gb227, 1, none⟩ = some (.string t225) := (blk_cell BK227.out 1).trans rfl; have hcz213_2 : w212.cell? ⟨gb227, 2, none⟩ = some (.string t226) := (blk_cell BK227.out 2).trans rfl; have hfz213_0 := blk_frozen BK227.out 0; have hfz213_1 := blk_frozen BK227.out 1; have hfz213_2 := blk_frozen BK227.out 2))
                                            go_ret
                                            exact ⟨by first | rfl | (simp [errW_none, errW_some] <;> rfl) | (simp only [← hji23, ← hji29, ← hji33, ← hji35, ← hji37, ← hji40, ← hji46, ← hji48, ← hji50, ← hji52, ← hji56, ← hji58, ← hji60, ← hji62]; first | rfl | (simp [errW_none, errW_some] <;> rfl)) | (simp [*, errW_none, errW_some] <;> rfl), by repeat (first | (with_reducible first | exact HB.out | apply below_alloc | apply pw_below_drewN | apply below_drew1 | refine below_set ?_ GE166.out | refine below_set ?_ GE171.out | refine below_set ?_ GE227.out) | exact HB.out)⟩
                                      · rw [if_neg c66] at H
                                        have c66b0 : (((ji58).size : Int) == 2) = false := beq_eq_false_iff_ne.mpr c66
                                        have c66b1 : (((ji58).size : Int) != 2) = true := bne_iff_ne.mpr c66
                                        by_cases c214 : (t224 && (t225.toList == ((ji58).toList) && (t226.toList == ((ji29).toList)))) = true
                                        · rw [if_pos c214] at H
                                          have c214b0 : (t224 && (t225.toList == ((ji58).toList) && (t226.toList == ((ji29).toList)))) = true := c214
                                          clear c214
                                          replace H := Option.bind_eq_some_iff.mp H
                                          obtain ⟨t233, A2150, H⟩ := H
                                          try dsimp only at H
                                          have A215 := Aside0.mk A2150
                                          clear A2150
                                          obtain rfl := Option.some.inj H
                                          try go_wp2_with (first | ((with_reducible refine gate_callee (f := 8) rfl ?_); refine goesL_ (some 93) rfl rfl Try.func8 (by kernel_rfl) rfl #[.slice _ _ _] rfl (by (try simp only [List.map_toArray, List.map_cons, List.map_nil]); first | done | rfl | (simp only [List.length_drop, List.length_take]; rfl)) ?_; (with_reducible refine (octets_Of.callsn _ _ ([48, 49, 50, 51, 52, 53, 54, 55, 56, 57, 97, 98, 99, 100, 101, 102, 65, 66, 67, 68, 69, 70, 58, 46] : List Int) t219 t220 t221 t222 _ ?side1 ?side2 A53.out).mono ?_); (case side1 => repeat (first | exact lit8_C _ _ _ _ | exact lit8_Cb _ _ _ _ _ (by simp [go_sem]) | (with_reducible refine Kd.C_alloc ?_ _) | (with_reducible refine Kd.C_drewN ?_ _) | (with_reducible refine Kd.C_drew ?_))); (case side2 => decide); rintro e w254 ⟨rfl, hb⟩; refine ⟨_, rfl, ?_⟩; have n0_ := Aside0.mk (Kd.R_below (by (with_reducible repeat (first | apply Kd.R_alloc | apply Kd.R_drewN | apply Kd.R_drew)); exact HO153.out) hb); have n1_ := Aside0.mk (Kd.R_below (by (with_reducible repeat (first | apply Kd.R_alloc | apply Kd.R_drewN | apply Kd.R_drew)); exact HO183.out) hb); have n2_ := Aside0.mk (Kd.R_below (by (with_reducible repeat (first | apply Kd.R_alloc | apply Kd.R_drewN | apply Kd.R_drew)); exact HO205.out) hb); have n3_ := Aside0.mk (blk_below (g := gb166) (o := .cells #[.int .u64 t162, .int .u64 t163, .int .u64 t164, .int .u64 t165] 25 (0, 0)) (by (with_reducible repeat (first | refine blk_drewN ?_ _ | refine blk_drew ?_ | refine blk_alloc ?_ _)); exact BK166.out) hb); have n4_ := Aside0.mk (blk_below (g := gb171) (o := .cells #[.int .u64 t167, .int .u64 t168, .int .u64 t169, .int .u64 t170] 25 (0, 0)) (by (with_reducible repeat (first | refine blk_drewN ?_ _ | refine blk_drew ?_ | refine blk_alloc ?_ _)); exact BK171.out) hb); have n5_ := Aside0.mk (below_step (by repeat (first | (with_reducible first | exact HB.out | apply below_alloc | apply pw_below_drewN | apply below_drew1 | refine below_set ?_ GE166.out | refine below_set ?_ GE171.out) | exact HB.out)) hb); clear HO153; clear HO183; clear HO205; clear BK166; clear BK171; clear HB; have HO153 := n0_; have HO183 := n1_; have HO205 := n2_; have BK166 := n3_; have BK171 := n4_; have HB := n5_; clear n0_ n1_ n2_ n3_ n4_ n5_; (try clear hb); (try clear hb2); (try clear hk); (try clear hi)) | ((with_reducible refine gate_callee (f := 9) rfl ?_); refine goesL_ (some 94) rfl rfl Try.func9 (by kernel_rfl) rfl #[.string a1, .agg #[.int .u64 t219, .int .u64 t220, .int .u64 t221, .int .u64 t222]] rfl (by (try simp only [List.map_toArray, List.map_cons, List.map_nil]); first | done | rfl | (simp only [List.length_drop, List.length_take]; rfl)) ?_; (with_reducible refine (shibbolethlaw22_only.calls kj5 a1 t219 t220 t221 t222 t223 _ A54.out).mono ?_); rintro e w255 ⟨rfl, hb⟩; refine ⟨_, rfl, ?_⟩; have n0_ := Aside0.mk (Kd.R_below (by (with_reducible repeat (first | apply Kd.R_alloc | apply Kd.R_drewN | apply Kd.R_drew)); exact HO153.out) hb); have n1_ := Aside0.mk (Kd.R_below (by (with_reducible repeat (first | apply Kd.R_alloc | apply Kd.R_drewN | apply Kd.R_drew)); exact HO183.out) hb); have n2_ := Aside0.mk (Kd.R_below (by (with_reducible repeat (first | apply Kd.R_alloc | apply Kd.R_drewN | apply Kd.R_drew)); exact HO205.out) hb); have n3_ := Aside0.mk (blk_below (g := gb166) (o := .cells #[.int .u64 t162, .int .u64 t163, .int .u64 t164, .int .u64 t165] 25 (0, 0)) (by (with_reducible repeat (first | refine blk_drewN ?_ _ | refine blk_drew ?_ | refine blk_alloc ?_ _)); exact BK166.out) hb); have n4_ := Aside0.mk (blk_below (g := gb171) (o := .cells #[.int .u64 t167, .int .u64 t168, .int .u64 t169, .int .u64 t170] 25 (0, 0)) (by (with_reducible repeat (first | refine blk_drewN ?_ _ | refine blk_drew ?_ | refine blk_alloc ?_ _)); exact BK171.out) hb); have n5_ := Aside0.mk (below_step (by repeat (first | (with_reducible first | exact HB.out | apply below_alloc | apply pw_below_drewN | apply below_drew1 | refine below_set ?_ GE166.out | refine below_set ?_ GE171.out) | exact HB.out)) hb); clear HO153; clear HO183; clear HO205; clear BK166; clear BK171; clear HB; have HO153 := n0_; have HO183 := n1_; have HO205 := n2_; have BK166 := n3_; have BK171 := n4_; have HB := n5_; clear n0_ n1_ n2_ n3_ n4_ n5_; (try clear hb); (try clear hb2); (try clear hk); (try clear hi)) | ((with_reducible refine gate_callee (f := 11) rfl ?_); refine goesL_ (some 101) rfl rfl Try.func11 (by kernel_rfl) rfl #[.string ji62] rfl (by (try simp only [List.map_toArray, List.map_cons, List.map_nil]); first | done | (simp only [hji62]; rfl) | rfl | (simp only [List.length_drop, List.length_take]; rfl)) ?_; (with_reducible refine (curl_Parse.calls kj5 ji62 t224 t225 t226 _ A63.out).mono ?_); rintro e w256 ⟨rfl, hb⟩; refine ⟨_, rfl, ?_⟩; have n0_ := Aside0.mk (Kd.R_below (by (with_reducible repeat (first | apply Kd.R_alloc | apply Kd.R_drewN | apply Kd.R_drew)); exact HO153.out) hb); have n1_ := Aside0.mk (Kd.R_below (by (with_reducible repeat (first | apply Kd.R_alloc | apply Kd.R_drewN | apply Kd.R_drew)); exact HO183.out) hb); have n2_ := Aside0.mk (Kd.R_below (by (with_reducible repeat (first | apply Kd.R_alloc | apply Kd.R_drewN | apply Kd.R_drew)); exact HO205.out) hb); have n3_ := Aside0.mk (blk_below (g := gb166) (o := .cells #[.int .u64 t162, .int .u64 t163, .int .u64 t164, .int .u64 t165] 25 (0, 0)) (by (with_reducible repeat (first | refine blk_drewN ?_ _ | refine blk_drew ?_ | refine blk_alloc ?_ _)); exact BK166.out) hb); have n4_ := Aside0.mk (blk_below (g := gb171) (o := .cells #[.int .u64 t167, .int .u64 t168, .int .u64 t169, .int .u64 t170] 25 (0, 0)) (by (with_reducible repeat (first | refine blk_drewN ?_ _ | refine blk_drew ?_ | refine blk_alloc ?_ _)); exact BK171.out) hb); have n5_ := Aside0.mk (below_step (by repeat (first | (with_reducible first | exact HB.out | apply below_alloc | apply pw_below_drewN | apply below_drew1 | refine below_set ?_ GE166.out | refine below_set ?_ GE171.out) | exact HB.out)) hb); clear HO153; clear HO183; clear HO205; clear BK166; clear BK171; clear HB; have HO153 := n0_; have HO183 := n1_; have HO205 := n2_; have BK166 := n3_; have BK171 := n4_; have HB := n5_; clear n0_ n1_ n2_ n3_ n4_ n5_; (try clear hb); (try clear hb2); (try clear hk); (try clear hi)) | ((with_reducible refine gate_dst (N := 18) rfl ?_); (try (refine gate_guard (by rfl) ?_; dsimp only)); refine box_event ?hg (N := 18) ?hd (cs := #[.bool false, .string (⟨#[]⟩ : ByteArray), .string (⟨#[]⟩ : ByteArray)]) (t := 33) ?hr ?_; (case hd => rfl); (case hg => rfl); (case hr => first | (go_simp; done) | (go_simp; rfl)); intro gb227 hg w257 hbox hb; have n0_ := Aside0.mk (Kd.R_below (by (with_reducible repeat (first | apply Kd.R_alloc | apply Kd.R_drewN | apply Kd.R_drew)); exact HO153.out) hb); have n1_ := Aside0.mk (Kd.R_below (by (with_reducible repeat (first | apply Kd.R_alloc | apply Kd.R_drewN | apply Kd.R_drew)); exact HO183.out) hb); have n2_ := Aside0.mk (Kd.R_below (by (with_reducible repeat (first | apply Kd.R_alloc | apply Kd.R_drewN | apply Kd.R_drew)); exact HO205.out) hb); have n3_ := Aside0.mk (blk_below (g := gb166) (o := .cells #[.int .u64 t162, .int .u64 t163, .int .u64 t164, .int .u64 t165] 25 (0, 0)) (by (with_reducible repeat (first | refine blk_drewN ?_ _ | refine blk_drew ?_ | refine blk_alloc ?_ _)); exact BK166.out) hb); have n4_ := Aside0.mk (blk_below (g := gb171) (o := .cells #[.int .u64 t167, .int .u64 t168, .int .u64 t169, .int .u64 t170] 25 (0, 0)) (by (with_reducible repeat (first | refine blk_drewN ?_ _ | refine blk_drew ?_ | refine blk_alloc ?_ _)); exact BK171.out) hb); have n5_ := Aside0.mk (below_step (by repeat (first | (with_reducible first | exact HB.out | apply below_alloc | apply pw_below_drewN | apply below_drew1 | refine below_set ?_ GE166.out | refine below_set ?_ GE171.out) | exact HB.out)) hb); have n6_ := Aside0.mk (hbox); have n7_ := Aside0.mk ((by rw [hg]; exact (below_size (by repeat (first | (with_reducible first | exact HB.out | apply below_alloc | apply pw_below_drewN | apply below_drew1 | refine below_set ?_ GE166.out | refine below_set ?_ GE171.out) | exact HB.out))) : w.heap.size ≤ gb227)); have n8_ := Aside0.mk ((by rw [hg]; exact (below_size (by repeat (first | (with_reducible first | exact HB.out | apply below_alloc | apply pw_below_drewN | apply below_drew1 | refine below_set ?_ GE166.out | refine below_set ?_ GE171.out) | exact HB.out))) : w.heap.size ≤ gb227)); have n9_ := Aside0.mk ((by rw [hg]; exact Nat.ne_of_lt (blk_lt (g := gb166) (o := .cells #[.int .u64 t162, .int .u64 t163, .int .u64 t164, .int .u64 t165] 25 (0, 0)) (by (with_reducible repeat (first | refine blk_drewN ?_ _ | refine blk_drew ?_ | refine blk_alloc ?_ _)); exact BK166.out)) : gb166 ≠ gb227)); have n10_ := Aside0.mk ((by rw [hg]; exact Nat.ne_of_gt (blk_lt (g := gb166) (o := .cells #[.int .u64 t162, .int .u64 t163, .int .u64 t164, .int .u64 t165] 25 (0, 0)) (by (with_reducible repeat (first | refine blk_drewN ?_ _ | refine blk_drew ?_ | refine blk_alloc ?_ _)); exact BK166.out)) : gb227 ≠ gb166)); have n11_ := Aside0.mk ((by rw [hg]; exact Nat.ne_of_lt (blk_lt (g := gb171) (o := .cells #[.int .u64 t167, .int .u64 t168, .int .u64 t169, .int .u64 t170] 25 (0, 0)) (by (with_reducible repeat (first | refine blk_drewN ?_ _ | refine blk_drew ?_ | refine blk_alloc ?_ _)); exact BK171.out)) : gb171 ≠ gb227)); have n12_ := Aside0.mk ((by rw [hg]; exact Nat.ne_of_gt (blk_lt (g := gb171) (o := .cells #[.int .u64 t167, .int .u64 t168, .int .u64 t169, .int .u64 t170] 25 (0, 0)) (by (with_reducible repeat (first | refine blk_drewN ?_ _ | refine blk_drew ?_ | refine blk_alloc ?_ _)); exact BK171.out)) : gb227 ≠ gb171)); clear HO153; clear HO183; clear HO205; clear BK166; clear BK171; clear HB; have HO153 := n0_; have HO183 := n1_; have HO205 := n2_; have BK166 := n3_; have BK171 := n4_; have HB := n5_; have BK227 := n6_; have GW227 := n7_; have GE227 := n8_; have NB166_227 := n9_; have NB227_166 := n10_; have NB171_227 := n11_; have NB227_171 := n12_; clear n0_ n1_ n2_ n3_ n4_ n5_ n6_ n7_ n8_ n9_ n10_ n11_ n12_; clear hb hbox hg; have hnb258 := NB227_166.out; have hnc258 := NB166_227.out; have hnb259 := NB227_171.out; have hnc259 := NB171_227.out; have hcz260_0 : w257.cell? ⟨gb227, 0, none⟩ = some (.bool false) := (blk_cell BK227.out 0).trans rfl; have hcz260_1 : w257.cell? ⟨gb227, 1, none⟩ = some (.string (⟨#[]⟩ : ByteArray)) := (blk_cell BK227.out 1).trans rfl; have hcz260_2 : w257.cell? ⟨gb227, 2, none⟩ = some (.string (⟨#[]⟩ : ByteArray)) := (blk_cell BK227.out 2).trans rfl; have hfz260_0 := blk_frozen BK227.out 0; have hfz260_1 := blk_frozen BK227.out 1; have hfz260_2 := blk_frozen BK227.out 2) | ((with_reducible refine gate_callee (f := 11) rfl ?_); refine goesL_ (some 103) rfl rfl Try.func11 (by kernel_rfl) rfl #[.string ji52] rfl (by (try simp only [List.map_toArray, List.map_cons, List.map_nil]); first | done | (simp only [hji52]; rfl) | rfl | (simp only [List.length_drop, List.length_take]; rfl)) ?_; (with_reducible refine (curl_Parse.calls kj5 ji52 t228 t229 t230 _ A64.out).mono ?_); rintro e w261 ⟨rfl, hb⟩; refine ⟨_, rfl, ?_⟩; have n0_ := Aside0.mk (Kd.R_below (by (with_reducible repeat (first | apply Kd.R_alloc | apply Kd.R_drewN | apply Kd.R_drew)); exact (Kd.R_mono (Kd.R_far (p := ⟨gb227, 2, none⟩) (Kd.R_far (p := ⟨gb227, 1, none⟩) (Kd.R_far (p := ⟨gb227, 0, none⟩) (Kd.R_types HO153.out BK227.out (by decide)) (fun _ hk => hk.2) (.bool t224)) (fun _ hk => hk.2) (.string t225)) (fun _ hk => hk.2) (.string t226)) (fun _ h_ => h_.1))) hb); have n1_ := Aside0.mk (Kd.R_below (by (with_reducible repeat (first | apply Kd.R_alloc | apply Kd.R_drewN | apply Kd.R_drew)); exact (Kd.R_mono (Kd.R_far (p := ⟨gb227, 2, none⟩) (Kd.R_far (p := ⟨gb227, 1, none⟩) (Kd.R_far (p := ⟨gb227, 0, none⟩) (Kd.R_types HO183.out BK227.out (by decide)) (fun _ hk => hk.2) (.bool t224)) (fun _ hk => hk.2) (.string t225)) (fun _ hk => hk.2) (.string t226)) (fun _ h_ => h_.1))) hb); have n2_ := Aside0.mk (Kd.R_below (by (with_reducible repeat (first | apply Kd.R_alloc | apply Kd.R_drewN | apply Kd.R_drew)); exact (Kd.R_mono (Kd.R_far (p := ⟨gb227, 2, none⟩) (Kd.R_far (p := ⟨gb227, 1, none⟩) (Kd.R_far (p := ⟨gb227, 0, none⟩) (Kd.R_types HO205.out BK227.out (by decide)) (fun _ hk => hk.2) (.bool t224)) (fun _ hk => hk.2) (.string t225)) (fun _ hk => hk.2) (.string t226)) (fun _ h_ => h_.1))) hb); have n3_ := Aside0.mk (blk_below (g := gb166) (o := .cells #[.int .u64 t162, .int .u64 t163, .int .u64 t164, .int .u64 t165] 25 (0, 0)) (by (with_reducible repeat (first | refine blk_drewN ?_ _ | refine blk_drew ?_ | refine blk_alloc ?_ _)); refine blk_far ?_ NB166_227.out _; (with_reducible repeat (first | refine blk_drewN ?_ _ | refine blk_drew ?_ | refine blk_alloc ?_ _)); refine blk_far ?_ NB166_227.out _; (with_reducible repeat (first | refine blk_drewN ?_ _ | refine blk_drew ?_ | refine blk_alloc ?_ _)); refine blk_far ?_ NB166_227.out _; (with_reducible repeat (first | refine blk_drewN ?_ _ | refine blk_drew ?_ | refine blk_alloc ?_ _)); exact BK166.out) hb); have n4_ := Aside0.mk (blk_below (g := gb171) (o := .cells #[.int .u64 t167, .int .u64 t168, .int .u64 t169, .int .u64 t170] 25 (0, 0)) (by (with_reducible repeat (first | refine blk_drewN ?_ _ | refine blk_drew ?_ | refine blk_alloc ?_ _)); refine blk_far ?_ NB171_227.out _; (with_reducible repeat (first | refine blk_drewN ?_ _ | refine blk_drew ?_ | refine blk_alloc ?_ _)); refine blk_far ?_ NB171_227.out _; (with_reducible repeat (first | refine blk_drewN ?_ _ | refine blk_drew ?_ | refine blk_alloc ?_ _)); refine blk_far ?_ NB171_227.out _; (with_reducible repeat (first | refine blk_drewN ?_ _ | refine blk_drew ?_ | refine blk_alloc ?_ _)); exact BK171.out) hb); have n5_ := Aside0.mk (blk_below (g := gb227) (o := .cells #[.bool t224, .string t225, .string t226] 33 (0, 0)) (by (with_reducible repeat (first | refine blk_drewN ?_ _ | refine blk_drew ?_ | refine blk_alloc ?_ _)); refine blk_put (cs := #[.bool t224, .string t225, .string (⟨#[]⟩ : ByteArray)]) ?_ 2 _ rfl; (with_reducible repeat (first | refine blk_drewN ?_ _ | refine blk_drew ?_ | refine blk_alloc ?_ _)); refine blk_put (cs := #[.bool t224, .string (⟨#[]⟩ : ByteArray), .string (⟨#[]⟩ : ByteArray)]) ?_ 1 _ rfl; (with_reducible repeat (first | refine blk_drewN ?_ _ | refine blk_drew ?_ | refine blk_alloc ?_ _)); refine blk_put (cs := #[.bool false, .string (⟨#[]⟩ : ByteArray), .string (⟨#[]⟩ : ByteArray)]) ?_ 0 _ rfl; (with_reducible repeat (first | refine blk_drewN ?_ _ | refine blk_drew ?_ | refine blk_alloc ?_ _)); exact BK227.out) hb); have n6_ := Aside0.mk (below_step (by repeat (first | (with_reducible first | exact HB.out | apply below_alloc | apply pw_below_drewN | apply below_drew1 | refine below_set ?_ GE166.out | refine below_set ?_ GE171.out | refine below_set ?_ GE227.out) | exact HB.out)) hb); clear HO153; clear HO183; clear HO205; clear BK166; clear BK171; clear BK227; clear HB; have HO153 := n0_; have HO183 := n1_; have HO205 := n2_; have BK166 := n3_; have BK171 := n4_; have BK227 := n5_; have HB := n6_; clear n0_ n1_ n2_ n3_ n4_ n5_ n6_; (try clear hb); (try clear hb2); (try clear hk); (try clear hi); have hcz262_0 : w261.cell? ⟨gb227, 0, none⟩ = some (.bool t224) := (blk_cell BK227.out 0).trans rfl; have hcz262_1 : w261.cell? ⟨gb227, 1, none⟩ = some (.string t225) := (blk_cell BK227.out 1).trans rfl; have hcz262_2 : w261.cell? ⟨gb227, 2, none⟩ = some (.string t226) := (blk_cell BK227.out 2).trans rfl; have hfz262_0 := blk_frozen BK227.out 0; have hfz262_1 := blk_frozen BK227.out 1; have hfz262_2 := blk_frozen BK227.out 2) | (go_at_call 4; (with_reducible refine (shibbolethlaw22_awake.calls kj5  t233 _ A215.out).mono ?_); rintro e w263 ⟨rfl, hb⟩; have n0_ := Aside0.mk (Kd.R_below (by (with_reducible repeat (first | apply Kd.R_alloc | apply Kd.R_drewN | apply Kd.R_drew)); exact HO153.out) hb); have n1_ := Aside0.mk (Kd.R_below (by (with_reducible repeat (first | apply Kd.R_alloc | apply Kd.R_drewN | apply Kd.R_drew)); exact HO183.out) hb); have n2_ := Aside0.mk (Kd.R_below (by (with_reducible repeat (first | apply Kd.R_alloc | apply Kd.R_drewN | apply Kd.R_drew)); exact HO205.out) hb); have n3_ := Aside0.mk (blk_below (g := gb166) (o := .cells #[.int .u64 t162, .int .u64 t163, .int .u64 t164, .int .u64 t165] 25 (0, 0)) (by (with_reducible repeat (first | refine blk_drewN ?_ _ | refine blk_drew ?_ | refine blk_alloc ?_ _)); exact BK166.out) hb); have n4_ := Aside0.mk (blk_below (g := gb171) (o := .cells #[.int .u64 t167, .int .u64 t168, .int .u64 t169, .int .u64 t170] 25 (0, 0)) (by (with_reducible repeat (first | refine blk_drewN ?_ _ | refine blk_drew ?_ | refine blk_alloc ?_ _)); exact BK171.out) hb); have n5_ := Aside0.mk (blk_below (g := gb227) (o := .cells #[.bool t224, .string t225, .string t226] 33 (0, 0)) (by (with_reducible repeat (first | refine blk_drewN ?_ _ | refine blk_drew ?_ | refine blk_alloc ?_ _)); exact BK227.out) hb); have n6_ := Aside0.mk (below_step (by repeat (first | (with_reducible first | exact HB.out | apply below_alloc | apply pw_below_drewN | apply below_drew1 | refine below_set ?_ GE166.out | refine below_set ?_ GE171.out | refine below_set ?_ GE227.out) | exact HB.out)) hb); clear HO153; clear HO183; clear HO205; clear BK166; clear BK171; clear BK227; clear HB; have HO153 := n0_; have HO183 := n1_; have HO205 := n2_; have BK166 := n3_; have BK171 := n4_; have BK227 := n5_; have HB := n6_; clear n0_ n1_ n2_ n3_ n4_ n5_ n6_; (try clear hb); (try clear hb2); (try clear hk); (try clear hi)))
                                          go_ret
                                          exact ⟨by first | rfl | (simp [errW_none, errW_some] <;> rfl) | (simp only [← hji23, ← hji29, ← hji33, ← hji35, ← hji37, ← hji40, ← hji46, ← hji48, ← hji50, ← hji52, ← hji56, ← hji58, ← hji60, ← hji62]; first | rfl | (simp [errW_none, errW_some] <;> rfl)) | (simp [*, errW_none, errW_some] <;> rfl), by repeat (first | (with_reducible first | exact HB.out | apply below_alloc | apply pw_below_drewN | apply below_drew1 | refine below_set ?_ GE166.out | refine below_set ?_ GE171.out | refine below_set ?_ GE227.out) | exact HB.out)⟩
                                        · rw [if_neg c214] at H
                                          have c214b0 : (t224 && (t225.toList == ((ji58).toList) && (t226.toList == ((ji29).toList)))) = false := by simpa using c214
                                          clear c214
                                          obtain rfl := Option.some.inj H
                                          try go_wp2_with (first | ((with_reducible refine gate_callee (f := 8) rfl ?_); refine goesL_ (some 93) rfl rfl Try.func8 (by kernel_rfl) rfl #[.slice _ _ _] rfl (by (try simp only [List.map_toArray, List.map_cons, List.map_nil]); first | done | rfl | (simp only [List.length_drop, List.length_take]; rfl)) ?_; (with_reducible refine (octets_Of.callsn _ _ ([48, 49, 50, 51, 52, 53, 54, 55, 56, 57, 97, 98, 99, 100, 101, 102, 65, 66, 67, 68, 69, 70, 58, 46] : List Int) t219 t220 t221 t222 _ ?side1 ?side2 A53.out).mono ?_); (case side1 => repeat (first | exact lit8_C _ _ _ _ | exact lit8_Cb _ _ _ _ _ (by simp [go_sem]) | (with_reducible refine Kd.C_alloc ?_ _) | (with_reducible refine Kd.C_drewN ?_ _) | (with_reducible refine Kd.C_drew ?_))); (case side2 => decide); rintro e w302 ⟨rfl, hb⟩; refine ⟨_, rfl, ?_⟩; have n0_ := Aside0.mk (Kd.R_below (by (with_reducible repeat (first | apply Kd.R_alloc | apply Kd.R_drewN | apply Kd.R_drew)); exact HO153.out) hb); have n1_ := Aside0.mk (Kd.R_below (by (with_reducible repeat (first | apply Kd.R_alloc | apply Kd.R_drewN | apply Kd.R_drew)); exact HO183.out) hb); have n2_ := Aside0.mk (Kd.R_below (by (with_reducible repeat (first | apply Kd.R_alloc | apply Kd.R_drewN | apply Kd.R_drew)); exact HO205.out) hb); have n3_ := Aside0.mk (blk_below (g := gb166) (o := .cells #[.int .u64 t162, .int .u64 t163, .int .u64 t164, .int .u64 t165] 25 (0, 0)) (by (with_reducible repeat (first | refine blk_drewN ?_ _ | refine blk_drew ?_ | refine blk_alloc ?_ _)); exact BK166.out) hb); have n4_ := Aside0.mk (blk_below (g := gb171) (o := .cells #[.int .u64 t167, .int .u64 t168, .int .u64 t169, .int .u64 t170] 25 (0, 0)) (by (with_reducible repeat (first | refine blk_drewN ?_ _ | refine blk_drew ?_ | refine blk_alloc ?_ _)); exact BK171.out) hb); have n5_ := Aside0.mk (below_step (by repeat (first | (with_reducible first | exact HB.out | apply below_alloc | apply pw_below_drewN | apply below_drew1 | refine below_set ?_ GE166.out | refine below_set ?_ GE171.out) | exact HB.out)) hb); clear HO153; clear HO183; clear HO205; clear BK166; clear BK171; clear HB; have HO153 := n0_; have HO183 := n1_; have HO205 := n2_; have BK166 := n3_; have BK171 := n4_; have HB := n5_; clear n0_ n1_ n2_ n3_ n4_ n5_; (try clear hb); (try clear hb2); (try clear hk); (try clear hi)) | ((with_reducible refine gate_callee (f := 9) rfl ?_); refine goesL_ (some 94) rfl rfl Try.func9 (by kernel_rfl) rfl #[.string a1, .agg #[.int .u64 t219, .int .u64 t220, .int .u64 t221, .int .u64 t222]] rfl (by (try simp only [List.map_toArray, List.map_cons, List.map_nil]); first | done | rfl | (simp only [List.length_drop, List.length_take]; rfl)) ?_; (with_reducible refine (shibbolethlaw22_only.calls kj5 a1 t219 t220 t221 t222 t223 _ A54.out).mono ?_); rintro e w303 ⟨rfl, hb⟩; refine ⟨_, rfl, ?_⟩; have n0_ := Aside0.mk (Kd.R_below (by (with_reducible repeat (first | apply Kd.R_alloc | apply Kd.R_drewN | apply Kd.R_drew)); exact HO153.out) hb); have n1_ := Aside0.mk (Kd.R_below (by (with_reducible repeat (first | apply Kd.R_alloc | apply Kd.R_drewN | apply Kd.R_drew)); exact HO183.out) hb); have n2_ := Aside0.mk (Kd.R_below (by (with_reducible repeat (first | apply Kd.R_alloc | apply Kd.R_drewN | apply Kd.R_drew)); exact HO205.out) hb); have n3_ := Aside0.mk (blk_below (g := gb166) (o := .cells #[.int .u64 t162, .int .u64 t163, .int .u64 t164, .int .u64 t165] 25 (0, 0)) (by (with_reducible repeat (first | refine blk_drewN ?_ _ | refine blk_drew ?_ | refine blk_alloc ?_ _)); exact BK166.out) hb); have n4_ := Aside0.mk (blk_below (g := gb171) (o := .cells #[.int .u64 t167, .int .u64 t168, .int .u64 t169, .int .u64 t170] 25 (0, 0)) (by (with_reducible repeat (first | refine blk_drewN ?_ _ | refine blk_drew ?_ | refine blk_alloc ?_ _)); exact BK171.out) hb); have n5_ := Aside0.mk (below_step (by repeat (first | (with_reducible first | exact HB.out | apply below_alloc | apply pw_below_drewN | apply below_drew1 | refine below_set ?_ GE166.out | refine below_set ?_ GE171.out) | exact HB.out)) hb); clear HO153; clear HO183; clear HO205; clear BK166; clear BK171; clear HB; have HO153 := n0_; have HO183 := n1_; have HO205 := n2_; have BK166 := n3_; have BK171 := n4_; have HB := n5_; clear n0_ n1_ n2_ n3_ n4_ n5_; (try clear hb); (try clear hb2); (try clear hk); (try clear hi)) | ((with_reducible refine gate_callee (f := 11) rfl ?_); refine goesL_ (some 101) rfl rfl Try.func11 (by kernel_rfl) rfl #[.string ji62] rfl (by (try simp only [List.map_toArray, List.map_cons, List.map_nil]); first | done | (simp only [hji62]; rfl) | rfl | (simp only [List.length_drop, List.length_take]; rfl)) ?_; (with_reducible refine (curl_Parse.calls kj5 ji62 t224 t225 t226 _ A63.out).mono ?_); rintro e w304 ⟨rfl, hb⟩; refine ⟨_, rfl, ?_⟩; have n0_ := Aside0.mk (Kd.R_below (by (with_reducible repeat (first | apply Kd.R_alloc | apply Kd.R_drewN | apply Kd.R_drew)); exact HO153.out) hb); have n1_ := Aside0.mk (Kd.R_below (by (with_reducible repeat (first | apply Kd.R_alloc | apply Kd.R_drewN | apply Kd.R_drew)); exact HO183.out) hb); have n2_ := Aside0.mk (Kd.R_below (by (with_reducible repeat (first | apply Kd.R_alloc | apply Kd.R_drewN | apply Kd.R_drew)); exact HO205.out) hb); have n3_ := Aside0.mk (blk_below (g := gb166) (o := .cells #[.int .u64 t162, .int .u64 t163, .int .u64 t164, .int .u64 t165] 25 (0, 0)) (by (with_reducible repeat (first | refine blk_drewN ?_ _ | refine blk_drew ?_ | refine blk_alloc ?_ _)); exact BK166.out) hb); have n4_ := Aside0.mk (blk_below (g := gb171) (o := .cells #[.int .u64 t167, .int .u64 t168, .int .u64 t169, .int .u64 t170] 25 (0, 0)) (by (with_reducible repeat (first | refine blk_drewN ?_ _ | refine blk_drew ?_ | refine blk_alloc ?_ _)); exact BK171.out) hb); have n5_ := Aside0.mk (below_step (by repeat (first | (with_reducible first | exact HB.out | apply below_alloc | apply pw_below_drewN | apply below_drew1 | refine below_set ?_ GE166.out | refine below_set ?_ GE171.out) | exact HB.out)) hb); clear HO153; clear HO183; clear HO205; clear BK166; clear BK171; clear HB; have HO153 := n0_; have HO183 := n1_; have HO205 := n2_; have BK166 := n3_; have BK171 := n4_; have HB := n5_; clear n0_ n1_ n2_ n3_ n4_ n5_; (try clear hb); (try clear hb2); (try clear hk); (try clear hi)) | ((with_reducible refine gate_dst (N := 18) rfl ?_); (try (refine gate_guard (by rfl) ?_; dsimp only)); refine box_event ?hg (N := 18) ?hd (cs := #[.bool false, .string (⟨#[]⟩ : ByteArray), .string (⟨#[]⟩ : ByteArray)]) (t := 33) ?hr ?_; (case hd => rfl); (case hg => rfl); (case hr => first | (go_simp; done) | (go_simp; rfl)); intro gb227 hg w305 hbox hb; have n0_ := Aside0.mk (Kd.R_below (by (with_reducible repeat (first | apply Kd.R_alloc | apply Kd.R_drewN | apply Kd.R_drew)); exact HO153.out) hb); have n1_ := Aside0.mk (Kd.R_below (by (with_reducible repeat (first | apply Kd.R_alloc | apply Kd.R_drewN | apply Kd.R_drew)); exact HO183.out) hb); have n2_ := Aside0.mk (Kd.R_below (by (with_reducible repeat (first | apply Kd.R_alloc | apply Kd.R_drewN | apply Kd.R_drew)); exact HO205.out) hb); have n3_ := Aside0.mk (blk_below (g := gb166) (o := .cells #[.int .u64 t162, .int .u64 t163, .int .u64 t164, .int .u64 t165] 25 (0, 0)) (by (with_reducible repeat (first | refine blk_drewN ?_ _ | refine blk_drew ?_ | refine blk_alloc ?_ _)); exact BK166.out) hb); have n4_ := Aside0.mk (blk_below (g := gb171) (o := .cells #[.int .u64 t167, .int .u64 t168, .int .u64 t169, .int .u64 t170] 25 (0, 0)) (by (with_reducible repeat (first | refine blk_drewN ?_ _ | refine blk_drew ?_ | refine blk_alloc ?_ _)); exact BK171.out) hb); have n5_ := Aside0.mk (below_step (by repeat (first | (with_reducible first | exact HB.out | apply below_alloc | apply pw_below_drewN | apply below_drew1 | refine below_set ?_ GE166.out | refine below_set ?_ GE171.out) | exact HB.out)) hb); have n6_ := Aside0.mk (hbox); have n7_ := Aside0.mk ((by rw [hg]; exact (below_size (by repeat (first | (with_reducible first | exact HB.out | apply below_alloc | apply pw_below_drewN | apply below_drew1 | refine below_set ?_ GE166.out | refine below_set ?_ GE171.out) | exact HB.out))) : w.heap.size ≤ gb227)); have n8_ := Aside0.mk ((by rw [hg]; exact (below_size (by repeat (first | (with_reducible first | exact HB.out | apply below_alloc | apply pw_below_drewN | apply below_drew1 | refine below_set ?_ GE166.out | refine below_set ?_ GE171.out) | exact HB.out))) : w.heap.size ≤ gb227)); have n9_ := Aside0.mk ((by rw [hg]; exact Nat.ne_of_lt (blk_lt (g := gb166) (o := .cells #[.int .u64 t162, .int .u64 t163, .int .u64 t164, .int .u64 t165] 25 (0, 0)) (by (with_reducible repeat (first | refine blk_drewN ?_ _ | refine blk_drew ?_ | refine blk_alloc ?_ _)); exact BK166.out)) : gb166 ≠ gb227)); have n10_ := Aside0.mk ((by rw [hg]; exact Nat.ne_of_gt (blk_lt (g := gb166) (o := .cells #[.int .u64 t162, .int .u64 t163, .int .u64 t164, .int .u64 t165] 25 (0, 0)) (by (with_reducible repeat (first | refine blk_drewN ?_ _ | refine blk_drew ?_ | refine blk_alloc ?_ _)); exact BK166.out)) : gb227 ≠ gb166)); have n11_ := Aside0.mk ((by rw [hg]; exact Nat.ne_of_lt (blk_lt (g := gb171) (o := .cells #[.int .u64 t167, .int .u64 t168, .int .u64 t169, .int .u64 t170] 25 (0, 0)) (by (with_reducible repeat (first | refine blk_drewN ?_ _ | refine blk_drew ?_ | refine blk_alloc ?_ _)); exact BK171.out)) : gb171 ≠ gb227)); have n12_ := Aside0.mk ((by rw [hg]; exact Nat.ne_of_gt (blk_lt (g := gb171) (o := .cells #[.int .u64 t167, .int .u64 t168, .int .u64 t169, .int .u64 t170] 25 (0, 0)) (by (with_reducible repeat (first | refine blk_drewN ?_ _ | refine blk_drew ?_ | refine blk_alloc ?_ _)); exact BK171.out)) : gb227 ≠ gb171)); clear HO153; clear HO183; clear HO205; clear BK166; clear BK171; clear HB; have HO153 := n0_; have HO183 := n1_; have HO205 := n2_; have BK166 := n3_; have BK171 := n4_; have HB := n5_; have BK227 := n6_; have GW227 := n7_; have GE227 := n8_; have NB166_227 := n9_; have NB227_166 := n10_; have NB171_227 := n11_; have NB227_171 := n12_; clear n0_ n1_ n2_ n3_ n4_ n5_ n6_ n7_ n8_ n9_ n10_ n11_ n12_; clear hb hbox hg; have hnb306 := NB227_166.out; have hnc306 := NB166_227.out; have hnb307 := NB227_171.out; have hnc307 := NB171_227.out; have hcz308_0 : w305.cell? ⟨gb227, 0, none⟩ = some (.bool false) := (blk_cell BK227.out 0).trans rfl; have hcz308_1 : w305.cell? ⟨gb227, 1, none⟩ = some (.string (⟨#[]⟩ : ByteArray)) := (blk_cell BK227.out 1).trans rfl; have hcz308_2 : w305.cell? ⟨gb227, 2, none⟩ = some (.string (⟨#[]⟩ : ByteArray)) := (blk_cell BK227.out 2).trans rfl; have hfz308_0 := blk_frozen BK227.out 0; have hfz308_1 := blk_frozen BK227.out 1; have hfz308_2 := blk_frozen BK227.out 2) | ((with_reducible refine gate_callee (f := 11) rfl ?_); refine goesL_ (some 103) rfl rfl Try.func11 (by kernel_rfl) rfl #[.string ji52] rfl (by (try simp only [List.map_toArray, List.map_cons, List.map_nil]); first | done | (simp only [hji52]; rfl) | rfl | (simp only [List.length_drop, List.length_take]; rfl)) ?_; (with_reducible refine (curl_Parse.calls kj5 ji52 t228 t229 t230 _ A64.out).mono ?_); rintro e w309 ⟨rfl, hb⟩; refine ⟨_, rfl, ?_⟩; have n0_ := Aside0.mk (Kd.R_below (by (with_reducible repeat (first | apply Kd.R_alloc | apply Kd.R_drewN | apply Kd.R_drew)); exact (Kd.R_mono (Kd.R_far (p := ⟨gb227, 2, none⟩) (Kd.R_far (p := ⟨gb227, 1, none⟩) (Kd.R_far (p := ⟨gb227, 0, none⟩) (Kd.R_types HO153.out BK227.out (by decide)) (fun _ hk => hk.2) (.bool t224)) (fun _ hk => hk.2) (.string t225)) (fun _ hk => hk.2) (.string t226)) (fun _ h_ => h_.1))) hb); have n1_ := Aside0.mk (Kd.R_below (by (with_reducible repeat (first | apply Kd.R_alloc | apply Kd.R_drewN | apply Kd.R_drew)); exact (Kd.R_mono (Kd.R_far (p := ⟨gb227, 2, none⟩) (Kd.R_far (p := ⟨gb227, 1, none⟩) (Kd.R_far (p := ⟨gb227, 0, none⟩) (Kd.R_types HO183.out BK227.out (by decide)) (fun _ hk => hk.2) (.bool t224)) (fun _ hk => hk.2) (.string t225)) (fun _ hk => hk.2) (.string t226)) (fun _ h_ => h_.1))) hb); have n2_ := Aside0.mk (Kd.R_below (by (with_reducible repeat (first | apply Kd.R_alloc | apply Kd.R_drewN | apply Kd.R_drew)); exact (Kd.R_mono (Kd.R_far (p := ⟨gb227, 2, none⟩) (Kd.R_far (p := ⟨gb227, 1, none⟩) (Kd.R_far (p := ⟨gb227, 0, none⟩) (Kd.R_types HO205.out BK227.out (by decide)) (fun _ hk => hk.2) (.bool t224)) (fun _ hk => hk.2) (.string t225)) (fun _ hk => hk.2) (.string t226)) (fun _ h_ => h_.1))) hb); have n3_ := Aside0.mk (blk_below (g := gb166) (o := .cells #[.int .u64 t162, .int .u64 t163, .int .u64 t164, .int .u64 t165] 25 (0, 0)) (by (with_reducible repeat (first | refine blk_drewN ?_ _ | refine blk_drew ?_ | refine blk_alloc ?_ _)); refine blk_far ?_ NB166_227.out _; (with_reducible repeat (first | refine blk_drewN ?_ _ | refine blk_drew ?_ | refine blk_alloc ?_ _)); refine blk_far ?_ NB166_227.out _; (with_reducible repeat (first | refine blk_drewN ?_ _ | refine blk_drew ?_ | refine blk_alloc ?_ _)); refine blk_far ?_ NB166_227.out _; (with_reducible repeat (first | refine blk_drewN ?_ _ | refine blk_drew ?_ | refine blk_alloc ?_ _)); exact BK166.out) hb); have n4_ := Aside0.mk (blk_below (g := gb171) (o := .cells #[.int .u64 t167, .int .u64 t168, .int .u64 t169, .int .u64 t170] 25 (0, 0)) (by (with_reducible repeat (first | refine blk_drewN ?_ _ | refine blk_drew ?_ | refine blk_alloc ?_ _)); refine blk_far ?_ NB171_227.out _; (with_reducible repeat (first | refine blk_drewN ?_ _ | refine blk_drew ?_ | refine blk_alloc ?_ _)); refine blk_far ?_ NB171_227.out _; (with_reducible repeat (first | refine blk_drewN ?_ _ | refine blk_drew ?_ | refine blk_alloc ?_ _)); refine blk_far ?_ NB171_227.out _; (with_reducible repeat (first | refine blk_drewN ?_ _ | refine blk_drew ?_ | refine blk_alloc ?_ _)); exact BK171.out) hb); have n5_ := Aside0.mk (blk_below (g := gb227) (o := .cells #[.bool t224, .string t225, .string t226] 33 (0, 0)) (by (with_reducible repeat (first | refine blk_drewN ?_ _ | refine blk_drew ?_ | refine blk_alloc ?_ _)); refine blk_put (cs := #[.bool t224, .string t225, .string (⟨#[]⟩ : ByteArray)]) ?_ 2 _ rfl; (with_reducible repeat (first | refine blk_drewN ?_ _ | refine blk_drew ?_ | refine blk_alloc ?_ _)); refine blk_put (cs := #[.bool t224, .string (⟨#[]⟩ : ByteArray), .string (⟨#[]⟩ : ByteArray)]) ?_ 1 _ rfl; (with_reducible repeat (first | refine blk_drewN ?_ _ | refine blk_drew ?_ | refine blk_alloc ?_ _)); refine blk_put (cs := #[.bool false, .string (⟨#[]⟩ : ByteArray), .string (⟨#[]⟩ : ByteArray)]) ?_ 0 _ rfl; (with_reducible repeat (first | refine blk_drewN ?_ _ | refine blk_drew ?_ | refine blk_alloc ?_ _)); exact BK227.out) hb); have n6_ := Aside0.mk (below_step (by repeat (first | (with_reducible first | exact HB.out | apply below_alloc | apply pw_below_drewN | apply below_drew1 | refine below_set ?_ GE166.out | refine below_set ?_ GE171.out | refine below_set ?_ GE227.out) | exact HB.out)) hb); clear HO153; clear HO183; clear HO205; clear BK166; clear BK171; clear BK227; clear HB; have HO153 := n0_; have HO183 := n1_; have HO205 := n2_; have BK166 := n3_; have BK171 := n4_; have BK227 := n5_; have HB := n6_; clear n0_ n1_ n2_ n3_ n4_ n5_ n6_; (try clear hb); (try clear hb2); (try clear hk); (try clear hi); have hcz310_0 : w309.cell? ⟨gb227, 0, none⟩ = some (.bool t224) := (blk_cell BK227.out 0).trans rfl; have hcz310_1 : w309.cell? ⟨gb227, 1, none⟩ = some (.string t225) := (blk_cell BK227.out 1).trans rfl; have hcz310_2 : w309.cell? ⟨gb227, 2, none⟩ = some (.string t226) := (blk_cell BK227.out 2).trans rfl; have hfz310_0 := blk_frozen BK227.out 0; have hfz310_1 := blk_frozen BK227.out 1; have hfz310_2 := blk_frozen BK227.out 2))
                                          go_ret
                                          exact ⟨by first | rfl | (simp [errW_none, errW_some] <;> rfl) | (simp only [← hji23, ← hji29, ← hji33, ← hji35, ← hji37, ← hji40, ← hji46, ← hji48, ← hji50, ← hji52, ← hji56, ← hji58, ← hji60, ← hji62]; first | rfl | (simp [errW_none, errW_some] <;> rfl)) | (simp [*, errW_none, errW_some] <;> rfl), by repeat (first | (with_reducible first | exact HB.out | apply below_alloc | apply pw_below_drewN | apply below_drew1 | refine below_set ?_ GE166.out | refine below_set ?_ GE171.out | refine below_set ?_ GE227.out) | exact HB.out)⟩
                                    · rw [if_neg c65] at H
                                      have c65b0 : (t228 && (t229.toList == ((ji23).toList) && (t230.toList == ((ji29).toList)))) = false := by simpa using c65
                                      clear c65
                                      obtain rfl := Option.some.inj H
                                      try go_wp2_with (first | ((with_reducible refine gate_callee (f := 8) rfl ?_); refine goesL_ (some 93) rfl rfl Try.func8 (by kernel_rfl) rfl #[.slice _ _ _] rfl (by (try simp only [List.map_toArray, List.map_cons, List.map_nil]); first | done | rfl | (simp only [List.length_drop, List.length_take]; rfl)) ?_; (with_reducible refine (octets_Of.callsn _ _ ([48, 49, 50, 51, 52, 53, 54, 55, 56, 57, 97, 98, 99, 100, 101, 102, 65, 66, 67, 68, 69, 70, 58, 46] : List Int) t219 t220 t221 t222 _ ?side1 ?side2 A53.out).mono ?_); (case side1 => repeat (first | exact lit8_C _ _ _ _ | exact lit8_Cb _ _ _ _ _ (by simp [go_sem]) | (with_reducible refine Kd.C_alloc ?_ _) | (with_reducible refine Kd.C_drewN ?_ _) | (with_reducible refine Kd.C_drew ?_))); (case side2 => decide); rintro e w349 ⟨rfl, hb⟩; refine ⟨_, rfl, ?_⟩; have n0_ := Aside0.mk (Kd.R_below (by (with_reducible repeat (first | apply Kd.R_alloc | apply Kd.R_drewN | apply Kd.R_drew)); exact HO153.out) hb); have n1_ := Aside0.mk (Kd.R_below (by (with_reducible repeat (first | apply Kd.R_alloc | apply Kd.R_drewN | apply Kd.R_drew)); exact HO183.out) hb); have n2_ := Aside0.mk (Kd.R_below (by (with_reducible repeat (first | apply Kd.R_alloc | apply Kd.R_drewN | apply Kd.R_drew)); exact HO205.out) hb); have n3_ := Aside0.mk (blk_below (g := gb166) (o := .cells #[.int .u64 t162, .int .u64 t163, .int .u64 t164, .int .u64 t165] 25 (0, 0)) (by (with_reducible repeat (first | refine blk_drewN ?_ _ | refine blk_drew ?_ | refine blk_alloc ?_ _)); exact BK166.out) hb); have n4_ := Aside0.mk (blk_below (g := gb171) (o := .cells #[.int .u64 t167, .int .u64 t168, .int .u64 t169, .int .u64 t170] 25 (0, 0)) (by (with_reducible repeat (first | refine blk_drewN ?_ _ | refine blk_drew ?_ | refine blk_alloc ?_ _)); exact BK171.out) hb); have n5_ := Aside0.mk (below_step (by repeat (first | (with_reducible first | exact HB.out | apply below_alloc | apply pw_below_drewN | apply below_drew1 | refine below_set ?_ GE166.out | refine below_set ?_ GE171.out) | exact HB.out)) hb); clear HO153; clear HO183; clear HO205; clear BK166; clear BK171; clear HB; have HO153 := n0_; have HO183 := n1_; have HO205 := n2_; have BK166 := n3_; have BK171 := n4_; have HB := n5_; clear n0_ n1_ n2_ n3_ n4_ n5_; (try clear hb); (try clear hb2); (try clear hk); (try clear hi)) | ((with_reducible refine gate_callee (f := 9) rfl ?_); refine goesL_ (some 94) rfl rfl Try.func9 (by kernel_rfl) rfl #[.string a1, .agg #[.int .u64 t219, .int .u64 t220, .int .u64 t221, .int .u64 t222]] rfl (by (try simp only [List.map_toArray, List.map_cons, List.map_nil]); first | done | rfl | (simp only [List.length_drop, List.length_take]; rfl)) ?_; (with_reducible refine (shibbolethlaw22_only.calls kj5 a1 t219 t220 t221 t222 t223 _ A54.out).mono ?_); rintro e w350 ⟨rfl, hb⟩; refine ⟨_, rfl, ?_⟩; have n0_ := Aside0.mk (Kd.R_below (by (with_reducible repeat (first | apply Kd.R_alloc | apply Kd.R_drewN | apply Kd.R_drew)); exact HO153.out) hb); have n1_ := Aside0.mk (Kd.R_below (by (with_reducible repeat (first | apply Kd.R_alloc | apply Kd.R_drewN | apply Kd.R_drew)); exact HO183.out) hb); have n2_ := Aside0.mk (Kd.R_below (by (with_reducible repeat (first | apply Kd.R_alloc | apply Kd.R_drewN | apply Kd.R_drew)); exact HO205.out) hb); have n3_ := Aside0.mk (blk_below (g := gb166) (o := .cells #[.int .u64 t162, .int .u64 t163, .int .u64 t164, .int .u64 t165] 25 (0, 0)) (by (with_reducible repeat (first | refine blk_drewN ?_ _ | refine blk_drew ?_ | refine blk_alloc ?_ _)); exact BK166.out) hb); have n4_ := Aside0.mk (blk_below (g := gb171) (o := .cells #[.int .u64 t167, .int .u64 t168, .int .u64 t169, .int .u64 t170] 25 (0, 0)) (by (with_reducible repeat (first | refine blk_drewN ?_ _ | refine blk_drew ?_ | refine blk_alloc ?_ _)); exact BK171.out) hb); have n5_ := Aside0.mk (below_step (by repeat (first | (with_reducible first | exact HB.out | apply below_alloc | apply pw_below_drewN | apply below_drew1 | refine below_set ?_ GE166.out | refine below_set ?_ GE171.out) | exact HB.out)) hb); clear HO153; clear HO183; clear HO205; clear BK166; clear BK171; clear HB; have HO153 := n0_; have HO183 := n1_; have HO205 := n2_; have BK166 := n3_; have BK171 := n4_; have HB := n5_; clear n0_ n1_ n2_ n3_ n4_ n5_; (try clear hb); (try clear hb2); (try clear hk); (try clear hi)) | ((with_reducible refine gate_callee (f := 11) rfl ?_); refine goesL_ (some 101) rfl rfl Try.func11 (by kernel_rfl) rfl #[.string ji62] rfl (by (try simp only [List.map_toArray, List.map_cons, List.map_nil]); first | done | (simp only [hji62]; rfl) | rfl | (simp only [List.length_drop, List.length_take]; rfl)) ?_; (with_reducible refine (curl_Parse.calls kj5 ji62 t224 t225 t226 _ A63.out).mono ?_); rintro e w351 ⟨rfl, hb⟩; refine ⟨_, rfl, ?_⟩; have n0_ := Aside0.mk (Kd.R_below (by (with_reducible repeat (first | apply Kd.R_alloc | apply Kd.R_drewN | apply Kd.R_drew)); exact HO153.out) hb); have n1_ := Aside0.mk (Kd.R_below (by (with_reducible repeat (first | apply Kd.R_alloc | apply Kd.R_drewN | apply Kd.R_drew)); exact HO183.out) hb); have n2_ := Aside0.mk (Kd.R_below (by (with_reducible repeat (first | apply Kd.R_alloc | apply Kd.R_drewN | apply Kd.R_drew)); exact HO205.out) hb); have n3_ := Aside0.mk (blk_below (g := gb166) (o := .cells #[.int .u64 t162, .int .u64 t163, .int .u64 t164, .int .u64 t165] 25 (0, 0)) (by (with_reducible repeat (first | refine blk_drewN ?_ _ | refine blk_drew ?_ | refine blk_alloc ?_ _)); exact BK166.out) hb); have n4_ := Aside0.mk (blk_below (g := gb171) (o := .cells #[.int .u64 t167, .int .u64 t168, .int .u64 t169, .int .u64 t170] 25 (0, 0)) (by (with_reducible repeat (first | refine blk_drewN ?_ _ | refine blk_drew ?_ | refine blk_alloc ?_ _)); exact BK171.out) hb); have n5_ := Aside0.mk (below_step (by repeat (first | (with_reducible first | exact HB.out | apply below_alloc | apply pw_below_drewN | apply below_drew1 | refine below_set ?_ GE166.out | refine below_set ?_ GE171.out) | exact HB.out)) hb); clear HO153; clear HO183; clear HO205; clear BK166; clear BK171; clear HB; have HO153 := n0_; have HO183 := n1_; have HO205 := n2_; have BK166 := n3_; have BK171 := n4_; have HB := n5_; clear n0_ n1_ n2_ n3_ n4_ n5_; (try clear hb); (try clear hb2); (try clear hk); (try clear hi)) | ((with_reducible refine gate_dst (N := 18) rfl ?_); (try (refine gate_guard (by rfl) ?_; dsimp only)); refine box_event ?hg (N := 18) ?hd (cs := #[.bool false, .string (⟨#[]⟩ : ByteArray), .string (⟨#[]⟩ : ByteArray)]) (t := 33) ?hr ?_; (case hd => rfl); (case hg => rfl); (case hr => first | (go_simp; done) | (go_simp; rfl)); intro gb227 hg w352 hbox hb; have n0_ := Aside0.mk (Kd.R_below (by (with_reducible repeat (first | apply Kd.R_alloc | apply Kd.R_drewN | apply Kd.R_drew)); exact HO153.out) hb); have n1_ := Aside0.mk (Kd.R_below (by (with_reducible repeat (first | apply Kd.R_alloc | apply Kd.R_drewN | apply Kd.R_drew)); exact HO183.out) hb); have n2_ := Aside0.mk (Kd.R_below (by (with_reducible repeat (first | apply Kd.R_alloc | apply Kd.R_drewN | apply Kd.R_drew)); exact HO205.out) hb); have n3_ := Aside0.mk (blk_below (g := gb166) (o := .cells #[.int .u64 t162, .int .u64 t163, .int .u64 t164, .int .u64 t165] 25 (0, 0)) (by (with_reducible repeat (first | refine blk_drewN ?_ _ | refine blk_drew ?_ | refine blk_alloc ?_ _)); exact BK166.out) hb); have n4_ := Aside0.mk (blk_below (g := gb171) (o := .cells #[.int .u64 t167, .int .u64 t168, .int .u64 t169, .int .u64 t170] 25 (0, 0)) (by (with_reducible repeat (first | refine blk_drewN ?_ _ | refine blk_drew ?_ | refine blk_alloc ?_ _)); exact BK171.out) hb); have n5_ := Aside0.mk (below_step (by repeat (first | (with_reducible first | exact HB.out | apply below_alloc | apply pw_below_drewN | apply below_drew1 | refine below_set ?_ GE166.out | refine below_set ?_ GE171.out) | exact HB.out)) hb); have n6_ := Aside0.mk (hbox); have n7_ := Aside0.mk ((by rw [hg]; exact (below_size (by repeat (first | (with_reducible first | exact HB.out | apply below_alloc | apply pw_below_drewN | apply below_drew1 | refine below_set ?_ GE166.out | refine below_set ?_ GE171.out) | exact HB.out))) : w.heap.size ≤ gb227)); have n8_ := Aside0.mk ((by rw [hg]; exact (below_size (by repeat (first | (with_reducible first | exact HB.out | apply below_alloc | apply pw_below_drewN | apply below_drew1 | refine below_set ?_ GE166.out | refine below_set ?_ GE171.out) | exact HB.out))) : w.heap.size ≤ gb227)); have n9_ := Aside0.mk ((by rw [hg]; exact Nat.ne_of_lt (blk_lt (g := gb166) (o := .cells #[.int .u64 t162, .int .u64 t163, .int .u64 t164, .int .u64 t165] 25 (0, 0)) (by (with_reducible repeat (first | refine blk_drewN ?_ _ | refine blk_drew ?_ | refine blk_alloc ?_ _)); exact BK166.out)) : gb166 ≠ gb227)); have n10_ := Aside0.mk ((by rw [hg]; exact Nat.ne_of_gt (blk_lt (g := gb166) (o := .cells #[.int .u64 t162, .int .u64 t163, .int .u64 t164, .int .u64 t165] 25 (0, 0)) (by (with_reducible repeat (first | refine blk_drewN ?_ _ | refine blk_drew ?_ | refine blk_alloc ?_ _)); exact BK166.out)) : gb227 ≠ gb166)); have n11_ := Aside0.mk ((by rw [hg]; exact Nat.ne_of_lt (blk_lt (g := gb171) (o := .cells #[.int .u64 t167, .int .u64 t168, .int .u64 t169, .int .u64 t170] 25 (0, 0)) (by (with_reducible repeat (first | refine blk_drewN ?_ _ | refine blk_drew ?_ | refine blk_alloc ?_ _)); exact BK171.out)) : gb171 ≠ gb227)); have n12_ := Aside0.mk ((by rw [hg]; exact Nat.ne_of_gt (blk_lt (g := gb171) (o := .cells #[.int .u64 t167, .int .u64 t168, .int .u64 t169, .int .u64 t170] 25 (0, 0)) (by (with_reducible repeat (first | refine blk_drewN ?_ _ | refine blk_drew ?_ | refine blk_alloc ?_ _)); exact BK171.out)) : gb227 ≠ gb171)); clear HO153; clear HO183; clear HO205; clear BK166; clear BK171; clear HB; have HO153 := n0_; have HO183 := n1_; have HO205 := n2_; have BK166 := n3_; have BK171 := n4_; have HB := n5_; have BK227 := n6_; have GW227 := n7_; have GE227 := n8_; have NB166_227 := n9_; have NB227_166 := n10_; have NB171_227 := n11_; have NB227_171 := n12_; clear n0_ n1_ n2_ n3_ n4_ n5_ n6_ n7_ n8_ n9_ n10_ n11_ n12_; clear hb hbox hg; have hnb353 := NB227_166.out; have hnc353 := NB166_227.out; have hnb354 := NB227_171.out; have hnc354 := NB171_227.out; have hcz355_0 : w352.cell? ⟨gb227, 0, none⟩ = some (.bool false) := (blk_cell BK227.out 0).trans rfl; have hcz355_1 : w352.cell? ⟨gb227, 1, none⟩ = some (.string (⟨#[]⟩ : ByteArray)) := (blk_cell BK227.out 1).trans rfl; have hcz355_2 : w352.cell? ⟨gb227, 2, none⟩ = some (.string (⟨#[]⟩ : ByteArray)) := (blk_cell BK227.out 2).trans rfl; have hfz355_0 := blk_frozen BK227.out 0; have hfz355_1 := blk_frozen BK227.out 1; have hfz355_2 := blk_frozen BK227.out 2) | ((with_reducible refine gate_callee (f := 11) rfl ?_); refine goesL_ (some 103) rfl rfl Try.func11 (by kernel_rfl) rfl #[.string ji52] rfl (by (try simp only [List.map_toArray, List.map_cons, List.map_nil]); first | done | (simp only [hji52]; rfl) | rfl | (simp only [List.length_drop, List.length_take]; rfl)) ?_; (with_reducible refine (curl_Parse.calls kj5 ji52 t228 t229 t230 _ A64.out).mono ?_); rintro e w356 ⟨rfl, hb⟩; refine ⟨_, rfl, ?_⟩; have n0_ := Aside0.mk (Kd.R_below (by (with_reducible repeat (first | apply Kd.R_alloc | apply Kd.R_drewN | apply Kd.R_drew)); exact (Kd.R_mono (Kd.R_far (p := ⟨gb227, 2, none⟩) (Kd.R_far (p := ⟨gb227, 1, none⟩) (Kd.R_far (p := ⟨gb227, 0, none⟩) (Kd.R_types HO153.out BK227.out (by decide)) (fun _ hk => hk.2) (.bool t224)) (fun _ hk => hk.2) (.string t225)) (fun _ hk => hk.2) (.string t226)) (fun _ h_ => h_.1))) hb); have n1_ := Aside0.mk (Kd.R_below (by (with_reducible repeat (first | apply Kd.R_alloc | apply Kd.R_drewN | apply Kd.R_drew)); exact (Kd.R_mono (Kd.R_far (p := ⟨gb227, 2, none⟩) (Kd.R_far (p := ⟨gb227, 1, none⟩) (Kd.R_far (p := ⟨gb227, 0, none⟩) (Kd.R_types HO183.out BK227.out (by decide)) (fun _ hk => hk.2) (.bool t224)) (fun _ hk => hk.2) (.string t225)) (fun _ hk => hk.2) (.string t226)) (fun _ h_ => h_.1))) hb); have n2_ := Aside0.mk (Kd.R_below (by (with_reducible repeat (first | apply Kd.R_alloc | apply Kd.R_drewN | apply Kd.R_drew)); exact (Kd.R_mono (Kd.R_far (p := ⟨gb227, 2, none⟩) (Kd.R_far (p := ⟨gb227, 1, none⟩) (Kd.R_far (p := ⟨gb227, 0, none⟩) (Kd.R_types HO205.out BK227.out (by decide)) (fun _ hk => hk.2) (.bool t224)) (fun _ hk => hk.2) (.string t225)) (fun _ hk => hk.2) (.string t226)) (fun _ h_ => h_.1))) hb); have n3_ := Aside0.mk (blk_below (g := gb166) (o := .cells #[.int .u64 t162, .int .u64 t163, .int .u64 t164, .int .u64 t165] 25 (0, 0)) (by (with_reducible repeat (first | refine blk_drewN ?_ _ | refine blk_drew ?_ | refine blk_alloc ?_ _)); refine blk_far ?_ NB166_227.out _; (with_reducible repeat (first | refine blk_drewN ?_ _ | refine blk_drew ?_ | refine blk_alloc ?_ _)); refine blk_far ?_ NB166_227.out _; (with_reducible repeat (first | refine blk_drewN ?_ _ | refine blk_drew ?_ | refine blk_alloc ?_ _)); refine blk_far ?_ NB166_227.out _; (with_reducible repeat (first | refine blk_drewN ?_ _ | refine blk_drew ?_ | refine blk_alloc ?_ _)); exact BK166.out) hb); have n4_ := Aside0.mk (blk_below (g := gb171) (o := .cells #[.int .u64 t167, .int .u64 t168, .int .u64 t169, .int .u64 t170] 25 (0, 0)) (by (with_reducible repeat (first | refine blk_drewN ?_ _ | refine blk_drew ?_ | refine blk_alloc ?_ _)); refine blk_far ?_ NB171_227.out _; (with_reducible repeat (first | refine blk_drewN ?_ _ | refine blk_drew ?_ | refine blk_alloc ?_ _)); refine blk_far ?_ NB171_227.out _; (with_reducible repeat (first | refine blk_drewN ?_ _ | refine blk_drew ?_ | refine blk_alloc ?_ _)); refine blk_far ?_ NB171_227.out _; (with_reducible repeat (first | refine blk_drewN ?_ _ | refine blk_drew ?_ | refine blk_alloc ?_ _)); exact BK171.out) hb); have n5_ := Aside0.mk (blk_below (g := gb227) (o := .cells #[.bool t224, .string t225, .string t226] 33 (0, 0)) (by (with_reducible repeat (first | refine blk_drewN ?_ _ | refine blk_drew ?_ | refine blk_alloc ?_ _)); refine blk_put (cs := #[.bool t224, .string t225, .string (⟨#[]⟩ : ByteArray)]) ?_ 2 _ rfl; (with_reducible repeat (first | refine blk_drewN ?_ _ | refine blk_drew ?_ | refine blk_alloc ?_ _)); refine blk_put (cs := #[.bool t224, .string (⟨#[]⟩ : ByteArray), .string (⟨#[]⟩ : ByteArray)]) ?_ 1 _ rfl; (with_reducible repeat (first | refine blk_drewN ?_ _ | refine blk_drew ?_ | refine blk_alloc ?_ _)); refine blk_put (cs := #[.bool false, .string (⟨#[]⟩ : ByteArray), .string (⟨#[]⟩ : ByteArray)]) ?_ 0 _ rfl; (with_reducible repeat (first | refine blk_drewN ?_ _ | refine blk_drew ?_ | refine blk_alloc ?_ _)); exact BK227.out) hb); have n6_ := Aside0.mk (below_step (by repeat (first | (with_reducible first | exact HB.out | apply below_alloc | apply pw_below_drewN | apply below_drew1 | refine below_set ?_ GE166.out | refine below_set ?_ GE171.out | refine below_set ?_ GE227.out) | exact HB.out)) hb); clear HO153; clear HO183; clear HO205; clear BK166; clear BK171; clear BK227; clear HB; have HO153 := n0_; have HO183 := n1_; have HO205 := n2_; have BK166 := n3_; have BK171 := n4_; have BK227 := n5_; have HB := n6_; clear n0_ n1_ n2_ n3_ n4_ n5_ n6_; (try clear hb); (try clear hb2); (try clear hk); (try clear hi)))
                                      go_ret
                                      exact ⟨by first | rfl | (simp [errW_none, errW_some] <;> rfl) | (simp only [← hji23, ← hji29, ← hji33, ← hji35, ← hji37, ← hji40, ← hji46, ← hji48, ← hji50, ← hji52, ← hji56, ← hji58, ← hji60, ← hji62]; first | rfl | (simp [errW_none, errW_some] <;> rfl)) | (simp [*, errW_none, errW_some] <;> rfl), by repeat (first | (with_reducible first | exact HB.out | apply below_alloc | apply pw_below_drewN | apply below_drew1 | refine below_set ?_ GE166.out | refine below_set ?_ GE171.out | refine below_set ?_ GE227.out) | exact HB.out)⟩
                                  · rw [if_neg c61] at H
                                    exact absurd H (by simp)
                                · rw [if_neg c59] at H
                                  exact absurd H (by simp)
                              · rw [if_neg c57] at H
                                exact absurd H (by simp)
                            · rw [if_neg c55] at H
                              exact absurd H (by simp)
                          · rw [if_neg c51] at H
                            exact absurd H (by simp)
                        · rw [if_neg c49] at H
                          exact absurd H (by simp)
                      · rw [if_neg c47] at H
                        exact absurd H (by simp)
                    · rw [if_neg c45] at H
                      exact absurd H (by simp)
                  · rw [if_neg c39] at H
                    exact absurd H (by simp)
                · rw [if_neg c36] at H
                  exact absurd H (by simp)
              · rw [if_neg c34] at H
                exact absurd H (by simp)
            · rw [if_neg c32] at H
              exact absurd H (by simp)
          · rw [if_neg c28] at H
            exact absurd H (by simp)
        · rw [if_neg c22] at H
          exact absurd H (by simp)

/-- THE ONE PURE STATEMENT of shibbolethlaw22_CurlBuilt: yours. -/
def shibbolethlaw22_CurlBuilt.Pure : Prop := ∀ (a0 : ByteArray) (a1 : ByteArray) (a2 : ByteArray) (a3 : ByteArray) (a4 : ByteArray), a0.size ≤ 140737488351232 → a1.size ≤ 140737488351232 → a2.size ≤ 140737488351232 → a3.size ≤ 140737488351232 → a4.size ≤ 140737488351232 → ∃ k, shibbolethlaw22_CurlBuilt.f k a0 a1 a2 a3 a4 = some true
theorem shibbolethlaw22_CurlBuilt.walk (P : shibbolethlaw22_CurlBuilt.Pure) (a0 : ByteArray) (a1 : ByteArray) (a2 : ByteArray) (a3 : ByteArray) (a4 : ByteArray) (w : World) (w0 : a0.size ≤ 140737488351232) (w1 : a1.size ≤ 140737488351232) (w2 : a2.size ≤ 140737488351232) (w3 : a3.size ≤ 140737488351232) (w4 : a4.size ≤ 140737488351232) :
    Calls Try.prog 3 #[.string a0, .string a1, .string a2, .string a3, .string a4] w fun e w' => e = .returned (.bool true) ∧ Below w.heap.size w w' := by
  obtain ⟨k, h⟩ := P a0 a1 a2 a3 a4 w0 w1 w2 w3 w4
  refine (shibbolethlaw22_CurlBuilt.calls k a0 a1 a2 a3 a4 true w h).mono ?_
  rintro e w' ⟨rfl, hd⟩
  exact ⟨rfl, hd⟩

end Go.Proofs.Ytpejenbhgfbjjaa.ZA

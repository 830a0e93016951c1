/- My own print (tools/mp.py) of functions of this seat: each function as a plain Lean function, and the proof that the code does what that function says. -/
import Derived.Test.YtbjfcnhaedhbaaaZA0
namespace Go.Proofs.Ytbjfcnhaedhbaaa.ZA
open Go.RowKit Go.Proofs.YtbjfcnhaedhbaaaW.PrintWords Go.Proofs.YtbjfcnhaedhbaaaW.PrintLast Go.Proofs.YtbjfcnhaedhbaaaW.PrintMore
attribute [local go_sem] max2_int min2_int max_two min_two max_three min_three max_four min_four   -- for this text's walks alone
set_option linter.unusedVariables false
set_option linter.unusedSimpArgs false

/-! ### shibbolethlaw22_schemed: function 21 -/
mutual
def shibbolethlaw22_schemed.l0 : Nat → ByteArray → Int → Option (Bool)
  | 0, _, _ => none
  | k + 1, x0, x3 => if (wrap64 (x3 + 1)) < (x0.size : Int) then (if 0 ≤ x3 then (if x3 < (x0.size : Int) then (if x3 > 0 then (shibbolethlaw22_schemed.j1 k x0 x3 (bt x0 x3) ((bt x0 x3) == 58)) else (shibbolethlaw22_schemed.j1 k x0 x3 (bt x0 x3) false)) else (none)) else (none)) else (some false)
def shibbolethlaw22_schemed.j1 : Nat → ByteArray → Int → Int → Bool → Option (Bool)
  | 0, _, _, _, _ => none
  | k + 1, x0, x3, x4, x21 => if x21 = true then (if 0 ≤ (wrap64 (x3 + 1)) then (if (wrap64 (x3 + 1)) < (x0.size : Int) then (some ((bt x0 (wrap64 (x3 + 1))) == 47)) else (none)) else (none)) else (if (Go.bits .or .u8 x4 32) ≥ 97 then (if ((Go.bits .or .u8 x4 32) ≤ 122) then (shibbolethlaw22_schemed.l0 k x0 (wrap64 (x3 + 1))) else (if x3 = 0 then (some false) else (if x4 ≥ 48 then (if x4 ≤ 57 then (shibbolethlaw22_schemed.l0 k x0 (wrap64 (x3 + 1))) else (if x4 = 43 then (shibbolethlaw22_schemed.l0 k x0 (wrap64 (x3 + 1))) else (if x4 = 45 then (shibbolethlaw22_schemed.l0 k x0 (wrap64 (x3 + 1))) else (if x4 = 46 then (shibbolethlaw22_schemed.l0 k x0 (wrap64 (x3 + 1))) else (some false))))) else (if x4 = 43 then (shibbolethlaw22_schemed.l0 k x0 (wrap64 (x3 + 1))) else (if x4 = 45 then (shibbolethlaw22_schemed.l0 k x0 (wrap64 (x3 + 1))) else (if x4 = 46 then (shibbolethlaw22_schemed.l0 k x0 (wrap64 (x3 + 1))) else (some false))))))) else (if x3 = 0 then (some false) else (if x4 ≥ 48 then (if x4 ≤ 57 then (shibbolethlaw22_schemed.l0 k x0 (wrap64 (x3 + 1))) else (if x4 = 43 then (shibbolethlaw22_schemed.l0 k x0 (wrap64 (x3 + 1))) else (if x4 = 45 then (shibbolethlaw22_schemed.l0 k x0 (wrap64 (x3 + 1))) else (if x4 = 46 then (shibbolethlaw22_schemed.l0 k x0 (wrap64 (x3 + 1))) else (some false))))) else (if x4 = 43 then (shibbolethlaw22_schemed.l0 k x0 (wrap64 (x3 + 1))) else (if x4 = 45 then (shibbolethlaw22_schemed.l0 k x0 (wrap64 (x3 + 1))) else (if x4 = 46 then (shibbolethlaw22_schemed.l0 k x0 (wrap64 (x3 + 1))) else (some false)))))))
end
def shibbolethlaw22_schemed.f (k : Nat) (a0 : ByteArray) : Option (Bool) := shibbolethlaw22_schemed.l0 k a0 0
theorem shibbolethlaw22_schemed.mono_l : ∀ k, (∀ y0 y1, LeO (shibbolethlaw22_schemed.l0 k y0 y1) (shibbolethlaw22_schemed.l0 (k + 1) y0 y1)) ∧ (∀ y0 y1 y2 y3, LeO (shibbolethlaw22_schemed.j1 k y0 y1 y2 y3) (shibbolethlaw22_schemed.j1 (k + 1) y0 y1 y2 y3))
  | 0 => ⟨fun _ _ r h => by simp [shibbolethlaw22_schemed.l0] at h, fun _ _ _ _ r h => by simp [shibbolethlaw22_schemed.j1] at h⟩
  | k + 1 => by
    obtain ⟨ih0, ih1⟩ := shibbolethlaw22_schemed.mono_l k
    refine ⟨?_, ?_⟩
    · intro y0 y1
      unfold shibbolethlaw22_schemed.l0
      repeat' first
      | (with_reducible exact ih0 _ _)
      | (with_reducible exact ih1 _ _ _ _)
      | (with_reducible exact LeO.refl _)
      | (with_reducible exact LeO.none _)
      | (with_reducible refine LeO.ite ?_ ?_)
      | (with_reducible refine LeO.bind ?_ (fun _ => ?_))
      | exact ih0 _ _
      | exact ih1 _ _ _ _
      | exact LeO.none _
      | refine LeO.ite ?_ ?_
      | refine LeO.bind ?_ (fun _ => ?_)
    · intro y0 y1 y2 y3
      unfold shibbolethlaw22_schemed.j1
      repeat' first
      | (with_reducible exact ih0 _ _)
      | (with_reducible exact ih1 _ _ _ _)
      | (with_reducible exact LeO.refl _)
      | (with_reducible exact LeO.none _)
      | (with_reducible refine LeO.ite ?_ ?_)
      | (with_reducible refine LeO.bind ?_ (fun _ => ?_))
      | exact ih0 _ _
      | exact ih1 _ _ _ _
      | exact LeO.none _
      | refine LeO.ite ?_ ?_
      | refine LeO.bind ?_ (fun _ => ?_)
theorem shibbolethlaw22_schemed.mono : ∀ a0 k, LeO (shibbolethlaw22_schemed.f k a0) (shibbolethlaw22_schemed.f (k + 1) a0) := by
  intro a0 k
  obtain ⟨ih0, ih1⟩ := shibbolethlaw22_schemed.mono_l k
  unfold shibbolethlaw22_schemed.f
  repeat' first
      | (with_reducible exact ih0 _ _)
      | (with_reducible exact ih1 _ _ _ _)
      | (with_reducible exact LeO.refl _)
      | (with_reducible exact LeO.none _)
      | (with_reducible refine LeO.ite ?_ ?_)
      | (with_reducible refine LeO.bind ?_ (fun _ => ?_))
      | exact ih0 _ _
      | exact ih1 _ _ _ _
      | exact LeO.none _
      | refine LeO.ite ?_ ?_
      | refine LeO.bind ?_ (fun _ => ?_)
set_option maxHeartbeats 8000000 in
set_option maxRecDepth 100000 in
theorem shibbolethlaw22_schemed.calls (k : Nat) (a0 : ByteArray) (r : Bool) (w : World) (h : shibbolethlaw22_schemed.f k a0 = some r) :
    Calls Try.prog 21 #[.string a0] w fun e w' => e = .returned (.bool r) ∧ Drawn0 w w' := by
  have H : (shibbolethlaw22_schemed.l0 k a0 0) = some r := h
  clear h
  have H' := Aside0.mk H
  clear H
  go_enter Try.func21, Try.ntmps21
  go_wp2
  go_loopg [3] k (fun kq v3 w' => ∃ (x3_1 : Int), v3 = .int .i64 x3_1 ∧ Aside0 (shibbolethlaw22_schemed.l0 kq a0 x3_1 = some r) ∧ Aside0 (kq ≤ k) ∧ Drawn0 w w')
  case atStart => exact ⟨(0), (by first | rfl | (simp; done) | (simp [*]; done)), H', ⟨Nat.le_refl _⟩, by repeat (first | exact Drawn0.refl _ | apply Drawn0.step)⟩
  case round =>
    clear H'
    obtain ⟨x3_1, rfl, HA, HK1, ⟨m1, rfl⟩⟩ := hrel
    cases gk with
    | zero => exact absurd HA.out (by simp [shibbolethlaw22_schemed.l0])
    | succ k1 =>
      have H := HA.out
      clear HA
      simp only [shibbolethlaw22_schemed.l0] at H
      by_cases c2 : (wrap64 (x3_1 + 1)) < (a0.size : Int)
      · rw [if_pos c2] at H
        have c2b0 : decide ((wrap64 (x3_1 + 1)) < (a0.size : Int)) = true := decide_eq_true c2
        clear c2
        by_cases c3 : 0 ≤ x3_1
        · rw [if_pos c3] at H
          have c3b0 : decide (0 ≤ x3_1) = true := decide_eq_true c3
          clear c3
          by_cases c4 : x3_1 < (a0.size : Int)
          · rw [if_pos c4] at H
            have c4b0 : decide (x3_1 < (a0.size : Int)) = true := decide_eq_true c4
            clear c4
            have HC6 := Aside0.mk H
            clear H
            have p5 : 0 ≤ (x3_1 : Int) := of_decide_eq_true (by first | (with_reducible assumption) | assumption)
            have q5 : x3_1 < (a0.size : Int) := of_decide_eq_true (by first | (with_reducible assumption) | assumption)
            have hx5 := bt_at a0 x3_1
            replace p5 := eq_true p5
            replace q5 := eq_true q5
            go_upto_region 5 with (fail)
            go_cut [21] (fun v21 wc => ∃ (kq : Nat) (x21_5 : Bool), v21 = .bool x21_5 ∧ Aside0 (shibbolethlaw22_schemed.j1 kq a0 x3_1 (bt a0 x3_1) x21_5 = some r) ∧ Aside0 (kq ≤ k1) ∧ Drawn0 w wc)
            case first =>
              have H := HC6.out
              clear HC6
              by_cases c7 : x3_1 > 0
              · rw [if_pos c7] at H
                have c7b0 : decide (0 < x3_1) = true := decide_eq_true c7
                clear c7
                (first | rw [c7b0] | (simp only [i64_w, i32_w]; rw [c7b0]) | skip)
                have H' := Aside0.mk H
                clear H
                go_wp2
                go_meet
                case rel => exact ⟨_, (((bt a0 x3_1) == 58)), (by first | rfl | (simp; done) | (simp [*]; done)), H', ⟨by have := HK1.out; first | omega | exact Nat.le_refl _⟩, by repeat (first | exact Drawn0.refl _ | apply Drawn0.step)⟩
              · rw [if_neg c7] at H
                have c7b0 : decide (0 < x3_1) = false := decide_eq_false c7
                clear c7
                (first | rw [c7b0] | (simp only [i64_w, i32_w]; rw [c7b0]) | skip)
                have H' := Aside0.mk H
                clear H
                go_wp2
                go_meet
                case rel => exact ⟨_, (false), (by first | rfl | (simp; done) | (simp [*]; done)), H', ⟨by have := HK1.out; first | omega | exact Nat.le_refl _⟩, by repeat (first | exact Drawn0.refl _ | apply Drawn0.step)⟩
            case rest =>
              clear HC6
              try clear c2
              try clear c2b0
              try clear p2
              try clear c3
              try clear c3b0
              try clear c4
              try clear c4b0
              try clear p5
              try clear q5
              try clear hx5
              try clear p6
              try clear c7
              try clear c7b0
              try clear p5
              try clear q5
              obtain ⟨kq, x21_5, rfl, HA, HJ5, ⟨mc5, rfl⟩⟩ := hcut
              cases kq with
              | zero => exact absurd HA.out (by simp [shibbolethlaw22_schemed.j1])
              | succ kj5 =>
                have H := HA.out
                clear HA
                simp only [shibbolethlaw22_schemed.j1] at H
                by_cases c8 : x21_5 = true
                · subst c8
                  have H1 : (if 0 ≤ (wrap64 (x3_1 + 1)) then (if (wrap64 (x3_1 + 1)) < (a0.size : Int) then (some ((bt a0 (wrap64 (x3_1 + 1))) == 47)) else (none)) else (none)) = some r := by rw [if_pos rfl] at H; exact H
                  clear H
                  have H := H1
                  clear H1
                  obtain ⟨ji9, hji9⟩ : ∃ j_ : Int, (wrap64 (x3_1 + 1)) = j_ := ⟨_, rfl⟩
                  replace H : (if 0 ≤ (ji9) then (if (ji9) < (a0.size : Int) then (some ((bt a0 (ji9)) == 47)) else (none)) else (none)) = some r := by first | (rw [hji9] at H; exact H) | (simp only [hji9] at H ⊢; exact H)
                  (try rw [hji9] at c2b0)
                  have hji9w : (IntKind.i64.wrap (x3_1 + 1)) = ji9 := (i64_w _).trans hji9
                  by_cases c10 : 0 ≤ (ji9)
                  · rw [if_pos c10] at H
                    have c10b0 : decide (0 ≤ (ji9)) = true := decide_eq_true c10
                    clear c10
                    by_cases c11 : (ji9) < (a0.size : Int)
                    · rw [if_pos c11] at H
                      have c11b0 : decide ((ji9) < (a0.size : Int)) = true := decide_eq_true c11
                      clear c11
                      obtain rfl := Option.some.inj H
                      have p12 : 0 ≤ ((ji9) : Int) := of_decide_eq_true (by first | (with_reducible assumption) | assumption)
                      have q12 : (ji9) < (a0.size : Int) := of_decide_eq_true (by first | (with_reducible assumption) | assumption)
                      have hx12 := bt_at a0 (ji9)
                      replace p12 := eq_true p12
                      replace q12 := eq_true q12
                      go_wp2
                      go_ret
                      exact ⟨by first | rfl | (simp; done) | (simp only [← hji9] <;> (first | rfl | simp)) | (simp [*]; done), by repeat (first | exact Drawn0.refl _ | apply Drawn0.step)⟩
                    · rw [if_neg c11] at H
                      exact absurd H (by simp)
                  · rw [if_neg c10] at H
                    exact absurd H (by simp)
                · replace c8 := Bool.eq_false_iff.mpr c8
                  subst c8
                  have H1 : (if (Go.bits .or .u8 (bt a0 x3_1) 32) ≥ 97 then (if ((Go.bits .or .u8 (bt a0 x3_1) 32) ≤ 122) then (shibbolethlaw22_schemed.l0 kj5 a0 (wrap64 (x3_1 + 1))) else (if x3_1 = 0 then (some false) else (if (bt a0 x3_1) ≥ 48 then (if (bt a0 x3_1) ≤ 57 then (shibbolethlaw22_schemed.l0 kj5 a0 (wrap64 (x3_1 + 1))) else (if (bt a0 x3_1) = 43 then (shibbolethlaw22_schemed.l0 kj5 a0 (wrap64 (x3_1 + 1))) else (if (bt a0 x3_1) = 45 then (shibbolethlaw22_schemed.l0 kj5 a0 (wrap64 (x3_1 + 1))) else (if (bt a0 x3_1) = 46 then (shibbolethlaw22_schemed.l0 kj5 a0 (wrap64 (x3_1 + 1))) else (some false))))) else (if (bt a0 x3_1) = 43 then (shibbolethlaw22_schemed.l0 kj5 a0 (wrap64 (x3_1 + 1))) else (if (bt a0 x3_1) = 45 then (shibbolethlaw22_schemed.l0 kj5 a0 (wrap64 (x3_1 + 1))) else (if (bt a0 x3_1) = 46 then (shibbolethlaw22_schemed.l0 kj5 a0 (wrap64 (x3_1 + 1))) else (some false))))))) else (if x3_1 = 0 then (some false) else (if (bt a0 x3_1) ≥ 48 then (if (bt a0 x3_1) ≤ 57 then (shibbolethlaw22_schemed.l0 kj5 a0 (wrap64 (x3_1 + 1))) else (if (bt a0 x3_1) = 43 then (shibbolethlaw22_schemed.l0 kj5 a0 (wrap64 (x3_1 + 1))) else (if (bt a0 x3_1) = 45 then (shibbolethlaw22_schemed.l0 kj5 a0 (wrap64 (x3_1 + 1))) else (if (bt a0 x3_1) = 46 then (shibbolethlaw22_schemed.l0 kj5 a0 (wrap64 (x3_1 + 1))) else (some false))))) else (if (bt a0 x3_1) = 43 then (shibbolethlaw22_schemed.l0 kj5 a0 (wrap64 (x3_1 + 1))) else (if (bt a0 x3_1) = 45 then (shibbolethlaw22_schemed.l0 kj5 a0 (wrap64 (x3_1 + 1))) else (if (bt a0 x3_1) = 46 then (shibbolethlaw22_schemed.l0 kj5 a0 (wrap64 (x3_1 + 1))) else (some false))))))) = some r := by rw [if_neg (show ¬ (false = true) by decide)] at H; exact H
                  clear H
                  have H := H1
                  clear H1
                  by_cases c13 : (Go.bits .or .u8 (bt a0 x3_1) 32) ≥ 97
                  · rw [if_pos c13] at H
                    have c13b0 : decide (97 ≤ (Go.bits .or .u8 (bt a0 x3_1) 32)) = true := decide_eq_true c13
                    clear c13
                    by_cases c14 : ((Go.bits .or .u8 (bt a0 x3_1) 32) ≤ 122)
                    · rw [if_pos c14] at H
                      have c14b0 : decide ((Go.bits .or .u8 (bt a0 x3_1) 32) ≤ 122) = true := decide_eq_true c14
                      clear c14
                      have H' := Aside0.mk H
                      clear H
                      go_wp2
                      go_roundg kj5
                      case measure => have := HK1.out; have := HJ5.out; omega
                      case rel => exact ⟨(wrap64 (x3_1 + 1)), (by first | rfl | (simp; done) | (simp [*]; done)), H', ⟨by have := HK1.out; have := HJ5.out; omega⟩, by repeat (first | exact Drawn0.refl _ | apply Drawn0.step)⟩
                    · rw [if_neg c14] at H
                      have c14b0 : decide ((Go.bits .or .u8 (bt a0 x3_1) 32) ≤ 122) = false := decide_eq_false c14
                      clear c14
                      by_cases c15 : x3_1 = 0
                      · rw [if_pos c15] at H
                        have c15b0 : (x3_1 == 0) = true := beq_iff_eq.mpr c15
                        have c15b1 : (x3_1 != 0) = false := bne_eq_false_iff_eq.mpr c15
                        clear c15
                        obtain rfl := Option.some.inj H
                        go_wp2
                        go_ret
                        exact ⟨by first | rfl | (simp; done) | (simp [*]; done), by repeat (first | exact Drawn0.refl _ | apply Drawn0.step)⟩
                      · rw [if_neg c15] at H
                        have c15b0 : (x3_1 == 0) = false := beq_eq_false_iff_ne.mpr c15
                        have c15b1 : (x3_1 != 0) = true := bne_iff_ne.mpr c15
                        by_cases c16 : (bt a0 x3_1) ≥ 48
                        · rw [if_pos c16] at H
                          have c16b0 : decide (48 ≤ (bt a0 x3_1)) = true := decide_eq_true c16
                          clear c16
                          by_cases c17 : (bt a0 x3_1) ≤ 57
                          · rw [if_pos c17] at H
                            have c17b0 : decide ((bt a0 x3_1) ≤ 57) = true := decide_eq_true c17
                            clear c17
                            have H' := Aside0.mk H
                            clear H
                            go_wp2
                            go_roundg kj5
                            case measure => have := HK1.out; have := HJ5.out; omega
                            case rel => exact ⟨(wrap64 (x3_1 + 1)), (by first | rfl | (simp; done) | (simp [*]; done)), H', ⟨by have := HK1.out; have := HJ5.out; omega⟩, by repeat (first | exact Drawn0.refl _ | apply Drawn0.step)⟩
                          · rw [if_neg c17] at H
                            have c17b0 : decide ((bt a0 x3_1) ≤ 57) = false := decide_eq_false c17
                            clear c17
                            by_cases c18 : (bt a0 x3_1) = 43
                            · rw [if_pos c18] at H
                              have c18b0 : ((bt a0 x3_1) == 43) = true := beq_iff_eq.mpr c18
                              have c18b1 : ((bt a0 x3_1) != 43) = false := bne_eq_false_iff_eq.mpr c18
                              clear c18
                              have H' := Aside0.mk H
                              clear H
                              go_wp2
                              go_roundg kj5
                              case measure => have := HK1.out; have := HJ5.out; omega
                              case rel => exact ⟨(wrap64 (x3_1 + 1)), (by first | rfl | (simp; done) | (simp [*]; done)), H', ⟨by have := HK1.out; have := HJ5.out; omega⟩, by repeat (first | exact Drawn0.refl _ | apply Drawn0.step)⟩
                            · rw [if_neg c18] at H
                              have c18b0 : ((bt a0 x3_1) == 43) = false := beq_eq_false_iff_ne.mpr c18
                              have c18b1 : ((bt a0 x3_1) != 43) = true := bne_iff_ne.mpr c18
                              by_cases c19 : (bt a0 x3_1) = 45
                              · rw [if_pos c19] at H
                                have c19b0 : ((bt a0 x3_1) == 45) = true := beq_iff_eq.mpr c19
                                have c19b1 : ((bt a0 x3_1) != 45) = false := bne_eq_false_iff_eq.mpr c19
                                clear c19
                                have H' := Aside0.mk H
                                clear H
                                go_wp2
                                go_roundg kj5
                                case measure => have := HK1.out; have := HJ5.out; omega
                                case rel => exact ⟨(wrap64 (x3_1 + 1)), (by first | rfl | (simp; done) | (simp [*]; done)), H', ⟨by have := HK1.out; have := HJ5.out; omega⟩, by repeat (first | exact Drawn0.refl _ | apply Drawn0.step)⟩
                              · rw [if_neg c19] at H
                                have c19b0 : ((bt a0 x3_1) == 45) = false := beq_eq_false_iff_ne.mpr c19
                                have c19b1 : ((bt a0 x3_1) != 45) = true := bne_iff_ne.mpr c19
                                by_cases c20 : (bt a0 x3_1) = 46
                                · rw [if_pos c20] at H
                                  have c20b0 : ((bt a0 x3_1) == 46) = true := beq_iff_eq.mpr c20
                                  have c20b1 : ((bt a0 x3_1) != 46) = false := bne_eq_false_iff_eq.mpr c20
                                  clear c20
                                  have H' := Aside0.mk H
                                  clear H
                                  go_wp2
                                  go_roundg kj5
                                  case measure => have := HK1.out; have := HJ5.out; omega
                                  case rel => exact ⟨(wrap64 (x3_1 + 1)), (by first | rfl | (simp; done) | (simp [*]; done)), H', ⟨by have := HK1.out; have := HJ5.out; omega⟩, by repeat (first | exact Drawn0.refl _ | apply Drawn0.step)⟩
                                · rw [if_neg c20] at H
                                  have c20b0 : ((bt a0 x3_1) == 46) = false := beq_eq_false_iff_ne.mpr c20
                                  have c20b1 : ((bt a0 x3_1) != 46) = true := bne_iff_ne.mpr c20
                                  obtain rfl := Option.some.inj H
                                  go_wp2
                                  go_ret
                                  exact ⟨by first | rfl | (simp; done) | (simp [*]; done), by repeat (first | exact Drawn0.refl _ | apply Drawn0.step)⟩
                        · rw [if_neg c16] at H
                          have c16b0 : decide (48 ≤ (bt a0 x3_1)) = false := decide_eq_false c16
                          clear c16
                          by_cases c21 : (bt a0 x3_1) = 43
                          · rw [if_pos c21] at H
                            have c21b0 : ((bt a0 x3_1) == 43) = true := beq_iff_eq.mpr c21
                            have c21b1 : ((bt a0 x3_1) != 43) = false := bne_eq_false_iff_eq.mpr c21
                            clear c21
                            have H' := Aside0.mk H
                            clear H
                            go_wp2
                            go_roundg kj5
                            case measure => have := HK1.out; have := HJ5.out; omega
                            case rel => exact ⟨(wrap64 (x3_1 + 1)), (by first | rfl | (simp; done) | (simp [*]; done)), H', ⟨by have := HK1.out; have := HJ5.out; omega⟩, by repeat (first | exact Drawn0.refl _ | apply Drawn0.step)⟩
                          · rw [if_neg c21] at H
                            have c21b0 : ((bt a0 x3_1) == 43) = false := beq_eq_false_iff_ne.mpr c21
                            have c21b1 : ((bt a0 x3_1) != 43) = true := bne_iff_ne.mpr c21
                            by_cases c22 : (bt a0 x3_1) = 45
                            · rw [if_pos c22] at H
                              have c22b0 : ((bt a0 x3_1) == 45) = true := beq_iff_eq.mpr c22
                              have c22b1 : ((bt a0 x3_1) != 45) = false := bne_eq_false_iff_eq.mpr c22
                              clear c22
                              have H' := Aside0.mk H
                              clear H
                              go_wp2
                              go_roundg kj5
                              case measure => have := HK1.out; have := HJ5.out; omega
                              case rel => exact ⟨(wrap64 (x3_1 + 1)), (by first | rfl | (simp; done) | (simp [*]; done)), H', ⟨by have := HK1.out; have := HJ5.out; omega⟩, by repeat (first | exact Drawn0.refl _ | apply Drawn0.step)⟩
                            · rw [if_neg c22] at H
                              have c22b0 : ((bt a0 x3_1) == 45) = false := beq_eq_false_iff_ne.mpr c22
                              have c22b1 : ((bt a0 x3_1) != 45) = true := bne_iff_ne.mpr c22
                              by_cases c23 : (bt a0 x3_1) = 46
                              · rw [if_pos c23] at H
                                have c23b0 : ((bt a0 x3_1) == 46) = true := beq_iff_eq.mpr c23
                                have c23b1 : ((bt a0 x3_1) != 46) = false := bne_eq_false_iff_eq.mpr c23
                                clear c23
                                have H' := Aside0.mk H
                                clear H
                                go_wp2
                                go_roundg kj5
                                case measure => have := HK1.out; have := HJ5.out; omega
                                case rel => exact ⟨(wrap64 (x3_1 + 1)), (by first | rfl | (simp; done) | (simp [*]; done)), H', ⟨by have := HK1.out; have := HJ5.out; omega⟩, by repeat (first | exact Drawn0.refl _ | apply Drawn0.step)⟩
                              · rw [if_neg c23] at H
                                have c23b0 : ((bt a0 x3_1) == 46) = false := beq_eq_false_iff_ne.mpr c23
                                have c23b1 : ((bt a0 x3_1) != 46) = true := bne_iff_ne.mpr c23
                                obtain rfl := Option.some.inj H
                                go_wp2
                                go_ret
                                exact ⟨by first | rfl | (simp; done) | (simp [*]; done), by repeat (first | exact Drawn0.refl _ | apply Drawn0.step)⟩
                  · rw [if_neg c13] at H
                    have c13b0 : decide (97 ≤ (Go.bits .or .u8 (bt a0 x3_1) 32)) = false := decide_eq_false c13
                    clear c13
                    by_cases c24 : x3_1 = 0
                    · rw [if_pos c24] at H
                      have c24b0 : (x3_1 == 0) = true := beq_iff_eq.mpr c24
                      have c24b1 : (x3_1 != 0) = false := bne_eq_false_iff_eq.mpr c24
                      clear c24
                      obtain rfl := Option.some.inj H
                      go_wp2
                      go_ret
                      exact ⟨by first | rfl | (simp; done) | (simp [*]; done), by repeat (first | exact Drawn0.refl _ | apply Drawn0.step)⟩
                    · rw [if_neg c24] at H
                      have c24b0 : (x3_1 == 0) = false := beq_eq_false_iff_ne.mpr c24
                      have c24b1 : (x3_1 != 0) = true := bne_iff_ne.mpr c24
                      by_cases c25 : (bt a0 x3_1) ≥ 48
                      · rw [if_pos c25] at H
                        have c25b0 : decide (48 ≤ (bt a0 x3_1)) = true := decide_eq_true c25
                        clear c25
                        by_cases c26 : (bt a0 x3_1) ≤ 57
                        · rw [if_pos c26] at H
                          have c26b0 : decide ((bt a0 x3_1) ≤ 57) = true := decide_eq_true c26
                          clear c26
                          have H' := Aside0.mk H
                          clear H
                          go_wp2
                          go_roundg kj5
                          case measure => have := HK1.out; have := HJ5.out; omega
                          case rel => exact ⟨(wrap64 (x3_1 + 1)), (by first | rfl | (simp; done) | (simp [*]; done)), H', ⟨by have := HK1.out; have := HJ5.out; omega⟩, by repeat (first | exact Drawn0.refl _ | apply Drawn0.step)⟩
                        · rw [if_neg c26] at H
                          have c26b0 : decide ((bt a0 x3_1) ≤ 57) = false := decide_eq_false c26
                          clear c26
                          by_cases c27 : (bt a0 x3_1) = 43
                          · rw [if_pos c27] at H
                            have c27b0 : ((bt a0 x3_1) == 43) = true := beq_iff_eq.mpr c27
                            have c27b1 : ((bt a0 x3_1) != 43) = false := bne_eq_false_iff_eq.mpr c27
                            clear c27
                            have H' := Aside0.mk H
                            clear H
                            go_wp2
                            go_roundg kj5
                            case measure => have := HK1.out; have := HJ5.out; omega
                            case rel => exact ⟨(wrap64 (x3_1 + 1)), (by first | rfl | (simp; done) | (simp [*]; done)), H', ⟨by have := HK1.out; have := HJ5.out; omega⟩, by repeat (first | exact Drawn0.refl _ | apply Drawn0.step)⟩
                          · rw [if_neg c27] at H
                            have c27b0 : ((bt a0 x3_1) == 43) = false := beq_eq_false_iff_ne.mpr c27
                            have c27b1 : ((bt a0 x3_1) != 43) = true := bne_iff_ne.mpr c27
                            by_cases c28 : (bt a0 x3_1) = 45
                            · rw [if_pos c28] at H
                              have c28b0 : ((bt a0 x3_1) == 45) = true := beq_iff_eq.mpr c28
                              have c28b1 : ((bt a0 x3_1) != 45) = false := bne_eq_false_iff_eq.mpr c28
                              clear c28
                              have H' := Aside0.mk H
                              clear H
                              go_wp2
                              go_roundg kj5
                              case measure => have := HK1.out; have := HJ5.out; omega
                              case rel => exact ⟨(wrap64 (x3_1 + 1)), (by first | rfl | (simp; done) | (simp [*]; done)), H', ⟨by have := HK1.out; have := HJ5.out; omega⟩, by repeat (first | exact Drawn0.refl _ | apply Drawn0.step)⟩
                            · rw [if_neg c28] at H
                              have c28b0 : ((bt a0 x3_1) == 45) = false := beq_eq_false_iff_ne.mpr c28
                              have c28b1 : ((bt a0 x3_1) != 45) = true := bne_iff_ne.mpr c28
                              by_cases c29 : (bt a0 x3_1) = 46
                              · rw [if_pos c29] at H
                                have c29b0 : ((bt a0 x3_1) == 46) = true := beq_iff_eq.mpr c29
                                have c29b1 : ((bt a0 x3_1) != 46) = false := bne_eq_false_iff_eq.mpr c29
                                clear c29
                                have H' := Aside0.mk H
                                clear H
                                go_wp2
                                go_roundg kj5
                                case measure => have := HK1.out; have := HJ5.out; omega
                                case rel => exact ⟨(wrap64 (x3_1 + 1)), (by first | rfl | (simp; done) | (simp [*]; done)), H', ⟨by have := HK1.out; have := HJ5.out; omega⟩, by repeat (first | exact Drawn0.refl _ | apply Drawn0.step)⟩
                              · rw [if_neg c29] at H
                                have c29b0 : ((bt a0 x3_1) == 46) = false := beq_eq_false_iff_ne.mpr c29
                                have c29b1 : ((bt a0 x3_1) != 46) = true := bne_iff_ne.mpr c29
                                obtain rfl := Option.some.inj H
                                go_wp2
                                go_ret
                                exact ⟨by first | rfl | (simp; done) | (simp [*]; done), by repeat (first | exact Drawn0.refl _ | apply Drawn0.step)⟩
                      · rw [if_neg c25] at H
                        have c25b0 : decide (48 ≤ (bt a0 x3_1)) = false := decide_eq_false c25
                        clear c25
                        by_cases c30 : (bt a0 x3_1) = 43
                        · rw [if_pos c30] at H
                          have c30b0 : ((bt a0 x3_1) == 43) = true := beq_iff_eq.mpr c30
                          have c30b1 : ((bt a0 x3_1) != 43) = false := bne_eq_false_iff_eq.mpr c30
                          clear c30
                          have H' := Aside0.mk H
                          clear H
                          go_wp2
                          go_roundg kj5
                          case measure => have := HK1.out; have := HJ5.out; omega
                          case rel => exact ⟨(wrap64 (x3_1 + 1)), (by first | rfl | (simp; done) | (simp [*]; done)), H', ⟨by have := HK1.out; have := HJ5.out; omega⟩, by repeat (first | exact Drawn0.refl _ | apply Drawn0.step)⟩
                        · rw [if_neg c30] at H
                          have c30b0 : ((bt a0 x3_1) == 43) = false := beq_eq_false_iff_ne.mpr c30
                          have c30b1 : ((bt a0 x3_1) != 43) = true := bne_iff_ne.mpr c30
                          by_cases c31 : (bt a0 x3_1) = 45
                          · rw [if_pos c31] at H
                            have c31b0 : ((bt a0 x3_1) == 45) = true := beq_iff_eq.mpr c31
                            have c31b1 : ((bt a0 x3_1) != 45) = false := bne_eq_false_iff_eq.mpr c31
                            clear c31
                            have H' := Aside0.mk H
                            clear H
                            go_wp2
                            go_roundg kj5
                            case measure => have := HK1.out; have := HJ5.out; omega
                            case rel => exact ⟨(wrap64 (x3_1 + 1)), (by first | rfl | (simp; done) | (simp [*]; done)), H', ⟨by have := HK1.out; have := HJ5.out; omega⟩, by repeat (first | exact Drawn0.refl _ | apply Drawn0.step)⟩
                          · rw [if_neg c31] at H
                            have c31b0 : ((bt a0 x3_1) == 45) = false := beq_eq_false_iff_ne.mpr c31
                            have c31b1 : ((bt a0 x3_1) != 45) = true := bne_iff_ne.mpr c31
                            by_cases c32 : (bt a0 x3_1) = 46
                            · rw [if_pos c32] at H
                              have c32b0 : ((bt a0 x3_1) == 46) = true := beq_iff_eq.mpr c32
                              have c32b1 : ((bt a0 x3_1) != 46) = false := bne_eq_false_iff_eq.mpr c32
                              clear c32
                              have H' := Aside0.mk H
                              clear H
                              go_wp2
                              go_roundg kj5
                              case measure => have := HK1.out; have := HJ5.out; omega
                              case rel => exact ⟨(wrap64 (x3_1 + 1)), (by first | rfl | (simp; done) | (simp [*]; done)), H', ⟨by have := HK1.out; have := HJ5.out; omega⟩, by repeat (first | exact Drawn0.refl _ | apply Drawn0.step)⟩
                            · rw [if_neg c32] at H
                              have c32b0 : ((bt a0 x3_1) == 46) = false := beq_eq_false_iff_ne.mpr c32
                              have c32b1 : ((bt a0 x3_1) != 46) = true := bne_iff_ne.mpr c32
                              obtain rfl := Option.some.inj H
                              go_wp2
                              go_ret
                              exact ⟨by first | rfl | (simp; done) | (simp [*]; done), by repeat (first | exact Drawn0.refl _ | apply Drawn0.step)⟩
          · rw [if_neg c4] at H
            exact absurd H (by simp)
        · rw [if_neg c3] at H
          exact absurd H (by simp)
      · rw [if_neg c2] at H
        have c2b0 : decide ((wrap64 (x3_1 + 1)) < (a0.size : Int)) = false := decide_eq_false c2
        clear c2
        obtain rfl := Option.some.inj H
        go_wp2
        go_ret
        exact ⟨by first | rfl | (simp; done) | (simp [*]; done), by repeat (first | exact Drawn0.refl _ | apply Drawn0.step)⟩

end Go.Proofs.Ytbjfcnhaedhbaaa.ZA

/- My own print (tools/mp.py) of functions of this seat: each function as a plain Lean function, and the proof that the code does what that function says. -/
import Derived.Test.YtiihgddpejmehaaGreatDoorZA0
import Derived.Test.YtiihgddpejmehaaGreatDoorZA11
namespace Go.Proofs.YtiihgddpejmehaaGreatDoor.ZA
open Go.RowKit Go.Proofs.YtiihgddpejmehaaGreatDoorW.PrintWords Go.Proofs.YtiihgddpejmehaaGreatDoorW.PrintLast Go.Proofs.YtiihgddpejmehaaGreatDoorW.PrintMore
attribute [local go_sem] max2_int min2_int max_two min_two max_three min_three max_four min_four   -- for this text's walks alone
set_option linter.unusedVariables false
set_option linter.unusedSimpArgs false

/-! ### shibbolethref18_host: function 63 -/
mutual
def shibbolethref18_host.l0 : Nat → ByteArray → Int → Int → Int → Option (ByteArray × Bool)
  | 0, _, _, _, _ => none
  | k + 1, x0, x1, x2, x8 => if x8 < x2 then (if 0 ≤ x8 then (if x8 < (x0.size : Int) then (if (bt x0 x8) = 64 then (shibbolethref18_host.l0 k x0 (wrap64 (x8 + 1)) x2 (wrap64 (x8 + 1))) else (shibbolethref18_host.l0 k x0 x1 x2 (wrap64 (x8 + 1)))) else (none)) else (none)) else (if x1 = x2 then (some ((⟨#[]⟩ : ByteArray), false)) else (if 0 ≤ x1 then (if x1 < (x0.size : Int) then (if (bt x0 x1) = 91 then ((shibbolethref18_Bracket.f k x0 x1 x2).bind fun t308 => (if t308 ≤ x1 then (some ((⟨#[]⟩ : ByteArray), false)) else ((shibbolethref18_Port.f k x0 t308 x2).bind fun t309 => (if t309 = true then (if x1 ≤ t308 then (if t308 ≤ (x0.size : Int) then (some (x0.extract (x1 : Int).toNat (t308 : Int).toNat, true)) else (none)) else (none)) else (some ((⟨#[]⟩ : ByteArray), false)))))) else (shibbolethref18_host.l1 k x0 x1 x2 x1)) else (none)) else (none)))
def shibbolethref18_host.l1 : Nat → ByteArray → Int → Int → Int → Option (ByteArray × Bool)
  | 0, _, _, _, _ => none
  | k + 1, x0, x1, x2, x9 => if x9 < x2 then (if 0 ≤ x9 then (if x9 < (x0.size : Int) then (shibbolethref18_host.j2 k x0 x1 x2 x9 ((bt x0 x9) != 58)) else (none)) else (none)) else (shibbolethref18_host.j2 k x0 x1 x2 x9 false)
def shibbolethref18_host.j2 : Nat → ByteArray → Int → Int → Int → Bool → Option (ByteArray × Bool)
  | 0, _, _, _, _, _ => none
  | k + 1, x0, x1, x2, x9, x43 => if x43 = true then (if 0 ≤ x9 then (if x9 < (x0.size : Int) then (if (bt x0 x9) ≤ 32 then (some ((⟨#[]⟩ : ByteArray), false)) else (if (bt x0 x9) = 127 then (some ((⟨#[]⟩ : ByteArray), false)) else ((shibbolethref18_In.f k (⟨#[35, 47, 60, 62, 63, 64, 91, 92, 93, 94, 124]⟩ : ByteArray) (bt x0 x9)).bind fun t310 => (if t310 = true then (some ((⟨#[]⟩ : ByteArray), false)) else (shibbolethref18_host.l1 k x0 x1 x2 (wrap64 (x9 + 1))))))) else (none)) else (none)) else (if x9 ≤ x1 then (some ((⟨#[]⟩ : ByteArray), false)) else ((shibbolethref18_Port.f k x0 x9 x2).bind fun t311 => (if t311 = true then (if 0 ≤ x1 then (if x1 ≤ x9 then (if x9 ≤ (x0.size : Int) then (some (x0.extract (x1 : Int).toNat (x9 : Int).toNat, true)) else (none)) else (none)) else (none)) else (some ((⟨#[]⟩ : ByteArray), false)))))
end
def shibbolethref18_host.f (k : Nat) (a0 : ByteArray) (a1 : Int) (a2 : Int) : Option (ByteArray × Bool) := shibbolethref18_host.l0 k a0 a1 a2 a1
theorem shibbolethref18_host.mono_l : ∀ k, (∀ y0 y1 y2 y3, LeO (shibbolethref18_host.l0 k y0 y1 y2 y3) (shibbolethref18_host.l0 (k + 1) y0 y1 y2 y3)) ∧ (∀ y0 y1 y2 y3, LeO (shibbolethref18_host.l1 k y0 y1 y2 y3) (shibbolethref18_host.l1 (k + 1) y0 y1 y2 y3)) ∧ (∀ y0 y1 y2 y3 y4, LeO (shibbolethref18_host.j2 k y0 y1 y2 y3 y4) (shibbolethref18_host.j2 (k + 1) y0 y1 y2 y3 y4))
  | 0 => ⟨fun _ _ _ _ r h => by simp [shibbolethref18_host.l0] at h, fun _ _ _ _ r h => by simp [shibbolethref18_host.l1] at h, fun _ _ _ _ _ r h => by simp [shibbolethref18_host.j2] at h⟩
  | k + 1 => by
    obtain ⟨ih0, ih1, ih2⟩ := shibbolethref18_host.mono_l k
    refine ⟨?_, ?_, ?_⟩
    · intro y0 y1 y2 y3
      unfold shibbolethref18_host.l0
      repeat' first
      | (with_reducible exact ih0 _ _ _ _)
      | (with_reducible exact ih1 _ _ _ _)
      | (with_reducible exact ih2 _ _ _ _ _)
      | (with_reducible exact shibbolethref18_Bracket.mono _ _ _ _)
      | (with_reducible exact shibbolethref18_In.mono _ _ _)
      | (with_reducible exact shibbolethref18_Port.mono _ _ _ _)
      | (with_reducible exact LeO.refl _)
      | (with_reducible exact LeO.none _)
      | (with_reducible refine LeO.ite ?_ ?_)
      | (with_reducible refine LeO.bind ?_ (fun _ => ?_))
      | exact ih0 _ _ _ _
      | exact ih1 _ _ _ _
      | exact ih2 _ _ _ _ _
      | exact shibbolethref18_Bracket.mono _ _ _ _
      | exact shibbolethref18_In.mono _ _ _
      | exact shibbolethref18_Port.mono _ _ _ _
      | exact LeO.none _
      | refine LeO.ite ?_ ?_
      | refine LeO.bind ?_ (fun _ => ?_)
    · intro y0 y1 y2 y3
      unfold shibbolethref18_host.l1
      repeat' first
      | (with_reducible exact ih0 _ _ _ _)
      | (with_reducible exact ih1 _ _ _ _)
      | (with_reducible exact ih2 _ _ _ _ _)
      | (with_reducible exact shibbolethref18_Bracket.mono _ _ _ _)
      | (with_reducible exact shibbolethref18_In.mono _ _ _)
      | (with_reducible exact shibbolethref18_Port.mono _ _ _ _)
      | (with_reducible exact LeO.refl _)
      | (with_reducible exact LeO.none _)
      | (with_reducible refine LeO.ite ?_ ?_)
      | (with_reducible refine LeO.bind ?_ (fun _ => ?_))
      | exact ih0 _ _ _ _
      | exact ih1 _ _ _ _
      | exact ih2 _ _ _ _ _
      | exact shibbolethref18_Bracket.mono _ _ _ _
      | exact shibbolethref18_In.mono _ _ _
      | exact shibbolethref18_Port.mono _ _ _ _
      | exact LeO.none _
      | refine LeO.ite ?_ ?_
      | refine LeO.bind ?_ (fun _ => ?_)
    · intro y0 y1 y2 y3 y4
      unfold shibbolethref18_host.j2
      repeat' first
      | (with_reducible exact ih0 _ _ _ _)
      | (with_reducible exact ih1 _ _ _ _)
      | (with_reducible exact ih2 _ _ _ _ _)
      | (with_reducible exact shibbolethref18_Bracket.mono _ _ _ _)
      | (with_reducible exact shibbolethref18_In.mono _ _ _)
      | (with_reducible exact shibbolethref18_Port.mono _ _ _ _)
      | (with_reducible exact LeO.refl _)
      | (with_reducible exact LeO.none _)
      | (with_reducible refine LeO.ite ?_ ?_)
      | (with_reducible refine LeO.bind ?_ (fun _ => ?_))
      | exact ih0 _ _ _ _
      | exact ih1 _ _ _ _
      | exact ih2 _ _ _ _ _
      | exact shibbolethref18_Bracket.mono _ _ _ _
      | exact shibbolethref18_In.mono _ _ _
      | exact shibbolethref18_Port.mono _ _ _ _
      | exact LeO.none _
      | refine LeO.ite ?_ ?_
      | refine LeO.bind ?_ (fun _ => ?_)
theorem shibbolethref18_host.mono : ∀ a0 a1 a2 k, LeO (shibbolethref18_host.f k a0 a1 a2) (shibbolethref18_host.f (k + 1) a0 a1 a2) := by
  intro a0 a1 a2 k
  obtain ⟨ih0, ih1, ih2⟩ := shibbolethref18_host.mono_l k
  unfold shibbolethref18_host.f
  repeat' first
      | (with_reducible exact ih0 _ _ _ _)
      | (with_reducible exact ih1 _ _ _ _)
      | (with_reducible exact ih2 _ _ _ _ _)
      | (with_reducible exact shibbolethref18_Bracket.mono _ _ _ _)
      | (with_reducible exact shibbolethref18_In.mono _ _ _)
      | (with_reducible exact shibbolethref18_Port.mono _ _ _ _)
      | (with_reducible exact LeO.refl _)
      | (with_reducible exact LeO.none _)
      | (with_reducible refine LeO.ite ?_ ?_)
      | (with_reducible refine LeO.bind ?_ (fun _ => ?_))
      | exact ih0 _ _ _ _
      | exact ih1 _ _ _ _
      | exact ih2 _ _ _ _ _
      | exact shibbolethref18_Bracket.mono _ _ _ _
      | exact shibbolethref18_In.mono _ _ _
      | exact shibbolethref18_Port.mono _ _ _ _
      | exact LeO.none _
      | refine LeO.ite ?_ ?_
      | refine LeO.bind ?_ (fun _ => ?_)
set_option maxHeartbeats 8000000 in
set_option maxRecDepth 100000 in
theorem shibbolethref18_host.calls (k : Nat) (a0 : ByteArray) (a1 : Int) (a2 : Int) (r1 : ByteArray) (r2 : Bool) (w : World) (h : shibbolethref18_host.f k a0 a1 a2 = some (r1, r2)) :
    Calls Tryz.prog 63 #[.string a0, .int .i64 a1, .int .i64 a2] w fun e w' => e = .returned (.tuple #[.string r1, .bool r2]) ∧ Drawn0 w w' := by
  have H : (shibbolethref18_host.l0 k a0 a1 a2 a1) = some (r1, r2) := h
  clear h
  have H' := Aside0.mk H
  clear H
  go_enter Tryz.func63, Tryz.ntmps63
  go_wp2
  go_loopg [1, 8] k (fun kq v1 v8 w' => ∃ (x1_1 : Int) (x8_1 : Int), v1 = .int .i64 x1_1 ∧ v8 = .int .i64 x8_1 ∧ Aside0 (shibbolethref18_host.l0 kq a0 x1_1 a2 x8_1 = some (r1, r2)) ∧ Aside0 (kq ≤ k) ∧ Drawn0 w w')
  case atStart => exact ⟨(a1), (a1), (by first | rfl | (simp; done) | (simp [*]; done)), (by first | rfl | (simp; done) | (simp [*]; done)), H', ⟨Nat.le_refl _⟩, by repeat (first | exact Drawn0.refl _ | apply Drawn0.step)⟩
  case round =>
    clear H'
    try clear p2
    obtain ⟨x1_1, x8_1, rfl, rfl, HA, HK1, ⟨m1, rfl⟩⟩ := hrel
    cases gk with
    | zero => exact absurd HA.out (by simp [shibbolethref18_host.l0])
    | succ k1 =>
      have H := HA.out
      clear HA
      simp only [shibbolethref18_host.l0] at H
      by_cases c4 : x8_1 < a2
      · rw [if_pos c4] at H
        have c4b0 : decide (x8_1 < a2) = true := decide_eq_true c4
        clear c4
        by_cases c5 : 0 ≤ x8_1
        · rw [if_pos c5] at H
          have c5b0 : decide (0 ≤ x8_1) = true := decide_eq_true c5
          clear c5
          by_cases c6 : x8_1 < (a0.size : Int)
          · rw [if_pos c6] at H
            have c6b0 : decide (x8_1 < (a0.size : Int)) = true := decide_eq_true c6
            clear c6
            by_cases c8 : (bt a0 x8_1) = 64
            · rw [if_pos c8] at H
              have c8b0 : ((bt a0 x8_1) == 64) = true := beq_iff_eq.mpr c8
              have c8b1 : ((bt a0 x8_1) != 64) = false := bne_eq_false_iff_eq.mpr c8
              clear c8
              have H' := Aside0.mk H
              clear H
              have p7 : 0 ≤ (x8_1 : Int) := of_decide_eq_true (by first | (with_reducible assumption) | assumption)
              have q7 : x8_1 < (a0.size : Int) := of_decide_eq_true (by first | (with_reducible assumption) | assumption)
              have hx7 := bt_at a0 x8_1
              replace p7 := eq_true p7
              replace q7 := eq_true q7
              go_wp2
              go_roundg k1
              case measure => have := HK1.out; omega
              case rel => exact ⟨(wrap64 (x8_1 + 1)), (wrap64 (x8_1 + 1)), (by first | rfl | (simp; done) | (simp [*]; done)), (by first | rfl | (simp; done) | (simp [*]; done)), H', ⟨by have := HK1.out; omega⟩, by repeat (first | exact Drawn0.refl _ | apply Drawn0.step)⟩
            · rw [if_neg c8] at H
              have c8b0 : ((bt a0 x8_1) == 64) = false := beq_eq_false_iff_ne.mpr c8
              have c8b1 : ((bt a0 x8_1) != 64) = true := bne_iff_ne.mpr c8
              have H' := Aside0.mk H
              clear H
              have p7 : 0 ≤ (x8_1 : Int) := of_decide_eq_true (by first | (with_reducible assumption) | assumption)
              have q7 : x8_1 < (a0.size : Int) := of_decide_eq_true (by first | (with_reducible assumption) | assumption)
              have hx7 := bt_at a0 x8_1
              replace p7 := eq_true p7
              replace q7 := eq_true q7
              go_wp2
              go_roundg k1
              case measure => have := HK1.out; omega
              case rel => exact ⟨(x1_1), (wrap64 (x8_1 + 1)), (by first | rfl | (simp; done) | (simp [*]; done)), (by first | rfl | (simp; done) | (simp [*]; done)), H', ⟨by have := HK1.out; omega⟩, by repeat (first | exact Drawn0.refl _ | apply Drawn0.step)⟩
          · rw [if_neg c6] at H
            exact absurd H (by simp)
        · rw [if_neg c5] at H
          exact absurd H (by simp)
      · rw [if_neg c4] at H
        have c4b0 : decide (x8_1 < a2) = false := decide_eq_false c4
        clear c4
        by_cases c9 : x1_1 = a2
        · rw [if_pos c9] at H
          have c9b0 : (x1_1 == a2) = true := beq_iff_eq.mpr c9
          have c9b1 : (x1_1 != a2) = false := bne_eq_false_iff_eq.mpr c9
          clear c9
          simp only [Option.some.injEq, Prod.mk.injEq] at H
          obtain ⟨rfl, rfl⟩ := H
          go_wp2
          go_ret2
          exact ⟨by first | rfl | (simp; done) | (simp [*]; done), by repeat (first | exact Drawn0.refl _ | apply Drawn0.step)⟩
        · rw [if_neg c9] at H
          have c9b0 : (x1_1 == a2) = false := beq_eq_false_iff_ne.mpr c9
          have c9b1 : (x1_1 != a2) = true := bne_iff_ne.mpr c9
          by_cases c10 : 0 ≤ x1_1
          · rw [if_pos c10] at H
            have c10b0 : decide (0 ≤ x1_1) = true := decide_eq_true c10
            clear c10
            by_cases c11 : x1_1 < (a0.size : Int)
            · rw [if_pos c11] at H
              have c11b0 : decide (x1_1 < (a0.size : Int)) = true := decide_eq_true c11
              clear c11
              by_cases c13 : (bt a0 x1_1) = 91
              · rw [if_pos c13] at H
                have c13b0 : ((bt a0 x1_1) == 91) = true := beq_iff_eq.mpr c13
                have c13b1 : ((bt a0 x1_1) != 91) = false := bne_eq_false_iff_eq.mpr c13
                clear c13
                replace H := Option.bind_eq_some_iff.mp H
                obtain ⟨t308, A140, H⟩ := H
                replace H : (if t308 ≤ x1_1 then (some ((⟨#[]⟩ : ByteArray), false)) else ((shibbolethref18_Port.f k1 a0 t308 a2).bind fun t309 => (if t309 = true then (if x1_1 ≤ t308 then (if t308 ≤ (a0.size : Int) then (some (a0.extract (x1_1 : Int).toNat (t308 : Int).toNat, true)) else (none)) else (none)) else (some ((⟨#[]⟩ : ByteArray), false))))) = some (r1, r2) := H
                have A14 := Aside0.mk A140
                clear A140
                by_cases c15 : t308 ≤ x1_1
                · rw [if_pos c15] at H
                  have c15b0 : decide (t308 ≤ x1_1) = true := decide_eq_true c15
                  clear c15
                  simp only [Option.some.injEq, Prod.mk.injEq] at H
                  obtain ⟨rfl, rfl⟩ := H
                  have p12 : 0 ≤ (x1_1 : Int) := of_decide_eq_true (by first | (with_reducible assumption) | assumption)
                  have q12 : x1_1 < (a0.size : Int) := of_decide_eq_true (by first | (with_reducible assumption) | assumption)
                  have hx12 := bt_at a0 x1_1
                  replace p12 := eq_true p12
                  replace q12 := eq_true q12
                  go_wp2_with (first | ((with_reducible refine gate_callee (f := 102) rfl ?_); refine goesL_ (some 34) rfl rfl Tryz.func102 (by kernel_rfl) rfl #[.string a0, .int .i64 x1_1, .int .i64 a2] rfl (by (try simp only [List.map_toArray, List.map_cons, List.map_nil]); first | done | rfl | (simp only [List.length_drop, List.length_take]; rfl)) ?_; (with_reducible refine (shibbolethref18_Bracket.calls k1 a0 x1_1 a2 t308 _ A14.out).mono ?_); rintro e w' ⟨rfl, ⟨nd, rfl⟩⟩; refine ⟨_, rfl, ?_⟩))
                  go_ret2
                  exact ⟨by first | rfl | (simp; done) | (simp [*]; done), by repeat (first | exact Drawn0.refl _ | apply Drawn0.step)⟩
                · rw [if_neg c15] at H
                  have c15b0 : decide (t308 ≤ x1_1) = false := decide_eq_false c15
                  clear c15
                  replace H := Option.bind_eq_some_iff.mp H
                  obtain ⟨t309, A160, H⟩ := H
                  replace H : (if t309 = true then (if x1_1 ≤ t308 then (if t308 ≤ (a0.size : Int) then (some (a0.extract (x1_1 : Int).toNat (t308 : Int).toNat, true)) else (none)) else (none)) else (some ((⟨#[]⟩ : ByteArray), false))) = some (r1, r2) := H
                  have A16 := Aside0.mk A160
                  clear A160
                  by_cases c17 : t309 = true
                  · subst c17
                    have H1 : (if x1_1 ≤ t308 then (if t308 ≤ (a0.size : Int) then (some (a0.extract (x1_1 : Int).toNat (t308 : Int).toNat, true)) else (none)) else (none)) = some (r1, r2) := by rw [if_pos rfl] at H; exact H
                    clear H
                    have H := H1
                    clear H1
                    have c18b0 := eq_true (of_decide_eq_true (by first | (with_reducible assumption) | assumption) : 0 ≤ x1_1)
                    by_cases c19 : x1_1 ≤ t308
                    · rw [if_pos c19] at H
                      have c19b0 := eq_true c19
                      have c19b1 : decide (x1_1 ≤ t308) = true := decide_eq_true c19
                      clear c19
                      by_cases c20 : t308 ≤ (a0.size : Int)
                      · rw [if_pos c20] at H
                        have c20b0 := eq_true c20
                        have c20b1 : decide (t308 ≤ (a0.size : Int)) = true := decide_eq_true c20
                        clear c20
                        simp only [Option.some.injEq, Prod.mk.injEq] at H
                        obtain ⟨rfl, rfl⟩ := H
                        have p12 : 0 ≤ (x1_1 : Int) := of_decide_eq_true (by first | (with_reducible assumption) | assumption)
                        have q12 : x1_1 < (a0.size : Int) := of_decide_eq_true (by first | (with_reducible assumption) | assumption)
                        have hx12 := bt_at a0 x1_1
                        replace p12 := eq_true p12
                        replace q12 := eq_true q12
                        go_wp2_with (first | ((with_reducible refine gate_callee (f := 102) rfl ?_); refine goesL_ (some 34) rfl rfl Tryz.func102 (by kernel_rfl) rfl #[.string a0, .int .i64 x1_1, .int .i64 a2] rfl (by (try simp only [List.map_toArray, List.map_cons, List.map_nil]); first | done | rfl | (simp only [List.length_drop, List.length_take]; rfl)) ?_; (with_reducible refine (shibbolethref18_Bracket.calls k1 a0 x1_1 a2 t308 _ A14.out).mono ?_); rintro e w' ⟨rfl, ⟨nd, rfl⟩⟩; refine ⟨_, rfl, ?_⟩) | (go_at_call 103; (with_reducible refine (shibbolethref18_Port.calls k1 a0 t308 a2 true _ A16.out).mono ?_); rintro e w' ⟨rfl, ⟨nd, rfl⟩⟩))
                        go_ret2
                        exact ⟨by first | rfl | (simp; done) | (simp [*]; done), by repeat (first | exact Drawn0.refl _ | apply Drawn0.step)⟩
                      · rw [if_neg c20] at H
                        exact absurd H (by simp)
                    · rw [if_neg c19] at H
                      exact absurd H (by simp)
                  · replace c17 := Bool.eq_false_iff.mpr c17
                    subst c17
                    have H1 : (some ((⟨#[]⟩ : ByteArray), false)) = some (r1, r2) := by rw [if_neg (show ¬ (false = true) by decide)] at H; exact H
                    clear H
                    have H := H1
                    clear H1
                    simp only [Option.some.injEq, Prod.mk.injEq] at H
                    obtain ⟨rfl, rfl⟩ := H
                    have p12 : 0 ≤ (x1_1 : Int) := of_decide_eq_true (by first | (with_reducible assumption) | assumption)
                    have q12 : x1_1 < (a0.size : Int) := of_decide_eq_true (by first | (with_reducible assumption) | assumption)
                    have hx12 := bt_at a0 x1_1
                    replace p12 := eq_true p12
                    replace q12 := eq_true q12
                    go_wp2_with (first | ((with_reducible refine gate_callee (f := 102) rfl ?_); refine goesL_ (some 34) rfl rfl Tryz.func102 (by kernel_rfl) rfl #[.string a0, .int .i64 x1_1, .int .i64 a2] rfl (by (try simp only [List.map_toArray, List.map_cons, List.map_nil]); first | done | rfl | (simp only [List.length_drop, List.length_take]; rfl)) ?_; (with_reducible refine (shibbolethref18_Bracket.calls k1 a0 x1_1 a2 t308 _ A14.out).mono ?_); rintro e w' ⟨rfl, ⟨nd, rfl⟩⟩; refine ⟨_, rfl, ?_⟩) | (go_at_call 103; (with_reducible refine (shibbolethref18_Port.calls k1 a0 t308 a2 false _ A16.out).mono ?_); rintro e w' ⟨rfl, ⟨nd, rfl⟩⟩))
                    go_ret2
                    exact ⟨by first | rfl | (simp; done) | (simp [*]; done), by repeat (first | exact Drawn0.refl _ | apply Drawn0.step)⟩
              · rw [if_neg c13] at H
                have c13b0 : ((bt a0 x1_1) == 91) = false := beq_eq_false_iff_ne.mpr c13
                have c13b1 : ((bt a0 x1_1) != 91) = true := bne_iff_ne.mpr c13
                have H' := Aside0.mk H
                clear H
                have p12 : 0 ≤ (x1_1 : Int) := of_decide_eq_true (by first | (with_reducible assumption) | assumption)
                have q12 : x1_1 < (a0.size : Int) := of_decide_eq_true (by first | (with_reducible assumption) | assumption)
                have hx12 := bt_at a0 x1_1
                replace p12 := eq_true p12
                replace q12 := eq_true q12
                go_wp2
                go_loopg [9] k1 (fun kq v9 w' => ∃ (x9_2 : Int), v9 = .int .i64 x9_2 ∧ Aside0 (shibbolethref18_host.l1 kq a0 x1_1 a2 x9_2 = some (r1, r2)) ∧ Aside0 (kq ≤ k1) ∧ Drawn0 w w')
                case atStart => exact ⟨(x1_1), (by first | rfl | (simp; done) | (simp [*]; done)), H', ⟨Nat.le_refl _⟩, by repeat (first | exact Drawn0.refl _ | apply Drawn0.step)⟩
                case round =>
                  clear H'
                  try clear c1
                  try clear p1
                  try clear q1
                  try clear hx1
                  try clear c2
                  try clear p2
                  try clear c4
                  try clear c4b0
                  try clear c5
                  try clear c5b0
                  try clear c6
                  try clear c6b0
                  try clear p6
                  try clear p7
                  try clear q7
                  try clear hx7
                  try clear c8
                  try clear c8b0
                  try clear c8b1
                  try clear c9
                  try clear c9b0
                  try clear c9b1
                  try clear c10
                  try clear c10b0
                  try clear c11
                  try clear c11b0
                  try clear p12
                  try clear q12
                  try clear hx12
                  try clear c13
                  try clear c13b0
                  try clear c13b1
                  try clear c15
                  try clear c15b0
                  try clear c17
                  try clear c18
                  try clear c18b0
                  try clear c19
                  try clear c19b0
                  try clear c19b1
                  try clear c20
                  try clear c20b0
                  try clear c20b1
                  try clear p12
                  try clear p2
                  try clear p7
                  try clear q12
                  try clear q7
                  obtain ⟨x9_2, rfl, HA, HK2, ⟨m2, rfl⟩⟩ := hrel
                  cases gk with
                  | zero => exact absurd HA.out (by simp [shibbolethref18_host.l1])
                  | succ k2 =>
                    have H := HA.out
                    clear HA
                    simp only [shibbolethref18_host.l1] at H
                    have HC21 := Aside0.mk H
                    clear H
                    go_upto_region 11 with (fail)
                    go_cut [43] (fun v43 wc => ∃ (kq : Nat) (x43_20 : Bool), v43 = .bool x43_20 ∧ Aside0 (shibbolethref18_host.j2 kq a0 x1_1 a2 x9_2 x43_20 = some (r1, r2)) ∧ Aside0 (kq ≤ k2) ∧ Drawn0 w wc)
                    case first =>
                      have H := HC21.out
                      clear HC21
                      by_cases c22 : x9_2 < a2
                      · rw [if_pos c22] at H
                        have c22b0 : decide (x9_2 < a2) = true := decide_eq_true c22
                        clear c22
                        (first | rw [c22b0] | (simp only [i64_w, i32_w]; rw [c22b0]) | skip)
                        by_cases c23 : 0 ≤ x9_2
                        · rw [if_pos c23] at H
                          have c23b0 : decide (0 ≤ x9_2) = true := decide_eq_true c23
                          clear c23
                          by_cases c24 : x9_2 < (a0.size : Int)
                          · rw [if_pos c24] at H
                            have c24b0 : decide (x9_2 < (a0.size : Int)) = true := decide_eq_true c24
                            clear c24
                            have H' := Aside0.mk H
                            clear H
                            have p25 : 0 ≤ (x9_2 : Int) := of_decide_eq_true (by first | (with_reducible assumption) | assumption)
                            have q25 : x9_2 < (a0.size : Int) := of_decide_eq_true (by first | (with_reducible assumption) | assumption)
                            have hx25 := bt_at a0 x9_2
                            replace p25 := eq_true p25
                            replace q25 := eq_true q25
                            go_wp2
                            go_meet
                            case rel => exact ⟨_, (((bt a0 x9_2) != 58)), (by first | rfl | (simp; done) | (simp [*]; done)), H', ⟨by have := HK1.out; have := HK2.out; first | omega | exact Nat.le_refl _⟩, by repeat (first | exact Drawn0.refl _ | apply Drawn0.step)⟩
                          · rw [if_neg c24] at H
                            exact absurd H (by simp)
                        · rw [if_neg c23] at H
                          exact absurd H (by simp)
                      · rw [if_neg c22] at H
                        have c22b0 : decide (x9_2 < a2) = false := decide_eq_false c22
                        clear c22
                        (first | rw [c22b0] | (simp only [i64_w, i32_w]; rw [c22b0]) | skip)
                        have H' := Aside0.mk H
                        clear H
                        go_wp2
                        go_meet
                        case rel => exact ⟨_, (false), (by first | rfl | (simp; done) | (simp [*]; done)), H', ⟨by have := HK1.out; have := HK2.out; first | omega | exact Nat.le_refl _⟩, by repeat (first | exact Drawn0.refl _ | apply Drawn0.step)⟩
                    case rest =>
                      clear HC21
                      try clear c1
                      try clear p1
                      try clear q1
                      try clear hx1
                      try clear c2
                      try clear p2
                      try clear q2
                      try clear hx2
                      try clear c4
                      try clear c4b0
                      try clear c5
                      try clear c5b0
                      try clear c6
                      try clear c6b0
                      try clear p6
                      try clear p7
                      try clear q7
                      try clear hx7
                      try clear c8
                      try clear c8b0
                      try clear c8b1
                      try clear c9
                      try clear c9b0
                      try clear c9b1
                      try clear c10
                      try clear c10b0
                      try clear c11
                      try clear c11b0
                      try clear p12
                      try clear q12
                      try clear hx12
                      try clear c13
                      try clear c13b0
                      try clear c13b1
                      try clear c15
                      try clear c15b0
                      try clear c17
                      try clear c18
                      try clear c18b0
                      try clear c19
                      try clear c19b0
                      try clear c19b1
                      try clear c20
                      try clear c20b0
                      try clear c20b1
                      try clear c22
                      try clear c22b0
                      try clear c23
                      try clear c23b0
                      try clear c24
                      try clear c24b0
                      try clear p25
                      try clear q25
                      try clear hx25
                      try clear p1
                      try clear p12
                      try clear p2
                      try clear p25
                      try clear p6
                      try clear p7
                      try clear q1
                      try clear q12
                      try clear q25
                      try clear q7
                      obtain ⟨kq, x43_20, rfl, HA, HJ20, ⟨mc20, rfl⟩⟩ := hcut
                      cases kq with
                      | zero => exact absurd HA.out (by simp [shibbolethref18_host.j2])
                      | succ kj20 =>
                        have H := HA.out
                        clear HA
                        simp only [shibbolethref18_host.j2] at H
                        by_cases c26 : x43_20 = true
                        · subst c26
                          have H1 : (if 0 ≤ x9_2 then (if x9_2 < (a0.size : Int) then (if (bt a0 x9_2) ≤ 32 then (some ((⟨#[]⟩ : ByteArray), false)) else (if (bt a0 x9_2) = 127 then (some ((⟨#[]⟩ : ByteArray), false)) else ((shibbolethref18_In.f kj20 (⟨#[35, 47, 60, 62, 63, 64, 91, 92, 93, 94, 124]⟩ : ByteArray) (bt a0 x9_2)).bind fun t310 => (if t310 = true then (some ((⟨#[]⟩ : ByteArray), false)) else (shibbolethref18_host.l1 kj20 a0 x1_1 a2 (wrap64 (x9_2 + 1))))))) else (none)) else (none)) = some (r1, r2) := by rw [if_pos rfl] at H; exact H
                          clear H
                          have H := H1
                          clear H1
                          by_cases c27 : 0 ≤ x9_2
                          · rw [if_pos c27] at H
                            have c27b0 : decide (0 ≤ x9_2) = true := decide_eq_true c27
                            clear c27
                            by_cases c28 : x9_2 < (a0.size : Int)
                            · rw [if_pos c28] at H
                              have c28b0 : decide (x9_2 < (a0.size : Int)) = true := decide_eq_true c28
                              clear c28
                              by_cases c30 : (bt a0 x9_2) ≤ 32
                              · rw [if_pos c30] at H
                                have c30b0 : decide ((bt a0 x9_2) ≤ 32) = true := decide_eq_true c30
                                clear c30
                                simp only [Option.some.injEq, Prod.mk.injEq] at H
                                obtain ⟨rfl, rfl⟩ := H
                                have p29 : 0 ≤ (x9_2 : Int) := of_decide_eq_true (by first | (with_reducible assumption) | assumption)
                                have q29 : x9_2 < (a0.size : Int) := of_decide_eq_true (by first | (with_reducible assumption) | assumption)
                                have hx29 := bt_at a0 x9_2
                                replace p29 := eq_true p29
                                replace q29 := eq_true q29
                                go_wp2
                                go_ret2
                                exact ⟨by first | rfl | (simp; done) | (simp [*]; done), by repeat (first | exact Drawn0.refl _ | apply Drawn0.step)⟩
                              · rw [if_neg c30] at H
                                have c30b0 : decide ((bt a0 x9_2) ≤ 32) = false := decide_eq_false c30
                                clear c30
                                by_cases c31 : (bt a0 x9_2) = 127
                                · rw [if_pos c31] at H
                                  have c31b0 : ((bt a0 x9_2) == 127) = true := beq_iff_eq.mpr c31
                                  have c31b1 : ((bt a0 x9_2) != 127) = false := bne_eq_false_iff_eq.mpr c31
                                  clear c31
                                  simp only [Option.some.injEq, Prod.mk.injEq] at H
                                  obtain ⟨rfl, rfl⟩ := H
                                  have p29 : 0 ≤ (x9_2 : Int) := of_decide_eq_true (by first | (with_reducible assumption) | assumption)
                                  have q29 : x9_2 < (a0.size : Int) := of_decide_eq_true (by first | (with_reducible assumption) | assumption)
                                  have hx29 := bt_at a0 x9_2
                                  replace p29 := eq_true p29
                                  replace q29 := eq_true q29
                                  go_wp2
                                  go_ret2
                                  exact ⟨by first | rfl | (simp; done) | (simp [*]; done), by repeat (first | exact Drawn0.refl _ | apply Drawn0.step)⟩
                                · rw [if_neg c31] at H
                                  have c31b0 : ((bt a0 x9_2) == 127) = false := beq_eq_false_iff_ne.mpr c31
                                  have c31b1 : ((bt a0 x9_2) != 127) = true := bne_iff_ne.mpr c31
                                  replace H := Option.bind_eq_some_iff.mp H
                                  obtain ⟨t310, A320, H⟩ := H
                                  replace H : (if t310 = true then (some ((⟨#[]⟩ : ByteArray), false)) else (shibbolethref18_host.l1 kj20 a0 x1_1 a2 (wrap64 (x9_2 + 1)))) = some (r1, r2) := H
                                  have A32 := Aside0.mk A320
                                  clear A320
                                  by_cases c33 : t310 = true
                                  · subst c33
                                    have H1 : (some ((⟨#[]⟩ : ByteArray), false)) = some (r1, r2) := by rw [if_pos rfl] at H; exact H
                                    clear H
                                    have H := H1
                                    clear H1
                                    simp only [Option.some.injEq, Prod.mk.injEq] at H
                                    obtain ⟨rfl, rfl⟩ := H
                                    have p29 : 0 ≤ (x9_2 : Int) := of_decide_eq_true (by first | (with_reducible assumption) | assumption)
                                    have q29 : x9_2 < (a0.size : Int) := of_decide_eq_true (by first | (with_reducible assumption) | assumption)
                                    have hx29 := bt_at a0 x9_2
                                    replace p29 := eq_true p29
                                    replace q29 := eq_true q29
                                    go_wp2_with (first | (go_at_call 101; (with_reducible refine (shibbolethref18_In.calls kj20 (⟨#[35, 47, 60, 62, 63, 64, 91, 92, 93, 94, 124]⟩ : ByteArray) (bt a0 x9_2) true _ A32.out).mono ?_); rintro e w' ⟨rfl, ⟨nd, rfl⟩⟩))
                                    go_ret2
                                    exact ⟨by first | rfl | (simp; done) | (simp [*]; done), by repeat (first | exact Drawn0.refl _ | apply Drawn0.step)⟩
                                  · replace c33 := Bool.eq_false_iff.mpr c33
                                    subst c33
                                    have H1 : (shibbolethref18_host.l1 kj20 a0 x1_1 a2 (wrap64 (x9_2 + 1))) = some (r1, r2) := by rw [if_neg (show ¬ (false = true) by decide)] at H; exact H
                                    clear H
                                    have H := H1
                                    clear H1
                                    have H' := Aside0.mk H
                                    clear H
                                    have p29 : 0 ≤ (x9_2 : Int) := of_decide_eq_true (by first | (with_reducible assumption) | assumption)
                                    have q29 : x9_2 < (a0.size : Int) := of_decide_eq_true (by first | (with_reducible assumption) | assumption)
                                    have hx29 := bt_at a0 x9_2
                                    replace p29 := eq_true p29
                                    replace q29 := eq_true q29
                                    go_wp2_with (first | (go_at_call 101; (with_reducible refine (shibbolethref18_In.calls kj20 (⟨#[35, 47, 60, 62, 63, 64, 91, 92, 93, 94, 124]⟩ : ByteArray) (bt a0 x9_2) false _ A32.out).mono ?_); rintro e w' ⟨rfl, ⟨nd, rfl⟩⟩))
                                    go_roundg kj20
                                    case measure => have := HK1.out; have := HK2.out; have := HJ20.out; omega
                                    case rel => exact ⟨(wrap64 (x9_2 + 1)), (by first | rfl | (simp; done) | (simp [*]; done)), H', ⟨by have := HK1.out; have := HK2.out; have := HJ20.out; omega⟩, by repeat (first | exact Drawn0.refl _ | apply Drawn0.step)⟩
                            · rw [if_neg c28] at H
                              exact absurd H (by simp)
                          · rw [if_neg c27] at H
                            exact absurd H (by simp)
                        · replace c26 := Bool.eq_false_iff.mpr c26
                          subst c26
                          have H1 : (if x9_2 ≤ x1_1 then (some ((⟨#[]⟩ : ByteArray), false)) else ((shibbolethref18_Port.f kj20 a0 x9_2 a2).bind fun t311 => (if t311 = true then (if 0 ≤ x1_1 then (if x1_1 ≤ x9_2 then (if x9_2 ≤ (a0.size : Int) then (some (a0.extract (x1_1 : Int).toNat (x9_2 : Int).toNat, true)) else (none)) else (none)) else (none)) else (some ((⟨#[]⟩ : ByteArray), false))))) = some (r1, r2) := by rw [if_neg (show ¬ (false = true) by decide)] at H; exact H
                          clear H
                          have H := H1
                          clear H1
                          by_cases c34 : x9_2 ≤ x1_1
                          · rw [if_pos c34] at H
                            have c34b0 : decide (x9_2 ≤ x1_1) = true := decide_eq_true c34
                            clear c34
                            simp only [Option.some.injEq, Prod.mk.injEq] at H
                            obtain ⟨rfl, rfl⟩ := H
                            go_wp2
                            go_ret2
                            exact ⟨by first | rfl | (simp; done) | (simp [*]; done), by repeat (first | exact Drawn0.refl _ | apply Drawn0.step)⟩
                          · rw [if_neg c34] at H
                            have c34b0 : decide (x9_2 ≤ x1_1) = false := decide_eq_false c34
                            clear c34
                            replace H := Option.bind_eq_some_iff.mp H
                            obtain ⟨t311, A350, H⟩ := H
                            replace H : (if t311 = true then (if 0 ≤ x1_1 then (if x1_1 ≤ x9_2 then (if x9_2 ≤ (a0.size : Int) then (some (a0.extract (x1_1 : Int).toNat (x9_2 : Int).toNat, true)) else (none)) else (none)) else (none)) else (some ((⟨#[]⟩ : ByteArray), false))) = some (r1, r2) := H
                            have A35 := Aside0.mk A350
                            clear A350
                            by_cases c36 : t311 = true
                            · subst c36
                              have H1 : (if 0 ≤ x1_1 then (if x1_1 ≤ x9_2 then (if x9_2 ≤ (a0.size : Int) then (some (a0.extract (x1_1 : Int).toNat (x9_2 : Int).toNat, true)) else (none)) else (none)) else (none)) = some (r1, r2) := by rw [if_pos rfl] at H; exact H
                              clear H
                              have H := H1
                              clear H1
                              by_cases c37 : 0 ≤ x1_1
                              · rw [if_pos c37] at H
                                have c37b0 := eq_true c37
                                have c37b1 : decide (0 ≤ x1_1) = true := decide_eq_true c37
                                clear c37
                                by_cases c38 : x1_1 ≤ x9_2
                                · rw [if_pos c38] at H
                                  have c38b0 := eq_true c38
                                  have c38b1 : decide (x1_1 ≤ x9_2) = true := decide_eq_true c38
                                  clear c38
                                  by_cases c39 : x9_2 ≤ (a0.size : Int)
                                  · rw [if_pos c39] at H
                                    have c39b0 := eq_true c39
                                    have c39b1 : decide (x9_2 ≤ (a0.size : Int)) = true := decide_eq_true c39
                                    clear c39
                                    simp only [Option.some.injEq, Prod.mk.injEq] at H
                                    obtain ⟨rfl, rfl⟩ := H
                                    go_wp2_with (first | (go_at_call 103; (with_reducible refine (shibbolethref18_Port.calls kj20 a0 x9_2 a2 true _ A35.out).mono ?_); rintro e w' ⟨rfl, ⟨nd, rfl⟩⟩))
                                    go_ret2
                                    exact ⟨by first | rfl | (simp; done) | (simp [*]; done), by repeat (first | exact Drawn0.refl _ | apply Drawn0.step)⟩
                                  · rw [if_neg c39] at H
                                    exact absurd H (by simp)
                                · rw [if_neg c38] at H
                                  exact absurd H (by simp)
                              · rw [if_neg c37] at H
                                exact absurd H (by simp)
                            · replace c36 := Bool.eq_false_iff.mpr c36
                              subst c36
                              have H1 : (some ((⟨#[]⟩ : ByteArray), false)) = some (r1, r2) := by rw [if_neg (show ¬ (false = true) by decide)] at H; exact H
                              clear H
                              have H := H1
                              clear H1
                              simp only [Option.some.injEq, Prod.mk.injEq] at H
                              obtain ⟨rfl, rfl⟩ := H
                              go_wp2_with (first | (go_at_call 103; (with_reducible refine (shibbolethref18_Port.calls kj20 a0 x9_2 a2 false _ A35.out).mono ?_); rintro e w' ⟨rfl, ⟨nd, rfl⟩⟩))
                              go_ret2
                              exact ⟨by first | rfl | (simp; done) | (simp [*]; done), by repeat (first | exact Drawn0.refl _ | apply Drawn0.step)⟩
            · rw [if_neg c11] at H
              exact absurd H (by simp)
          · rw [if_neg c10] at H
            exact absurd H (by simp)

end Go.Proofs.YtiihgddpejmehaaGreatDoor.ZA

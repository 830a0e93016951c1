/- My own print (tools/mp.py) of functions of this seat: each function as a plain Lean function, and the proof that the code does what that function says. -/
import Derived.Test.YtiihgddpejmehaaGreatDoorZA0
import Derived.Test.YtiihgddpejmehaaGreatDoorZA1
import Derived.Test.YtiihgddpejmehaaGreatDoorZA2
import Derived.Test.YtiihgddpejmehaaGreatDoorZA3
import Derived.Test.YtiihgddpejmehaaGreatDoorZA4
import Derived.Test.YtiihgddpejmehaaGreatDoorZA8
import Derived.Test.YtiihgddpejmehaaGreatDoorZA9
import Derived.Test.YtiihgddpejmehaaGreatDoorZA10
import Derived.Test.YtiihgddpejmehaaGreatDoorZA13
namespace Go.Proofs.YtiihgddpejmehaaGreatDoor.ZA
open Go.RowKit Go.Proofs.YtiihgddpejmehaaGreatDoorW.PrintWords Go.Proofs.YtiihgddpejmehaaGreatDoorW.PrintLast Go.Proofs.YtiihgddpejmehaaGreatDoorW.PrintMore
attribute [local go_sem] max2_int min2_int max_two min_two max_three min_three max_four min_four   -- for this text's walks alone
set_option linter.unusedVariables false
set_option linter.unusedSimpArgs false

attribute [local go_sem high] eqA30
/-! ### shibbolethlaw18_WhatwgTells: function 6 -/
def shibbolethlaw18_WhatwgTells.j0 : Nat → ByteArray → Bool → Option (Bool)
  | 0, _, _ => none
  | k + 1, x0, x48 => if x48 = true then (some false) else ((whatwg_Parse.f k x0).bind fun bt332 => ((shibbolethref18_Parse.f k x0).bind fun bt335 => (if (bt332.1 == bt335.1 && (bt332.2.1.toList == bt335.2.1.toList && (bt332.2.2.toList == bt335.2.2.toList))) = true then ((whatwg_Text.f x0).bind fun t338 => ((shibbolethref18_Text.f k x0).bind fun t339 => (if t338.toList = t339.toList then ((whatwg_Special.f x0).bind fun t340 => ((shibbolethref18_Special.f k x0).bind fun t341 => (if (t340 == t341) = true then ((shibbolethlaw18_awake.f k).bind fun t342 => (some t342)) else (some false)))) else (some false)))) else (some false))))
def shibbolethlaw18_WhatwgTells.f (k : Nat) (a0 : ByteArray) : Option (Bool) := (shibbolethlaw18_Short.f a0).bind fun t327 => ((whatwg_Scheme.f k t327).bind fun bt328 => ((shibbolethref18_Scheme.f k t327).bind fun t331 => (if (bt328.2.2 != (decide (t331 ≥ 0))) = true then (shibbolethlaw18_WhatwgTells.j0 k t327 true) else (if bt328.2.2 = true then (if 0 ≤ t331 then (if t331 ≤ (t327.size : Int) then (if bt328.1.toList = (t327.extract 0 (t331 : Int).toNat).toList then (if 0 ≤ (wrap64 (t331 + 1)) then (if (wrap64 (t331 + 1)) ≤ (t327.size : Int) then (if bt328.2.1.toList = (t327.extract ((wrap64 (t331 + 1)) : Int).toNat t327.size).toList then (shibbolethlaw18_WhatwgTells.j0 k t327 false) else (shibbolethlaw18_WhatwgTells.j0 k t327 true)) else (none)) else (none)) else (shibbolethlaw18_WhatwgTells.j0 k t327 true)) else (none)) else (none)) else (if bt328.1.size + bt328.2.1.size ≤ 9223372036854775807 then (shibbolethlaw18_WhatwgTells.j0 k t327 ((bt328.1 ++ bt328.2.1).toList != ([] : List UInt8))) else (none))))))
theorem shibbolethlaw18_WhatwgTells.mono_l : ∀ k, (∀ y0 y1, LeO (shibbolethlaw18_WhatwgTells.j0 k y0 y1) (shibbolethlaw18_WhatwgTells.j0 (k + 1) y0 y1))
  | 0 => fun _ _ r h => by simp [shibbolethlaw18_WhatwgTells.j0] at h
  | k + 1 => by
    have ih0 := shibbolethlaw18_WhatwgTells.mono_l k
    · intro y0 y1
      unfold shibbolethlaw18_WhatwgTells.j0
      repeat' first
      | (with_reducible exact ih0 _ _)
      | (with_reducible exact shibbolethlaw18_awake.mono _)
      | (with_reducible exact shibbolethref18_Parse.mono _ _)
      | (with_reducible exact shibbolethref18_Scheme.mono _ _)
      | (with_reducible exact shibbolethref18_Special.mono _ _)
      | (with_reducible exact shibbolethref18_Text.mono _ _)
      | (with_reducible exact whatwg_Parse.mono _ _)
      | (with_reducible exact whatwg_Scheme.mono _ _)
      | (with_reducible exact LeO.refl _)
      | (with_reducible exact LeO.none _)
      | (with_reducible refine LeO.ite ?_ ?_)
      | (with_reducible refine LeO.bind ?_ (fun _ => ?_))
      | exact ih0 _ _
      | exact shibbolethlaw18_awake.mono _
      | exact shibbolethref18_Parse.mono _ _
      | exact shibbolethref18_Scheme.mono _ _
      | exact shibbolethref18_Special.mono _ _
      | exact shibbolethref18_Text.mono _ _
      | exact whatwg_Parse.mono _ _
      | exact whatwg_Scheme.mono _ _
      | exact LeO.none _
      | refine LeO.ite ?_ ?_
      | refine LeO.bind ?_ (fun _ => ?_)
theorem shibbolethlaw18_WhatwgTells.mono : ∀ a0 k, LeO (shibbolethlaw18_WhatwgTells.f k a0) (shibbolethlaw18_WhatwgTells.f (k + 1) a0) := by
  intro a0 k
  have ih0 := shibbolethlaw18_WhatwgTells.mono_l k
  unfold shibbolethlaw18_WhatwgTells.f
  repeat' first
      | (with_reducible exact ih0 _ _)
      | (with_reducible exact shibbolethlaw18_awake.mono _)
      | (with_reducible exact shibbolethref18_Parse.mono _ _)
      | (with_reducible exact shibbolethref18_Scheme.mono _ _)
      | (with_reducible exact shibbolethref18_Special.mono _ _)
      | (with_reducible exact shibbolethref18_Text.mono _ _)
      | (with_reducible exact whatwg_Parse.mono _ _)
      | (with_reducible exact whatwg_Scheme.mono _ _)
      | (with_reducible exact LeO.refl _)
      | (with_reducible exact LeO.none _)
      | (with_reducible refine LeO.ite ?_ ?_)
      | (with_reducible refine LeO.bind ?_ (fun _ => ?_))
      | exact ih0 _ _
      | exact shibbolethlaw18_awake.mono _
      | exact shibbolethref18_Parse.mono _ _
      | exact shibbolethref18_Scheme.mono _ _
      | exact shibbolethref18_Special.mono _ _
      | exact shibbolethref18_Text.mono _ _
      | exact whatwg_Parse.mono _ _
      | exact whatwg_Scheme.mono _ _
      | exact LeO.none _
      | refine LeO.ite ?_ ?_
      | refine LeO.bind ?_ (fun _ => ?_)
set_option maxHeartbeats 8000000 in
set_option maxRecDepth 100000 in
theorem shibbolethlaw18_WhatwgTells.calls (k : Nat) (a0 : ByteArray) (r : Bool) (w : World) (h : shibbolethlaw18_WhatwgTells.f k a0 = some r) (hT_ : Lib.Utf8Tabs (sh_lays230_ren.g 3) (sh_lays230_ren.g 4) w) :
    Calls Tryz.prog 6 #[.string a0] w fun e w' => e = .returned (.bool r) ∧ Below w.heap.size w w' := by
  have HU8_ := Aside0.mk hT_
  clear hT_
  have HB := Aside0.mk (Below.refl w.heap.size w)
  have H : ((shibbolethlaw18_Short.f a0).bind fun t327 => ((whatwg_Scheme.f k t327).bind fun bt328 => ((shibbolethref18_Scheme.f k t327).bind fun t331 => (if (bt328.2.2 != (decide (t331 ≥ 0))) = true then (shibbolethlaw18_WhatwgTells.j0 k t327 true) else (if bt328.2.2 = true then (if 0 ≤ t331 then (if t331 ≤ (t327.size : Int) then (if bt328.1.toList = (t327.extract 0 (t331 : Int).toNat).toList then (if 0 ≤ (wrap64 (t331 + 1)) then (if (wrap64 (t331 + 1)) ≤ (t327.size : Int) then (if bt328.2.1.toList = (t327.extract ((wrap64 (t331 + 1)) : Int).toNat t327.size).toList then (shibbolethlaw18_WhatwgTells.j0 k t327 false) else (shibbolethlaw18_WhatwgTells.j0 k t327 true)) else (none)) else (none)) else (shibbolethlaw18_WhatwgTells.j0 k t327 true)) else (none)) else (none)) else (if bt328.1.size + bt328.2.1.size ≤ 9223372036854775807 then (shibbolethlaw18_WhatwgTells.j0 k t327 ((bt328.1 ++ bt328.2.1).toList != ([] : List UInt8))) else (none))))))) = some r := h
  clear h
  replace H := Option.bind_eq_some_iff.mp H
  obtain ⟨t327, A20, H⟩ := H
  replace H : ((whatwg_Scheme.f k t327).bind fun bt328 => ((shibbolethref18_Scheme.f k t327).bind fun t331 => (if (bt328.2.2 != (decide (t331 ≥ 0))) = true then (shibbolethlaw18_WhatwgTells.j0 k t327 true) else (if bt328.2.2 = true then (if 0 ≤ t331 then (if t331 ≤ (t327.size : Int) then (if bt328.1.toList = (t327.extract 0 (t331 : Int).toNat).toList then (if 0 ≤ (wrap64 (t331 + 1)) then (if (wrap64 (t331 + 1)) ≤ (t327.size : Int) then (if bt328.2.1.toList = (t327.extract ((wrap64 (t331 + 1)) : Int).toNat t327.size).toList then (shibbolethlaw18_WhatwgTells.j0 k t327 false) else (shibbolethlaw18_WhatwgTells.j0 k t327 true)) else (none)) else (none)) else (shibbolethlaw18_WhatwgTells.j0 k t327 true)) else (none)) else (none)) else (if bt328.1.size + bt328.2.1.size ≤ 9223372036854775807 then (shibbolethlaw18_WhatwgTells.j0 k t327 ((bt328.1 ++ bt328.2.1).toList != ([] : List UInt8))) else (none)))))) = some r := H
  have A2 := Aside0.mk A20
  clear A20
  replace H := Option.bind_eq_some_iff.mp H
  obtain ⟨⟨t328, t329, t330⟩, A30, H⟩ := H
  replace H : ((shibbolethref18_Scheme.f k t327).bind fun t331 => (if (t330 != (decide (t331 ≥ 0))) = true then (shibbolethlaw18_WhatwgTells.j0 k t327 true) else (if t330 = true then (if 0 ≤ t331 then (if t331 ≤ (t327.size : Int) then (if t328.toList = (t327.extract 0 (t331 : Int).toNat).toList then (if 0 ≤ (wrap64 (t331 + 1)) then (if (wrap64 (t331 + 1)) ≤ (t327.size : Int) then (if t329.toList = (t327.extract ((wrap64 (t331 + 1)) : Int).toNat t327.size).toList then (shibbolethlaw18_WhatwgTells.j0 k t327 false) else (shibbolethlaw18_WhatwgTells.j0 k t327 true)) else (none)) else (none)) else (shibbolethlaw18_WhatwgTells.j0 k t327 true)) else (none)) else (none)) else (if t328.size + t329.size ≤ 9223372036854775807 then (shibbolethlaw18_WhatwgTells.j0 k t327 ((t328 ++ t329).toList != ([] : List UInt8))) else (none))))) = some r := H
  have A3 := Aside0.mk A30
  clear A30
  replace H := Option.bind_eq_some_iff.mp H
  obtain ⟨t331, A40, H⟩ := H
  replace H : (if (t330 != (decide (t331 ≥ 0))) = true then (shibbolethlaw18_WhatwgTells.j0 k t327 true) else (if t330 = true then (if 0 ≤ t331 then (if t331 ≤ (t327.size : Int) then (if t328.toList = (t327.extract 0 (t331 : Int).toNat).toList then (if 0 ≤ (wrap64 (t331 + 1)) then (if (wrap64 (t331 + 1)) ≤ (t327.size : Int) then (if t329.toList = (t327.extract ((wrap64 (t331 + 1)) : Int).toNat t327.size).toList then (shibbolethlaw18_WhatwgTells.j0 k t327 false) else (shibbolethlaw18_WhatwgTells.j0 k t327 true)) else (none)) else (none)) else (shibbolethlaw18_WhatwgTells.j0 k t327 true)) else (none)) else (none)) else (if t328.size + t329.size ≤ 9223372036854775807 then (shibbolethlaw18_WhatwgTells.j0 k t327 ((t328 ++ t329).toList != ([] : List UInt8))) else (none)))) = some r := H
  have A4 := Aside0.mk A40
  clear A40
  have HC5 := Aside0.mk H
  clear H
  go_enter Tryz.func6, Tryz.ntmps6
  go_upto_region 4 with (first | ((with_reducible refine gate_callee (f := 22) rfl ?_); refine goesL_ (some 8) rfl rfl Tryz.func22 (by kernel_rfl) rfl #[.string a0] rfl (by (try simp only [List.map_toArray, List.map_cons, List.map_nil]); first | done | rfl | (simp only [List.length_drop, List.length_take]; rfl)) ?_; (with_reducible refine (shibbolethlaw18_Short.calls a0 t327 _ A2.out).mono ?_); rintro e w' ⟨rfl, ⟨nd, rfl⟩⟩; refine ⟨_, rfl, ?_⟩) | ((with_reducible refine gate_callee (f := 18) rfl ?_); refine goesL_ (some 11) rfl rfl Tryz.func18 (by kernel_rfl) rfl #[.string t327] rfl (by (try simp only [List.map_toArray, List.map_cons, List.map_nil]); first | done | rfl | (simp only [List.length_drop, List.length_take]; rfl)) ?_; (with_reducible refine (whatwg_Scheme.calls k t327 t328 t329 t330 _ A3.out).mono ?_); rintro e w6 ⟨rfl, hb⟩; refine ⟨_, rfl, ?_⟩; have n0_ := Aside0.mk (below_step (by repeat (first | (with_reducible first | exact HB.out | apply below_alloc | apply pw_below_drewN | apply below_drew1) | exact HB.out)) hb); clear HB; have HB := n0_; clear n0_; (try clear hb); (try clear hb2); (try clear hk); (try clear hi)) | ((with_reducible refine gate_callee (f := 23) rfl ?_); refine goesL_ (some 16) rfl rfl Tryz.func23 (by kernel_rfl) rfl #[.string t327] rfl (by (try simp only [List.map_toArray, List.map_cons, List.map_nil]); first | done | rfl | (simp only [List.length_drop, List.length_take]; rfl)) ?_; (with_reducible refine (shibbolethref18_Scheme.calls k t327 t331 _ A4.out).mono ?_); rintro e w' ⟨rfl, ⟨nd, rfl⟩⟩; refine ⟨_, rfl, ?_⟩))
  (try simp only [Act.put, List.setIfInBounds_toArray, List.set_cons_zero, List.set_cons_succ])
  go_cut [48] (fun v48 wc => ∃ (kq : Nat) (x48_4 : Bool), v48 = .bool x48_4 ∧ Aside0 (shibbolethlaw18_WhatwgTells.j0 kq t327 x48_4 = some r) ∧ Aside0 (kq ≤ k) ∧ Aside0 (Below w.heap.size w wc))
  case first =>
    have H := HC5.out
    clear HC5
    by_cases c7 : (t330 != (decide (t331 ≥ 0))) = true
    · rw [if_pos c7] at H
      have c7b0 : (t330 != (decide (t331 ≥ 0))) = true := c7
      (try (have c7b1 : decide (t330 = (decide (t331 ≥ 0))) = false := by simpa using c7))
      (try (have c7b2 : (t330 == (decide (t331 ≥ 0))) = false := by simpa using c7))
      (try (have c7b3 : ¬ (t330 = (decide (t331 ≥ 0))) := by simpa using c7))
      clear c7
      (first | rw [c7b0] | (simp only [i64_w, i32_w]; rw [c7b0]) | skip)
      have H' := Aside0.mk H
      clear H
      go_wp2
      go_meet
      case rel => exact ⟨_, (true), (by first | rfl | (simp; done) | (simp [*]; done)), H', ⟨by first | omega | exact Nat.le_refl _⟩, ⟨by repeat (first | (with_reducible first | exact HB.out | apply below_alloc | apply pw_below_drewN | apply below_drew1) | exact HB.out)⟩⟩
    · rw [if_neg c7] at H
      have c7b0 : (t330 != (decide (t331 ≥ 0))) = false := by simpa using c7
      (try (have c7b1 : decide (t330 = (decide (t331 ≥ 0))) = true := by simpa using c7))
      (try (have c7b2 : (t330 == (decide (t331 ≥ 0))) = true := by simpa using c7))
      clear c7
      (first | rw [c7b0] | (simp only [i64_w, i32_w]; rw [c7b0]) | skip)
      by_cases c8 : t330 = true
      · subst c8
        have H1 : (if 0 ≤ t331 then (if t331 ≤ (t327.size : Int) then (if t328.toList = (t327.extract 0 (t331 : Int).toNat).toList then (if 0 ≤ (wrap64 (t331 + 1)) then (if (wrap64 (t331 + 1)) ≤ (t327.size : Int) then (if t329.toList = (t327.extract ((wrap64 (t331 + 1)) : Int).toNat t327.size).toList then (shibbolethlaw18_WhatwgTells.j0 k t327 false) else (shibbolethlaw18_WhatwgTells.j0 k t327 true)) else (none)) else (none)) else (shibbolethlaw18_WhatwgTells.j0 k t327 true)) else (none)) else (none)) = some r := by rw [if_pos rfl] at H; exact H
        clear H
        have H := H1
        clear H1
        by_cases c9 : 0 ≤ t331
        · rw [if_pos c9] at H
          have c9b0 := eq_true c9
          have c9b1 : decide (0 ≤ t331) = true := decide_eq_true c9
          clear c9
          by_cases c10 : t331 ≤ (t327.size : Int)
          · rw [if_pos c10] at H
            have c10b0 := eq_true c10
            have c10b1 : decide (t331 ≤ (t327.size : Int)) = true := decide_eq_true c10
            clear c10
            by_cases c11 : t328.toList = (t327.extract 0 (t331 : Int).toNat).toList
            · rw [if_pos c11] at H
              have c11b0 : (t328.toList == (t327.extract 0 (t331 : Int).toNat).toList) = true := beq_iff_eq.mpr c11
              have c11b1 : (t328.toList != (t327.extract 0 (t331 : Int).toNat).toList) = false := bne_eq_false_iff_eq.mpr c11
              clear c11
              obtain ⟨ji12, hji12⟩ : ∃ j_ : Int, (wrap64 (t331 + 1)) = j_ := ⟨_, rfl⟩
              replace H : (if 0 ≤ (ji12) then (if (ji12) ≤ (t327.size : Int) then (if t329.toList = (t327.extract ((ji12) : Int).toNat t327.size).toList then (shibbolethlaw18_WhatwgTells.j0 k t327 false) else (shibbolethlaw18_WhatwgTells.j0 k t327 true)) else (none)) else (none)) = some r := by first | (rw [hji12] at H; exact H) | (simp only [hji12] at H ⊢; exact H)
              have hji12w : (IntKind.i64.wrap (t331 + 1)) = ji12 := (i64_w _).trans hji12
              by_cases c13 : 0 ≤ (ji12)
              · rw [if_pos c13] at H
                have c13b0 := eq_true c13
                have c13b1 : decide (0 ≤ (ji12)) = true := decide_eq_true c13
                clear c13
                by_cases c14 : (ji12) ≤ (t327.size : Int)
                · rw [if_pos c14] at H
                  have c14b0 := eq_true c14
                  have c14b1 : decide ((ji12) ≤ (t327.size : Int)) = true := decide_eq_true c14
                  clear c14
                  by_cases c15 : t329.toList = (t327.extract ((ji12) : Int).toNat t327.size).toList
                  · rw [if_pos c15] at H
                    have c15b0 : (t329.toList == (t327.extract ((ji12) : Int).toNat t327.size).toList) = true := beq_iff_eq.mpr c15
                    have c15b1 : (t329.toList != (t327.extract ((ji12) : Int).toNat t327.size).toList) = false := bne_eq_false_iff_eq.mpr c15
                    clear c15
                    have H' := Aside0.mk H
                    clear H
                    go_wp2
                    go_meet
                    case rel => exact ⟨_, (false), (by first | rfl | (simp; done) | (simp [*]; done)), H', ⟨by first | omega | exact Nat.le_refl _⟩, ⟨by repeat (first | (with_reducible first | exact HB.out | apply below_alloc | apply pw_below_drewN | apply below_drew1) | exact HB.out)⟩⟩
                  · rw [if_neg c15] at H
                    have c15b0 : (t329.toList == (t327.extract ((ji12) : Int).toNat t327.size).toList) = false := beq_eq_false_iff_ne.mpr c15
                    have c15b1 : (t329.toList != (t327.extract ((ji12) : Int).toNat t327.size).toList) = true := bne_iff_ne.mpr c15
                    have H' := Aside0.mk H
                    clear H
                    go_wp2
                    go_meet
                    case rel => exact ⟨_, (true), (by first | rfl | (simp; done) | (simp [*]; done)), H', ⟨by first | omega | exact Nat.le_refl _⟩, ⟨by repeat (first | (with_reducible first | exact HB.out | apply below_alloc | apply pw_below_drewN | apply below_drew1) | exact HB.out)⟩⟩
                · rw [if_neg c14] at H
                  exact absurd H (by simp)
              · rw [if_neg c13] at H
                exact absurd H (by simp)
            · rw [if_neg c11] at H
              have c11b0 : (t328.toList == (t327.extract 0 (t331 : Int).toNat).toList) = false := beq_eq_false_iff_ne.mpr c11
              have c11b1 : (t328.toList != (t327.extract 0 (t331 : Int).toNat).toList) = true := bne_iff_ne.mpr c11
              have H' := Aside0.mk H
              clear H
              go_wp2
              go_meet
              case rel => exact ⟨_, (true), (by first | rfl | (simp; done) | (simp [*]; done)), H', ⟨by first | omega | exact Nat.le_refl _⟩, ⟨by repeat (first | (with_reducible first | exact HB.out | apply below_alloc | apply pw_below_drewN | apply below_drew1) | exact HB.out)⟩⟩
          · rw [if_neg c10] at H
            exact absurd H (by simp)
        · rw [if_neg c9] at H
          exact absurd H (by simp)
      · replace c8 := Bool.eq_false_iff.mpr c8
        subst c8
        have H1 : (if t328.size + t329.size ≤ 9223372036854775807 then (shibbolethlaw18_WhatwgTells.j0 k t327 ((t328 ++ t329).toList != ([] : List UInt8))) else (none)) = some r := by rw [if_neg (show ¬ (false = true) by decide)] at H; exact H
        clear H
        have H := H1
        clear H1
        by_cases c16 : t328.size + t329.size ≤ 9223372036854775807
        · rw [if_pos c16] at H
          have c16b0 := eq_true c16
          have c16b1 : decide (t328.size + t329.size ≤ 9223372036854775807) = true := decide_eq_true c16
          try have c16b2 : (9223372036854775807 < t328.size + t329.size) = False := eq_false (Nat.not_lt.2 c16)
          obtain ⟨ji17, hji17⟩ : ∃ j_ : ByteArray, (t328 ++ t329) = j_ := ⟨_, rfl⟩
          replace H : (shibbolethlaw18_WhatwgTells.j0 k t327 ((ji17).toList != ([] : List UInt8))) = some r := by first | (rw [hji17] at H; exact H) | (simp only [hji17] at H ⊢; exact H) | exact H
          have H' := Aside0.mk H
          clear H
          go_wp2
          go_meet
          case rel => exact ⟨_, (((ji17).toList != ([] : List UInt8))), (by first | rfl | (simp; done) | (simp only [← hji17] <;> (first | rfl | (simp; done) | (rw [hji17]; generalize ByteArray.toList ji17 = l_; cases l_ <;> rfl))) | (simp [*]; done)), H', ⟨by first | omega | exact Nat.le_refl _⟩, ⟨by repeat (first | (with_reducible first | exact HB.out | apply below_alloc | apply pw_below_drewN | apply below_drew1) | exact HB.out)⟩⟩
        · rw [if_neg c16] at H
          exact absurd H (by simp)
  case rest =>
    clear HC5
    try clear c1
    try clear c2
    try clear p2
    try clear c6
    try clear p6
    try clear c7
    try clear c7b0
    try clear c7b1
    try clear c7b2
    try clear c8
    try clear c9
    try clear c9b0
    try clear c9b1
    try clear c10
    try clear c10b0
    try clear c10b1
    try clear c11
    try clear c11b0
    try clear c11b1
    try clear c13
    try clear c13b0
    try clear c13b1
    try clear c14
    try clear c14b0
    try clear c14b1
    try clear c15
    try clear c15b0
    try clear c15b1
    try clear c16
    try clear c16b0
    try clear c16b1
    try clear c16b2
    obtain ⟨kq, x48_4, rfl, HA, HJ4, HB⟩ := hcut
    cases kq with
    | zero => exact absurd HA.out (by simp [shibbolethlaw18_WhatwgTells.j0])
    | succ kj4 =>
      have H := HA.out
      clear HA
      simp only [shibbolethlaw18_WhatwgTells.j0] at H
      by_cases c18 : x48_4 = true
      · subst c18
        have H1 : (some false) = some r := by rw [if_pos rfl] at H; exact H
        clear H
        have H := H1
        clear H1
        obtain rfl := Option.some.inj H
        go_wp2
        go_ret
        exact ⟨by first | rfl | (simp [errW_none, errW_some] <;> rfl) | (simp [*, errW_none, errW_some] <;> rfl), by repeat (first | (with_reducible first | exact HB.out | apply below_alloc | apply pw_below_drewN | apply below_drew1) | exact HB.out)⟩
      · replace c18 := Bool.eq_false_iff.mpr c18
        subst c18
        have H1 : ((whatwg_Parse.f kj4 t327).bind fun bt332 => ((shibbolethref18_Parse.f kj4 t327).bind fun bt335 => (if (bt332.1 == bt335.1 && (bt332.2.1.toList == bt335.2.1.toList && (bt332.2.2.toList == bt335.2.2.toList))) = true then ((whatwg_Text.f t327).bind fun t338 => ((shibbolethref18_Text.f kj4 t327).bind fun t339 => (if t338.toList = t339.toList then ((whatwg_Special.f t327).bind fun t340 => ((shibbolethref18_Special.f kj4 t327).bind fun t341 => (if (t340 == t341) = true then ((shibbolethlaw18_awake.f kj4).bind fun t342 => (some t342)) else (some false)))) else (some false)))) else (some false)))) = some r := by rw [if_neg (show ¬ (false = true) by decide)] at H; exact H
        clear H
        have H := H1
        clear H1
        replace H := Option.bind_eq_some_iff.mp H
        obtain ⟨⟨t332, t333, t334⟩, A190, H⟩ := H
        replace H : ((shibbolethref18_Parse.f kj4 t327).bind fun bt335 => (if (t332 == bt335.1 && (t333.toList == bt335.2.1.toList && (t334.toList == bt335.2.2.toList))) = true then ((whatwg_Text.f t327).bind fun t338 => ((shibbolethref18_Text.f kj4 t327).bind fun t339 => (if t338.toList = t339.toList then ((whatwg_Special.f t327).bind fun t340 => ((shibbolethref18_Special.f kj4 t327).bind fun t341 => (if (t340 == t341) = true then ((shibbolethlaw18_awake.f kj4).bind fun t342 => (some t342)) else (some false)))) else (some false)))) else (some false))) = some r := H
        have A19 := Aside0.mk A190
        clear A190
        replace H := Option.bind_eq_some_iff.mp H
        obtain ⟨⟨t335, t336, t337⟩, A200, H⟩ := H
        replace H : (if (t332 == t335 && (t333.toList == t336.toList && (t334.toList == t337.toList))) = true then ((whatwg_Text.f t327).bind fun t338 => ((shibbolethref18_Text.f kj4 t327).bind fun t339 => (if t338.toList = t339.toList then ((whatwg_Special.f t327).bind fun t340 => ((shibbolethref18_Special.f kj4 t327).bind fun t341 => (if (t340 == t341) = true then ((shibbolethlaw18_awake.f kj4).bind fun t342 => (some t342)) else (some false)))) else (some false)))) else (some false)) = some r := H
        have A20 := Aside0.mk A200
        clear A200
        by_cases c21 : (t332 == t335 && (t333.toList == t336.toList && (t334.toList == t337.toList))) = true
        · rw [if_pos c21] at H
          have c21b0 : (t332 == t335 && (t333.toList == t336.toList && (t334.toList == t337.toList))) = true := c21
          (try (have c21b1 : decide (t332 = t335 && (t333.toList == t336.toList && (t334.toList == t337.toList))) = true := by simpa using c21))
          (try (have c21b2 : (t332 == t335 && (t333.toList == t336.toList && (t334.toList == t337.toList))) = true := by simpa using c21))
          clear c21
          replace H := Option.bind_eq_some_iff.mp H
          obtain ⟨t338, A220, H⟩ := H
          replace H : ((shibbolethref18_Text.f kj4 t327).bind fun t339 => (if t338.toList = t339.toList then ((whatwg_Special.f t327).bind fun t340 => ((shibbolethref18_Special.f kj4 t327).bind fun t341 => (if (t340 == t341) = true then ((shibbolethlaw18_awake.f kj4).bind fun t342 => (some t342)) else (some false)))) else (some false))) = some r := H
          have A22 := Aside0.mk A220
          clear A220
          replace H := Option.bind_eq_some_iff.mp H
          obtain ⟨t339, A230, H⟩ := H
          replace H : (if t338.toList = t339.toList then ((whatwg_Special.f t327).bind fun t340 => ((shibbolethref18_Special.f kj4 t327).bind fun t341 => (if (t340 == t341) = true then ((shibbolethlaw18_awake.f kj4).bind fun t342 => (some t342)) else (some false)))) else (some false)) = some r := H
          have A23 := Aside0.mk A230
          clear A230
          by_cases c24 : t338.toList = t339.toList
          · rw [if_pos c24] at H
            have c24b0 : (t338.toList == t339.toList) = true := beq_iff_eq.mpr c24
            have c24b1 : (t338.toList != t339.toList) = false := bne_eq_false_iff_eq.mpr c24
            clear c24
            replace H := Option.bind_eq_some_iff.mp H
            obtain ⟨t340, A250, H⟩ := H
            replace H : ((shibbolethref18_Special.f kj4 t327).bind fun t341 => (if (t340 == t341) = true then ((shibbolethlaw18_awake.f kj4).bind fun t342 => (some t342)) else (some false))) = some r := H
            have A25 := Aside0.mk A250
            clear A250
            replace H := Option.bind_eq_some_iff.mp H
            obtain ⟨t341, A260, H⟩ := H
            replace H : (if (t340 == t341) = true then ((shibbolethlaw18_awake.f kj4).bind fun t342 => (some t342)) else (some false)) = some r := H
            have A26 := Aside0.mk A260
            clear A260
            by_cases c27 : (t340 == t341) = true
            · rw [if_pos c27] at H
              have c27b0 : (t340 == t341) = true := c27
              (try (have c27b1 : decide (t340 = t341) = true := by simpa using c27))
              (try (have c27b2 : (t340 == t341) = true := by simpa using c27))
              clear c27
              replace H := Option.bind_eq_some_iff.mp H
              obtain ⟨t342, A280, H⟩ := H
              replace H : (some t342) = some r := H
              have A28 := Aside0.mk A280
              clear A280
              obtain rfl := Option.some.inj H
              go_wp2_with (first | ((with_reducible refine gate_callee (f := 16) rfl ?_); refine goesL_ (some 50) rfl rfl Tryz.func16 (by kernel_rfl) rfl #[.string t327] rfl (by (try simp only [List.map_toArray, List.map_cons, List.map_nil]); first | done | rfl | (simp only [List.length_drop, List.length_take]; rfl)) ?_; (with_reducible refine (whatwg_Parse.calls kj4 t327 t332 t333 t334 _ A19.out ?sideT).mono ?_); (case sideT => exact Utf8Tabs_below HU8_.out (by repeat (first | (with_reducible first | exact HB.out | apply below_alloc | apply pw_below_drewN | apply below_drew1) | exact HB.out))); rintro e w29 ⟨rfl, hb⟩; refine ⟨_, rfl, ?_⟩; have n0_ := Aside0.mk (below_step (by repeat (first | (with_reducible first | exact HB.out | apply below_alloc | apply pw_below_drewN | apply below_drew1) | exact HB.out)) hb); clear HB; have HB := n0_; clear n0_; (try clear hb); (try clear hb2); (try clear hk); (try clear hi)) | ((with_reducible refine gate_callee (f := 24) rfl ?_); refine goesL_ (some 52) rfl rfl Tryz.func24 (by kernel_rfl) rfl #[.string t327] rfl (by (try simp only [List.map_toArray, List.map_cons, List.map_nil]); first | done | rfl | (simp only [List.length_drop, List.length_take]; rfl)) ?_; (with_reducible refine (shibbolethref18_Parse.calls kj4 t327 t335 t336 t337 _ A20.out).mono ?_); rintro e w30 ⟨rfl, hb⟩; refine ⟨_, rfl, ?_⟩; have n0_ := Aside0.mk (below_step (by repeat (first | (with_reducible first | exact HB.out | apply below_alloc | apply pw_below_drewN | apply below_drew1) | exact HB.out)) hb); clear HB; have HB := n0_; clear n0_; (try clear hb); (try clear hb2); (try clear hk); (try clear hi)) | (go_at_call 20; (with_reducible refine (whatwg_Text.calls t327 t338 _ A22.out).mono ?_); rintro e w31 ⟨rfl, hb⟩; have n0_ := Aside0.mk (below_step (by repeat (first | (with_reducible first | exact HB.out | apply below_alloc | apply pw_below_drewN | apply below_drew1) | exact HB.out)) hb); clear HB; have HB := n0_; clear n0_; (try clear hb); (try clear hb2); (try clear hk); (try clear hi)) | (go_at_call 25; (with_reducible refine (shibbolethref18_Text.calls kj4 t327 t339 _ A23.out).mono ?_); rintro e w' ⟨rfl, ⟨nd, rfl⟩⟩) | (go_at_call 19; (with_reducible refine (whatwg_Special.calls t327 t340 _ A25.out ?sideT).mono ?_); (case sideT => exact Utf8Tabs_below HU8_.out (by repeat (first | (with_reducible first | exact HB.out | apply below_alloc | apply pw_below_drewN | apply below_drew1) | exact HB.out))); rintro e w32 ⟨rfl, hb⟩; have n0_ := Aside0.mk (below_step (by repeat (first | (with_reducible first | exact HB.out | apply below_alloc | apply pw_below_drewN | apply below_drew1) | exact HB.out)) hb); clear HB; have HB := n0_; clear n0_; (try clear hb); (try clear hb2); (try clear hk); (try clear hi)) | (go_at_call 26; (with_reducible refine (shibbolethref18_Special.calls kj4 t327 t341 _ A26.out).mono ?_); rintro e w33 ⟨rfl, hb⟩; have n0_ := Aside0.mk (below_step (by repeat (first | (with_reducible first | exact HB.out | apply below_alloc | apply pw_below_drewN | apply below_drew1) | exact HB.out)) hb); clear HB; have HB := n0_; clear n0_; (try clear hb); (try clear hb2); (try clear hk); (try clear hi)) | (go_at_call 21; (with_reducible refine (shibbolethlaw18_awake.calls kj4  t342 _ A28.out ?sideT).mono ?_); (case sideT => exact Utf8Tabs_below HU8_.out (by repeat (first | (with_reducible first | exact HB.out | apply below_alloc | apply pw_below_drewN | apply below_drew1) | exact HB.out))); rintro e w34 ⟨rfl, hb⟩; have n0_ := Aside0.mk (below_step (by repeat (first | (with_reducible first | exact HB.out | apply below_alloc | apply pw_below_drewN | apply below_drew1) | exact HB.out)) hb); clear HB; have HB := n0_; clear n0_; (try clear hb); (try clear hb2); (try clear hk); (try clear hi)))
              go_ret
              exact ⟨by first | rfl | (simp [errW_none, errW_some] <;> rfl) | (simp [*, errW_none, errW_some] <;> rfl), by repeat (first | (with_reducible first | exact HB.out | apply below_alloc | apply pw_below_drewN | apply below_drew1) | exact HB.out)⟩
            · rw [if_neg c27] at H
              have c27b0 : (t340 == t341) = false := by simpa using c27
              (try (have c27b1 : decide (t340 = t341) = false := by simpa using c27))
              (try (have c27b2 : (t340 == t341) = false := by simpa using c27))
              (try (have c27b3 : ¬ (t340 = t341) := by simpa using c27))
              clear c27
              obtain rfl := Option.some.inj H
              go_wp2_with (first | ((with_reducible refine gate_callee (f := 16) rfl ?_); refine goesL_ (some 50) rfl rfl Tryz.func16 (by kernel_rfl) rfl #[.string t327] rfl (by (try simp only [List.map_toArray, List.map_cons, List.map_nil]); first | done | rfl | (simp only [List.length_drop, List.length_take]; rfl)) ?_; (with_reducible refine (whatwg_Parse.calls kj4 t327 t332 t333 t334 _ A19.out ?sideT).mono ?_); (case sideT => exact Utf8Tabs_below HU8_.out (by repeat (first | (with_reducible first | exact HB.out | apply below_alloc | apply pw_below_drewN | apply below_drew1) | exact HB.out))); rintro e w35 ⟨rfl, hb⟩; refine ⟨_, rfl, ?_⟩; have n0_ := Aside0.mk (below_step (by repeat (first | (with_reducible first | exact HB.out | apply below_alloc | apply pw_below_drewN | apply below_drew1) | exact HB.out)) hb); clear HB; have HB := n0_; clear n0_; (try clear hb); (try clear hb2); (try clear hk); (try clear hi)) | ((with_reducible refine gate_callee (f := 24) rfl ?_); refine goesL_ (some 52) rfl rfl Tryz.func24 (by kernel_rfl) rfl #[.string t327] rfl (by (try simp only [List.map_toArray, List.map_cons, List.map_nil]); first | done | rfl | (simp only [List.length_drop, List.length_take]; rfl)) ?_; (with_reducible refine (shibbolethref18_Parse.calls kj4 t327 t335 t336 t337 _ A20.out).mono ?_); rintro e w36 ⟨rfl, hb⟩; refine ⟨_, rfl, ?_⟩; have n0_ := Aside0.mk (below_step (by repeat (first | (with_reducible first | exact HB.out | apply below_alloc | apply pw_below_drewN | apply below_drew1) | exact HB.out)) hb); clear HB; have HB := n0_; clear n0_; (try clear hb); (try clear hb2); (try clear hk); (try clear hi)) | (go_at_call 20; (with_reducible refine (whatwg_Text.calls t327 t338 _ A22.out).mono ?_); rintro e w37 ⟨rfl, hb⟩; have n0_ := Aside0.mk (below_step (by repeat (first | (with_reducible first | exact HB.out | apply below_alloc | apply pw_below_drewN | apply below_drew1) | exact HB.out)) hb); clear HB; have HB := n0_; clear n0_; (try clear hb); (try clear hb2); (try clear hk); (try clear hi)) | (go_at_call 25; (with_reducible refine (shibbolethref18_Text.calls kj4 t327 t339 _ A23.out).mono ?_); rintro e w' ⟨rfl, ⟨nd, rfl⟩⟩) | (go_at_call 19; (with_reducible refine (whatwg_Special.calls t327 t340 _ A25.out ?sideT).mono ?_); (case sideT => exact Utf8Tabs_below HU8_.out (by repeat (first | (with_reducible first | exact HB.out | apply below_alloc | apply pw_below_drewN | apply below_drew1) | exact HB.out))); rintro e w38 ⟨rfl, hb⟩; have n0_ := Aside0.mk (below_step (by repeat (first | (with_reducible first | exact HB.out | apply below_alloc | apply pw_below_drewN | apply below_drew1) | exact HB.out)) hb); clear HB; have HB := n0_; clear n0_; (try clear hb); (try clear hb2); (try clear hk); (try clear hi)) | (go_at_call 26; (with_reducible refine (shibbolethref18_Special.calls kj4 t327 t341 _ A26.out).mono ?_); rintro e w39 ⟨rfl, hb⟩; have n0_ := Aside0.mk (below_step (by repeat (first | (with_reducible first | exact HB.out | apply below_alloc | apply pw_below_drewN | apply below_drew1) | exact HB.out)) hb); clear HB; have HB := n0_; clear n0_; (try clear hb); (try clear hb2); (try clear hk); (try clear hi)))
              go_ret
              exact ⟨by first | rfl | (simp [errW_none, errW_some] <;> rfl) | (simp [*, errW_none, errW_some] <;> rfl), by repeat (first | (with_reducible first | exact HB.out | apply below_alloc | apply pw_below_drewN | apply below_drew1) | exact HB.out)⟩
          · rw [if_neg c24] at H
            have c24b0 : (t338.toList == t339.toList) = false := beq_eq_false_iff_ne.mpr c24
            have c24b1 : (t338.toList != t339.toList) = true := bne_iff_ne.mpr c24
            obtain rfl := Option.some.inj H
            go_wp2_with (first | ((with_reducible refine gate_callee (f := 16) rfl ?_); refine goesL_ (some 50) rfl rfl Tryz.func16 (by kernel_rfl) rfl #[.string t327] rfl (by (try simp only [List.map_toArray, List.map_cons, List.map_nil]); first | done | rfl | (simp only [List.length_drop, List.length_take]; rfl)) ?_; (with_reducible refine (whatwg_Parse.calls kj4 t327 t332 t333 t334 _ A19.out ?sideT).mono ?_); (case sideT => exact Utf8Tabs_below HU8_.out (by repeat (first | (with_reducible first | exact HB.out | apply below_alloc | apply pw_below_drewN | apply below_drew1) | exact HB.out))); rintro e w40 ⟨rfl, hb⟩; refine ⟨_, rfl, ?_⟩; have n0_ := Aside0.mk (below_step (by repeat (first | (with_reducible first | exact HB.out | apply below_alloc | apply pw_below_drewN | apply below_drew1) | exact HB.out)) hb); clear HB; have HB := n0_; clear n0_; (try clear hb); (try clear hb2); (try clear hk); (try clear hi)) | ((with_reducible refine gate_callee (f := 24) rfl ?_); refine goesL_ (some 52) rfl rfl Tryz.func24 (by kernel_rfl) rfl #[.string t327] rfl (by (try simp only [List.map_toArray, List.map_cons, List.map_nil]); first | done | rfl | (simp only [List.length_drop, List.length_take]; rfl)) ?_; (with_reducible refine (shibbolethref18_Parse.calls kj4 t327 t335 t336 t337 _ A20.out).mono ?_); rintro e w41 ⟨rfl, hb⟩; refine ⟨_, rfl, ?_⟩; have n0_ := Aside0.mk (below_step (by repeat (first | (with_reducible first | exact HB.out | apply below_alloc | apply pw_below_drewN | apply below_drew1) | exact HB.out)) hb); clear HB; have HB := n0_; clear n0_; (try clear hb); (try clear hb2); (try clear hk); (try clear hi)) | (go_at_call 20; (with_reducible refine (whatwg_Text.calls t327 t338 _ A22.out).mono ?_); rintro e w42 ⟨rfl, hb⟩; have n0_ := Aside0.mk (below_step (by repeat (first | (with_reducible first | exact HB.out | apply below_alloc | apply pw_below_drewN | apply below_drew1) | exact HB.out)) hb); clear HB; have HB := n0_; clear n0_; (try clear hb); (try clear hb2); (try clear hk); (try clear hi)) | (go_at_call 25; (with_reducible refine (shibbolethref18_Text.calls kj4 t327 t339 _ A23.out).mono ?_); rintro e w' ⟨rfl, ⟨nd, rfl⟩⟩))
            go_ret
            exact ⟨by first | rfl | (simp [errW_none, errW_some] <;> rfl) | (simp [*, errW_none, errW_some] <;> rfl), by repeat (first | (with_reducible first | exact HB.out | apply below_alloc | apply pw_below_drewN | apply below_drew1) | exact HB.out)⟩
        · rw [if_neg c21] at H
          have c21b0 : (t332 == t335 && (t333.toList == t336.toList && (t334.toList == t337.toList))) = false := by simpa using c21
          (try (have c21b1 : decide (t332 = t335 && (t333.toList == t336.toList && (t334.toList == t337.toList))) = false := by simpa using c21))
          (try (have c21b2 : (t332 == t335 && (t333.toList == t336.toList && (t334.toList == t337.toList))) = false := by simpa using c21))
          (try (have c21b3 : ¬ (t332 = t335 && (t333.toList == t336.toList && (t334.toList == t337.toList))) := by simpa using c21))
          clear c21
          obtain rfl := Option.some.inj H
          go_wp2_with (first | ((with_reducible refine gate_callee (f := 16) rfl ?_); refine goesL_ (some 50) rfl rfl Tryz.func16 (by kernel_rfl) rfl #[.string t327] rfl (by (try simp only [List.map_toArray, List.map_cons, List.map_nil]); first | done | rfl | (simp only [List.length_drop, List.length_take]; rfl)) ?_; (with_reducible refine (whatwg_Parse.calls kj4 t327 t332 t333 t334 _ A19.out ?sideT).mono ?_); (case sideT => exact Utf8Tabs_below HU8_.out (by repeat (first | (with_reducible first | exact HB.out | apply below_alloc | apply pw_below_drewN | apply below_drew1) | exact HB.out))); rintro e w43 ⟨rfl, hb⟩; refine ⟨_, rfl, ?_⟩; have n0_ := Aside0.mk (below_step (by repeat (first | (with_reducible first | exact HB.out | apply below_alloc | apply pw_below_drewN | apply below_drew1) | exact HB.out)) hb); clear HB; have HB := n0_; clear n0_; (try clear hb); (try clear hb2); (try clear hk); (try clear hi)) | ((with_reducible refine gate_callee (f := 24) rfl ?_); refine goesL_ (some 52) rfl rfl Tryz.func24 (by kernel_rfl) rfl #[.string t327] rfl (by (try simp only [List.map_toArray, List.map_cons, List.map_nil]); first | done | rfl | (simp only [List.length_drop, List.length_take]; rfl)) ?_; (with_reducible refine (shibbolethref18_Parse.calls kj4 t327 t335 t336 t337 _ A20.out).mono ?_); rintro e w44 ⟨rfl, hb⟩; refine ⟨_, rfl, ?_⟩; have n0_ := Aside0.mk (below_step (by repeat (first | (with_reducible first | exact HB.out | apply below_alloc | apply pw_below_drewN | apply below_drew1) | exact HB.out)) hb); clear HB; have HB := n0_; clear n0_; (try clear hb); (try clear hb2); (try clear hk); (try clear hi)))
          go_ret
          exact ⟨by first | rfl | (simp [errW_none, errW_some] <;> rfl) | (simp [*, errW_none, errW_some] <;> rfl), by repeat (first | (with_reducible first | exact HB.out | apply below_alloc | apply pw_below_drewN | apply below_drew1) | exact HB.out)⟩

/-- THE ONE PURE STATEMENT of shibbolethlaw18_WhatwgTells: yours. -/
def shibbolethlaw18_WhatwgTells.Pure : Prop := ∀ (a0 : ByteArray), a0.size ≤ 140737488351232 → ∃ k, shibbolethlaw18_WhatwgTells.f k a0 = some true
theorem shibbolethlaw18_WhatwgTells.walk (P : shibbolethlaw18_WhatwgTells.Pure) (a0 : ByteArray) (w : World) (w0 : a0.size ≤ 140737488351232) (hT_ : Lib.Utf8Tabs (sh_lays230_ren.g 3) (sh_lays230_ren.g 4) w) :
    Calls Tryz.prog 6 #[.string a0] w fun e w' => e = .returned (.bool true) ∧ Below w.heap.size w w' := by
  obtain ⟨k, h⟩ := P a0 w0
  refine (shibbolethlaw18_WhatwgTells.calls k a0 true w h hT_).mono ?_
  rintro e w' ⟨rfl, hd⟩
  exact ⟨rfl, hd⟩

end Go.Proofs.YtiihgddpejmehaaGreatDoor.ZA

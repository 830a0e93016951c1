/- My own print (tools/mp.py) of functions of this seat: each function as a plain Lean function, and the proof that the code does what that function says. -/
import Derived.Test.YtiihgddpejmehaaZA0
import Derived.Test.YtiihgddpejmehaaZA1
import Derived.Test.YtiihgddpejmehaaZA4
import Derived.Test.YtiihgddpejmehaaZA9
namespace Go.Proofs.Ytiihgddpejmehaa.ZA
open Go.RowKit Go.Proofs.YtiihgddpejmehaaW.PrintWords Go.Proofs.YtiihgddpejmehaaW.PrintLast Go.Proofs.YtiihgddpejmehaaW.PrintMore
attribute [local go_sem] max2_int min2_int max_two min_two max_three min_three max_four min_four   -- for this text's walks alone
set_option linter.unusedVariables false
set_option linter.unusedSimpArgs false

attribute [local go_sem high] eqA24
/-! ### shibbolethlaw19_awake: function 11 -/
def shibbolethlaw19_awake.f (k : Nat)  : Option (Bool) := (rfc_Parse.f k (⟨#[104, 116, 116, 112, 58, 47, 47, 117, 58, 112, 64, 104, 58, 56, 48, 47, 97, 47, 98, 63, 113, 35, 102]⟩ : ByteArray)).bind fun bt283 => ((shibbolethlaw19_took.f (⟨#[104]⟩ : ByteArray) (⟨#[47, 97, 47, 98]⟩ : ByteArray)).bind fun bt286 => (if (bt283.1 == bt286.1 && (bt283.2.1.toList == bt286.2.1.toList && (bt283.2.2.toList == bt286.2.2.toList))) = true then ((rfc_Parse.f k (⟨#[47, 47, 91, 118, 49, 46, 120, 93]⟩ : ByteArray)).bind fun bt289 => ((shibbolethlaw19_took.f (⟨#[91, 118, 49, 46, 120, 93]⟩ : ByteArray) (⟨#[]⟩ : ByteArray)).bind fun bt292 => (if (bt289.1 == bt292.1 && (bt289.2.1.toList == bt292.2.1.toList && (bt289.2.2.toList == bt292.2.2.toList))) = true then ((rfc_Parse.f k (⟨#[49, 58, 98]⟩ : ByteArray)).bind fun bt295 => (some (!bt295.1 && (bt295.2.1.toList == ([] : List UInt8) && (bt295.2.2.toList == ([] : List UInt8)))))) else (some false)))) else (some false)))
theorem shibbolethlaw19_awake.mono : ∀ k, LeO (shibbolethlaw19_awake.f k ) (shibbolethlaw19_awake.f (k + 1) ) := by
  intro  k
  unfold shibbolethlaw19_awake.f
  repeat' first
      | (with_reducible exact rfc_Parse.mono _ _)
      | (with_reducible exact LeO.refl _)
      | (with_reducible exact LeO.none _)
      | (with_reducible refine LeO.ite ?_ ?_)
      | (with_reducible refine LeO.bind ?_ (fun _ => ?_))
      | exact rfc_Parse.mono _ _
      | exact LeO.none _
      | refine LeO.ite ?_ ?_
      | refine LeO.bind ?_ (fun _ => ?_)
set_option maxHeartbeats 8000000 in
set_option maxRecDepth 100000 in
theorem shibbolethlaw19_awake.calls (k : Nat)  (r : Bool) (w : World) (h : shibbolethlaw19_awake.f k  = some r) :
    Calls Try.prog 11 #[] w fun e w' => e = .returned (.bool r) ∧ Below w.heap.size w w' := by
  have hu24 := Try.underlying24
  have HB := Aside0.mk (Below.refl w.heap.size w)
  have H : ((rfc_Parse.f k (⟨#[104, 116, 116, 112, 58, 47, 47, 117, 58, 112, 64, 104, 58, 56, 48, 47, 97, 47, 98, 63, 113, 35, 102]⟩ : ByteArray)).bind fun bt283 => ((shibbolethlaw19_took.f (⟨#[104]⟩ : ByteArray) (⟨#[47, 97, 47, 98]⟩ : ByteArray)).bind fun bt286 => (if (bt283.1 == bt286.1 && (bt283.2.1.toList == bt286.2.1.toList && (bt283.2.2.toList == bt286.2.2.toList))) = true then ((rfc_Parse.f k (⟨#[47, 47, 91, 118, 49, 46, 120, 93]⟩ : ByteArray)).bind fun bt289 => ((shibbolethlaw19_took.f (⟨#[91, 118, 49, 46, 120, 93]⟩ : ByteArray) (⟨#[]⟩ : ByteArray)).bind fun bt292 => (if (bt289.1 == bt292.1 && (bt289.2.1.toList == bt292.2.1.toList && (bt289.2.2.toList == bt292.2.2.toList))) = true then ((rfc_Parse.f k (⟨#[49, 58, 98]⟩ : ByteArray)).bind fun bt295 => (some (!bt295.1 && (bt295.2.1.toList == ([] : List UInt8) && (bt295.2.2.toList == ([] : List UInt8)))))) else (some false)))) else (some false)))) = some r := h
  clear h
  replace H := Option.bind_eq_some_iff.mp H
  obtain ⟨⟨t283, t284, t285⟩, A10, H⟩ := H
  replace H : ((shibbolethlaw19_took.f (⟨#[104]⟩ : ByteArray) (⟨#[47, 97, 47, 98]⟩ : ByteArray)).bind fun bt286 => (if (t283 == bt286.1 && (t284.toList == bt286.2.1.toList && (t285.toList == bt286.2.2.toList))) = true then ((rfc_Parse.f k (⟨#[47, 47, 91, 118, 49, 46, 120, 93]⟩ : ByteArray)).bind fun bt289 => ((shibbolethlaw19_took.f (⟨#[91, 118, 49, 46, 120, 93]⟩ : ByteArray) (⟨#[]⟩ : ByteArray)).bind fun bt292 => (if (bt289.1 == bt292.1 && (bt289.2.1.toList == bt292.2.1.toList && (bt289.2.2.toList == bt292.2.2.toList))) = true then ((rfc_Parse.f k (⟨#[49, 58, 98]⟩ : ByteArray)).bind fun bt295 => (some (!bt295.1 && (bt295.2.1.toList == ([] : List UInt8) && (bt295.2.2.toList == ([] : List UInt8)))))) else (some false)))) else (some false))) = some r := H
  have A1 := Aside0.mk A10
  clear A10
  replace H := Option.bind_eq_some_iff.mp H
  obtain ⟨⟨t286, t287, t288⟩, A20, H⟩ := H
  replace H : (if (t283 == t286 && (t284.toList == t287.toList && (t285.toList == t288.toList))) = true then ((rfc_Parse.f k (⟨#[47, 47, 91, 118, 49, 46, 120, 93]⟩ : ByteArray)).bind fun bt289 => ((shibbolethlaw19_took.f (⟨#[91, 118, 49, 46, 120, 93]⟩ : ByteArray) (⟨#[]⟩ : ByteArray)).bind fun bt292 => (if (bt289.1 == bt292.1 && (bt289.2.1.toList == bt292.2.1.toList && (bt289.2.2.toList == bt292.2.2.toList))) = true then ((rfc_Parse.f k (⟨#[49, 58, 98]⟩ : ByteArray)).bind fun bt295 => (some (!bt295.1 && (bt295.2.1.toList == ([] : List UInt8) && (bt295.2.2.toList == ([] : List UInt8)))))) else (some false)))) else (some false)) = some r := H
  have A2 := Aside0.mk A20
  clear A20
  by_cases c3 : (t283 == t286 && (t284.toList == t287.toList && (t285.toList == t288.toList))) = true
  · rw [if_pos c3] at H
    have c3b0 : (t283 == t286 && (t284.toList == t287.toList && (t285.toList == t288.toList))) = true := c3
    (try (have c3b1 : decide (t283 = t286 && (t284.toList == t287.toList && (t285.toList == t288.toList))) = true := by simpa using c3))
    (try (have c3b2 : (t283 == t286 && (t284.toList == t287.toList && (t285.toList == t288.toList))) = true := by simpa using c3))
    clear c3
    replace H := Option.bind_eq_some_iff.mp H
    obtain ⟨⟨t289, t290, t291⟩, A40, H⟩ := H
    replace H : ((shibbolethlaw19_took.f (⟨#[91, 118, 49, 46, 120, 93]⟩ : ByteArray) (⟨#[]⟩ : ByteArray)).bind fun bt292 => (if (t289 == bt292.1 && (t290.toList == bt292.2.1.toList && (t291.toList == bt292.2.2.toList))) = true then ((rfc_Parse.f k (⟨#[49, 58, 98]⟩ : ByteArray)).bind fun bt295 => (some (!bt295.1 && (bt295.2.1.toList == ([] : List UInt8) && (bt295.2.2.toList == ([] : List UInt8)))))) else (some false))) = some r := H
    have A4 := Aside0.mk A40
    clear A40
    replace H := Option.bind_eq_some_iff.mp H
    obtain ⟨⟨t292, t293, t294⟩, A50, H⟩ := H
    replace H : (if (t289 == t292 && (t290.toList == t293.toList && (t291.toList == t294.toList))) = true then ((rfc_Parse.f k (⟨#[49, 58, 98]⟩ : ByteArray)).bind fun bt295 => (some (!bt295.1 && (bt295.2.1.toList == ([] : List UInt8) && (bt295.2.2.toList == ([] : List UInt8)))))) else (some false)) = some r := H
    have A5 := Aside0.mk A50
    clear A50
    by_cases c6 : (t289 == t292 && (t290.toList == t293.toList && (t291.toList == t294.toList))) = true
    · rw [if_pos c6] at H
      have c6b0 : (t289 == t292 && (t290.toList == t293.toList && (t291.toList == t294.toList))) = true := c6
      (try (have c6b1 : decide (t289 = t292 && (t290.toList == t293.toList && (t291.toList == t294.toList))) = true := by simpa using c6))
      (try (have c6b2 : (t289 == t292 && (t290.toList == t293.toList && (t291.toList == t294.toList))) = true := by simpa using c6))
      clear c6
      replace H := Option.bind_eq_some_iff.mp H
      obtain ⟨⟨t295, t296, t297⟩, A70, H⟩ := H
      replace H : (some (!t295 && (t296.toList == ([] : List UInt8) && (t297.toList == ([] : List UInt8))))) = some r := H
      have A7 := Aside0.mk A70
      clear A70
      obtain rfl := Option.some.inj H
      go_enter Try.func11, Try.ntmps11
      go_wp2_with (first | ((with_reducible refine gate_callee (f := 9) rfl ?_); refine goesL_ (some 1) rfl rfl Try.func9 (by kernel_rfl) rfl #[.string (⟨#[104, 116, 116, 112, 58, 47, 47, 117, 58, 112, 64, 104, 58, 56, 48, 47, 97, 47, 98, 63, 113, 35, 102]⟩ : ByteArray)] rfl (by (try simp only [List.map_toArray, List.map_cons, List.map_nil]); first | done | rfl | (simp only [List.length_drop, List.length_take]; rfl)) ?_; (with_reducible refine (rfc_Parse.calls k (⟨#[104, 116, 116, 112, 58, 47, 47, 117, 58, 112, 64, 104, 58, 56, 48, 47, 97, 47, 98, 63, 113, 35, 102]⟩ : ByteArray) t283 t284 t285 _ A1.out).mono ?_); rintro e w8 ⟨rfl, hb⟩; refine ⟨_, rfl, ?_⟩; have n0_ := Aside0.mk (below_step (by repeat (first | (with_reducible first | exact HB.out | apply below_alloc | apply pw_below_drewN | apply below_drew1) | exact HB.out)) hb); clear HB; have HB := n0_; clear n0_; (try clear hb); (try clear hb2); (try clear hk); (try clear hi)) | ((with_reducible refine gate_callee (f := 8) rfl ?_); refine goesL_ (some 2) rfl rfl Try.func8 (by kernel_rfl) rfl #[.string (⟨#[104]⟩ : ByteArray), .string (⟨#[47, 97, 47, 98]⟩ : ByteArray)] rfl (by (try simp only [List.map_toArray, List.map_cons, List.map_nil]); first | done | rfl | (simp only [List.length_drop, List.length_take]; rfl)) ?_; (with_reducible refine (shibbolethlaw19_took.calls (⟨#[104]⟩ : ByteArray) (⟨#[47, 97, 47, 98]⟩ : ByteArray) t286 t287 t288 _ A2.out).mono ?_); rintro e w9 ⟨rfl, hb⟩; refine ⟨_, rfl, ?_⟩; have n0_ := Aside0.mk (below_step (by repeat (first | (with_reducible first | exact HB.out | apply below_alloc | apply pw_below_drewN | apply below_drew1) | exact HB.out)) hb); clear HB; have HB := n0_; clear n0_; (try clear hb); (try clear hb2); (try clear hk); (try clear hi)) | (go_at_call 9; (with_reducible refine (rfc_Parse.calls k (⟨#[47, 47, 91, 118, 49, 46, 120, 93]⟩ : ByteArray) t289 t290 t291 _ A4.out).mono ?_); rintro e w10 ⟨rfl, hb⟩; have n0_ := Aside0.mk (below_step (by repeat (first | (with_reducible first | exact HB.out | apply below_alloc | apply pw_below_drewN | apply below_drew1) | exact HB.out)) hb); clear HB; have HB := n0_; clear n0_; (try clear hb); (try clear hb2); (try clear hk); (try clear hi)) | (go_at_call 8; (with_reducible refine (shibbolethlaw19_took.calls (⟨#[91, 118, 49, 46, 120, 93]⟩ : ByteArray) (⟨#[]⟩ : ByteArray) t292 t293 t294 _ A5.out).mono ?_); rintro e w11 ⟨rfl, hb⟩; have n0_ := Aside0.mk (below_step (by repeat (first | (with_reducible first | exact HB.out | apply below_alloc | apply pw_below_drewN | apply below_drew1) | exact HB.out)) hb); clear HB; have HB := n0_; clear n0_; (try clear hb); (try clear hb2); (try clear hk); (try clear hi)) | (go_at_call 9; (with_reducible refine (rfc_Parse.calls k (⟨#[49, 58, 98]⟩ : ByteArray) t295 t296 t297 _ A7.out).mono ?_); rintro e w12 ⟨rfl, hb⟩; have n0_ := Aside0.mk (below_step (by repeat (first | (with_reducible first | exact HB.out | apply below_alloc | apply pw_below_drewN | apply below_drew1) | exact HB.out)) hb); clear HB; have HB := n0_; clear n0_; (try clear hb); (try clear hb2); (try clear hk); (try clear hi)))
      go_ret
      exact ⟨by first | rfl | (simp [errW_none, errW_some] <;> rfl) | (simp [*, errW_none, errW_some] <;> rfl), by repeat (first | (with_reducible first | exact HB.out | apply below_alloc | apply pw_below_drewN | apply below_drew1) | exact HB.out)⟩
    · rw [if_neg c6] at H
      have c6b0 : (t289 == t292 && (t290.toList == t293.toList && (t291.toList == t294.toList))) = false := by simpa using c6
      (try (have c6b1 : decide (t289 = t292 && (t290.toList == t293.toList && (t291.toList == t294.toList))) = false := by simpa using c6))
      (try (have c6b2 : (t289 == t292 && (t290.toList == t293.toList && (t291.toList == t294.toList))) = false := by simpa using c6))
      (try (have c6b3 : ¬ (t289 = t292 && (t290.toList == t293.toList && (t291.toList == t294.toList))) := by simpa using c6))
      clear c6
      obtain rfl := Option.some.inj H
      go_enter Try.func11, Try.ntmps11
      go_wp2_with (first | ((with_reducible refine gate_callee (f := 9) rfl ?_); refine goesL_ (some 1) rfl rfl Try.func9 (by kernel_rfl) rfl #[.string (⟨#[104, 116, 116, 112, 58, 47, 47, 117, 58, 112, 64, 104, 58, 56, 48, 47, 97, 47, 98, 63, 113, 35, 102]⟩ : ByteArray)] rfl (by (try simp only [List.map_toArray, List.map_cons, List.map_nil]); first | done | rfl | (simp only [List.length_drop, List.length_take]; rfl)) ?_; (with_reducible refine (rfc_Parse.calls k (⟨#[104, 116, 116, 112, 58, 47, 47, 117, 58, 112, 64, 104, 58, 56, 48, 47, 97, 47, 98, 63, 113, 35, 102]⟩ : ByteArray) t283 t284 t285 _ A1.out).mono ?_); rintro e w13 ⟨rfl, hb⟩; refine ⟨_, rfl, ?_⟩; have n0_ := Aside0.mk (below_step (by repeat (first | (with_reducible first | exact HB.out | apply below_alloc | apply pw_below_drewN | apply below_drew1) | exact HB.out)) hb); clear HB; have HB := n0_; clear n0_; (try clear hb); (try clear hb2); (try clear hk); (try clear hi)) | ((with_reducible refine gate_callee (f := 8) rfl ?_); refine goesL_ (some 2) rfl rfl Try.func8 (by kernel_rfl) rfl #[.string (⟨#[104]⟩ : ByteArray), .string (⟨#[47, 97, 47, 98]⟩ : ByteArray)] rfl (by (try simp only [List.map_toArray, List.map_cons, List.map_nil]); first | done | rfl | (simp only [List.length_drop, List.length_take]; rfl)) ?_; (with_reducible refine (shibbolethlaw19_took.calls (⟨#[104]⟩ : ByteArray) (⟨#[47, 97, 47, 98]⟩ : ByteArray) t286 t287 t288 _ A2.out).mono ?_); rintro e w14 ⟨rfl, hb⟩; refine ⟨_, rfl, ?_⟩; have n0_ := Aside0.mk (below_step (by repeat (first | (with_reducible first | exact HB.out | apply below_alloc | apply pw_below_drewN | apply below_drew1) | exact HB.out)) hb); clear HB; have HB := n0_; clear n0_; (try clear hb); (try clear hb2); (try clear hk); (try clear hi)) | (go_at_call 9; (with_reducible refine (rfc_Parse.calls k (⟨#[47, 47, 91, 118, 49, 46, 120, 93]⟩ : ByteArray) t289 t290 t291 _ A4.out).mono ?_); rintro e w15 ⟨rfl, hb⟩; have n0_ := Aside0.mk (below_step (by repeat (first | (with_reducible first | exact HB.out | apply below_alloc | apply pw_below_drewN | apply below_drew1) | exact HB.out)) hb); clear HB; have HB := n0_; clear n0_; (try clear hb); (try clear hb2); (try clear hk); (try clear hi)) | (go_at_call 8; (with_reducible refine (shibbolethlaw19_took.calls (⟨#[91, 118, 49, 46, 120, 93]⟩ : ByteArray) (⟨#[]⟩ : ByteArray) t292 t293 t294 _ A5.out).mono ?_); rintro e w16 ⟨rfl, hb⟩; have n0_ := Aside0.mk (below_step (by repeat (first | (with_reducible first | exact HB.out | apply below_alloc | apply pw_below_drewN | apply below_drew1) | exact HB.out)) hb); clear HB; have HB := n0_; clear n0_; (try clear hb); (try clear hb2); (try clear hk); (try clear hi)))
      go_ret
      exact ⟨by first | rfl | (simp [errW_none, errW_some] <;> rfl) | (simp [*, errW_none, errW_some] <;> rfl), by repeat (first | (with_reducible first | exact HB.out | apply below_alloc | apply pw_below_drewN | apply below_drew1) | exact HB.out)⟩
  · rw [if_neg c3] at H
    have c3b0 : (t283 == t286 && (t284.toList == t287.toList && (t285.toList == t288.toList))) = false := by simpa using c3
    (try (have c3b1 : decide (t283 = t286 && (t284.toList == t287.toList && (t285.toList == t288.toList))) = false := by simpa using c3))
    (try (have c3b2 : (t283 == t286 && (t284.toList == t287.toList && (t285.toList == t288.toList))) = false := by simpa using c3))
    (try (have c3b3 : ¬ (t283 = t286 && (t284.toList == t287.toList && (t285.toList == t288.toList))) := by simpa using c3))
    clear c3
    obtain rfl := Option.some.inj H
    go_enter Try.func11, Try.ntmps11
    go_wp2_with (first | ((with_reducible refine gate_callee (f := 9) rfl ?_); refine goesL_ (some 1) rfl rfl Try.func9 (by kernel_rfl) rfl #[.string (⟨#[104, 116, 116, 112, 58, 47, 47, 117, 58, 112, 64, 104, 58, 56, 48, 47, 97, 47, 98, 63, 113, 35, 102]⟩ : ByteArray)] rfl (by (try simp only [List.map_toArray, List.map_cons, List.map_nil]); first | done | rfl | (simp only [List.length_drop, List.length_take]; rfl)) ?_; (with_reducible refine (rfc_Parse.calls k (⟨#[104, 116, 116, 112, 58, 47, 47, 117, 58, 112, 64, 104, 58, 56, 48, 47, 97, 47, 98, 63, 113, 35, 102]⟩ : ByteArray) t283 t284 t285 _ A1.out).mono ?_); rintro e w17 ⟨rfl, hb⟩; refine ⟨_, rfl, ?_⟩; have n0_ := Aside0.mk (below_step (by repeat (first | (with_reducible first | exact HB.out | apply below_alloc | apply pw_below_drewN | apply below_drew1) | exact HB.out)) hb); clear HB; have HB := n0_; clear n0_; (try clear hb); (try clear hb2); (try clear hk); (try clear hi)) | ((with_reducible refine gate_callee (f := 8) rfl ?_); refine goesL_ (some 2) rfl rfl Try.func8 (by kernel_rfl) rfl #[.string (⟨#[104]⟩ : ByteArray), .string (⟨#[47, 97, 47, 98]⟩ : ByteArray)] rfl (by (try simp only [List.map_toArray, List.map_cons, List.map_nil]); first | done | rfl | (simp only [List.length_drop, List.length_take]; rfl)) ?_; (with_reducible refine (shibbolethlaw19_took.calls (⟨#[104]⟩ : ByteArray) (⟨#[47, 97, 47, 98]⟩ : ByteArray) t286 t287 t288 _ A2.out).mono ?_); rintro e w18 ⟨rfl, hb⟩; refine ⟨_, rfl, ?_⟩; have n0_ := Aside0.mk (below_step (by repeat (first | (with_reducible first | exact HB.out | apply below_alloc | apply pw_below_drewN | apply below_drew1) | exact HB.out)) hb); clear HB; have HB := n0_; clear n0_; (try clear hb); (try clear hb2); (try clear hk); (try clear hi)))
    go_ret
    exact ⟨by first | rfl | (simp [errW_none, errW_some] <;> rfl) | (simp [*, errW_none, errW_some] <;> rfl), by repeat (first | (with_reducible first | exact HB.out | apply below_alloc | apply pw_below_drewN | apply below_drew1) | exact HB.out)⟩

/-! ### shibbolethlaw19_Short: function 13 -/
def shibbolethlaw19_Short.f (a0 : ByteArray) : Option (ByteArray) := if (a0.size : Int) > 3000 then (if 0 ≤ 3000 then (if 3000 ≤ (a0.size : Int) then (some (a0.extract 0 3000)) else (none)) else (none)) else (some a0)
set_option maxHeartbeats 8000000 in
set_option maxRecDepth 100000 in
theorem shibbolethlaw19_Short.calls (a0 : ByteArray) (r : ByteArray) (w : World) (h : shibbolethlaw19_Short.f a0 = some r) :
    Calls Try.prog 13 #[.string a0] w fun e w' => e = .returned (.string r) ∧ Drawn0 w w' := by
  have H : (if (a0.size : Int) > 3000 then (if 0 ≤ 3000 then (if 3000 ≤ (a0.size : Int) then (some (a0.extract 0 3000)) else (none)) else (none)) else (some a0)) = some r := h
  clear h
  by_cases c2 : (a0.size : Int) > 3000
  · rw [if_pos c2] at H
    have c2b0 : decide (3000 < (a0.size : Int)) = true := decide_eq_true c2
    have c2b1 : decide (3000 < a0.size) = true := decide_eq_true (by omega)
    clear c2
    by_cases c3 : 0 ≤ 3000
    · rw [if_pos c3] at H
      have c3b0 := eq_true c3
      have c3b1 : decide (0 ≤ 3000) = true := decide_eq_true c3
      clear c3
      by_cases c4 : 3000 ≤ (a0.size : Int)
      · rw [if_pos c4] at H
        have c4b0 := eq_true c4
        have c4b1 : decide (3000 ≤ (a0.size : Int)) = true := decide_eq_true c4
        clear c4
        obtain rfl := Option.some.inj H
        go_enter Try.func13, Try.ntmps13
        go_wp2
        go_ret
        exact ⟨by first | rfl | (simp; done) | (simp [*]; done), by repeat (first | exact Drawn0.refl _ | apply Drawn0.step)⟩
      · rw [if_neg c4] at H
        exact absurd H (by simp)
    · rw [if_neg c3] at H
      exact absurd H (by simp)
  · rw [if_neg c2] at H
    have c2b0 : decide (3000 < (a0.size : Int)) = false := decide_eq_false c2
    have c2b1 : decide (3000 < a0.size) = false := decide_eq_false (by omega)
    clear c2
    obtain rfl := Option.some.inj H
    go_enter Try.func13, Try.ntmps13
    go_wp2
    go_ret
    exact ⟨by first | rfl | (simp; done) | (simp [*]; done), by repeat (first | exact Drawn0.refl _ | apply Drawn0.step)⟩

/-! ### shibbolethlaw19_has: function 14 -/
mutual
def shibbolethlaw19_has.l0 : Nat → ByteArray → ByteArray → Int → Option (Bool)
  | 0, _, _, _ => none
  | k + 1, x0, x1, x5 => if x5 < (x0.size : Int) then (shibbolethlaw19_has.l1 k x0 x1 x5 0) else (some false)
def shibbolethlaw19_has.l1 : Nat → ByteArray → ByteArray → Int → Int → Option (Bool)
  | 0, _, _, _, _ => none
  | k + 1, x0, x1, x5, x6 => if x6 < (x1.size : Int) then (if 0 ≤ x5 then (if x5 < (x0.size : Int) then (if 0 ≤ x6 then (if (bt x0 x5) = (bt x1 x6) then (some true) else (shibbolethlaw19_has.l1 k x0 x1 x5 (wrap64 (x6 + 1)))) else (none)) else (none)) else (none)) else (shibbolethlaw19_has.l0 k x0 x1 (wrap64 (x5 + 1)))
end
def shibbolethlaw19_has.f (k : Nat) (a0 : ByteArray) (a1 : ByteArray) : Option (Bool) := shibbolethlaw19_has.l0 k a0 a1 0
theorem shibbolethlaw19_has.mono_l : ∀ k, (∀ y0 y1 y2, LeO (shibbolethlaw19_has.l0 k y0 y1 y2) (shibbolethlaw19_has.l0 (k + 1) y0 y1 y2)) ∧ (∀ y0 y1 y2 y3, LeO (shibbolethlaw19_has.l1 k y0 y1 y2 y3) (shibbolethlaw19_has.l1 (k + 1) y0 y1 y2 y3))
  | 0 => ⟨fun _ _ _ r h => by simp [shibbolethlaw19_has.l0] at h, fun _ _ _ _ r h => by simp [shibbolethlaw19_has.l1] at h⟩
  | k + 1 => by
    obtain ⟨ih0, ih1⟩ := shibbolethlaw19_has.mono_l k
    refine ⟨?_, ?_⟩
    · intro y0 y1 y2
      unfold shibbolethlaw19_has.l0
      repeat' first
      | (with_reducible exact ih0 _ _ _)
      | (with_reducible exact ih1 _ _ _ _)
      | (with_reducible exact LeO.refl _)
      | (with_reducible exact LeO.none _)
      | (with_reducible refine LeO.ite ?_ ?_)
      | (with_reducible refine LeO.bind ?_ (fun _ => ?_))
      | exact ih0 _ _ _
      | exact ih1 _ _ _ _
      | exact LeO.none _
      | refine LeO.ite ?_ ?_
      | refine LeO.bind ?_ (fun _ => ?_)
    · intro y0 y1 y2 y3
      unfold shibbolethlaw19_has.l1
      repeat' first
      | (with_reducible exact ih0 _ _ _)
      | (with_reducible exact ih1 _ _ _ _)
      | (with_reducible exact LeO.refl _)
      | (with_reducible exact LeO.none _)
      | (with_reducible refine LeO.ite ?_ ?_)
      | (with_reducible refine LeO.bind ?_ (fun _ => ?_))
      | exact ih0 _ _ _
      | exact ih1 _ _ _ _
      | exact LeO.none _
      | refine LeO.ite ?_ ?_
      | refine LeO.bind ?_ (fun _ => ?_)
theorem shibbolethlaw19_has.mono : ∀ a0 a1 k, LeO (shibbolethlaw19_has.f k a0 a1) (shibbolethlaw19_has.f (k + 1) a0 a1) := by
  intro a0 a1 k
  obtain ⟨ih0, ih1⟩ := shibbolethlaw19_has.mono_l k
  unfold shibbolethlaw19_has.f
  repeat' first
      | (with_reducible exact ih0 _ _ _)
      | (with_reducible exact ih1 _ _ _ _)
      | (with_reducible exact LeO.refl _)
      | (with_reducible exact LeO.none _)
      | (with_reducible refine LeO.ite ?_ ?_)
      | (with_reducible refine LeO.bind ?_ (fun _ => ?_))
      | exact ih0 _ _ _
      | exact ih1 _ _ _ _
      | exact LeO.none _
      | refine LeO.ite ?_ ?_
      | refine LeO.bind ?_ (fun _ => ?_)
set_option maxHeartbeats 8000000 in
set_option maxRecDepth 100000 in
theorem shibbolethlaw19_has.calls (k : Nat) (a0 : ByteArray) (a1 : ByteArray) (r : Bool) (w : World) (h : shibbolethlaw19_has.f k a0 a1 = some r) :
    Calls Try.prog 14 #[.string a0, .string a1] w fun e w' => e = .returned (.bool r) ∧ Drawn0 w w' := by
  have H : (shibbolethlaw19_has.l0 k a0 a1 0) = some r := h
  clear h
  have H' := Aside0.mk H
  clear H
  go_enter Try.func14, Try.ntmps14
  go_wp2
  repeat (go_quiet (fail); try go_wp2)
  go_loopg [5] k (fun kq v5 w' => ∃ (x5_1 : Int), v5 = .int .i64 x5_1 ∧ Aside0 (shibbolethlaw19_has.l0 kq a0 a1 x5_1 = some r) ∧ Aside0 (kq ≤ k) ∧ Drawn0 w w')
  case atStart => exact ⟨(0), (by first | rfl | (simp; done) | (simp [*]; done)), H', ⟨Nat.le_refl _⟩, by repeat (first | exact Drawn0.refl _ | apply Drawn0.step)⟩
  case round =>
    clear H'
    try clear c1
    try clear p2
    obtain ⟨x5_1, rfl, HA, HK1, ⟨m1, rfl⟩⟩ := hrel
    cases gk with
    | zero => exact absurd HA.out (by simp [shibbolethlaw19_has.l0])
    | succ k1 =>
      have H := HA.out
      clear HA
      simp only [shibbolethlaw19_has.l0] at H
      by_cases c3 : x5_1 < (a0.size : Int)
      · rw [if_pos c3] at H
        have c3b0 : decide (x5_1 < (a0.size : Int)) = true := decide_eq_true c3
        clear c3
        have H' := Aside0.mk H
        clear H
        go_wp2
        repeat (go_quiet (fail); try go_wp2)
        go_loopg [6] k1 (fun kq v6 w' => ∃ (x6_2 : Int), v6 = .int .i64 x6_2 ∧ Aside0 (shibbolethlaw19_has.l1 kq a0 a1 x5_1 x6_2 = some r) ∧ Aside0 (kq ≤ k1) ∧ Drawn0 w w')
        case atStart => exact ⟨(0), (by first | rfl | (simp; done) | (simp [*]; done)), H', ⟨Nat.le_refl _⟩, by repeat (first | exact Drawn0.refl _ | apply Drawn0.step)⟩
        case round =>
          clear H'
          try clear c1
          try clear p2
          try clear c3
          try clear c3b0
          try clear p2
          obtain ⟨x6_2, rfl, HA, HK2, ⟨m2, rfl⟩⟩ := hrel
          cases gk with
          | zero => exact absurd HA.out (by simp [shibbolethlaw19_has.l1])
          | succ k2 =>
            have H := HA.out
            clear HA
            simp only [shibbolethlaw19_has.l1] at H
            by_cases c4 : x6_2 < (a1.size : Int)
            · rw [if_pos c4] at H
              have c4b0 : decide (x6_2 < (a1.size : Int)) = true := decide_eq_true c4
              clear c4
              by_cases c5 : 0 ≤ x5_1
              · rw [if_pos c5] at H
                have c5b0 : decide (0 ≤ x5_1) = true := decide_eq_true c5
                clear c5
                by_cases c6 : x5_1 < (a0.size : Int)
                · rw [if_pos c6] at H
                  have c6b0 : decide (x5_1 < (a0.size : Int)) = true := decide_eq_true c6
                  clear c6
                  by_cases c8 : 0 ≤ x6_2
                  · rw [if_pos c8] at H
                    have c8b0 : decide (0 ≤ x6_2) = true := decide_eq_true c8
                    clear c8
                    by_cases c10 : (bt a0 x5_1) = (bt a1 x6_2)
                    · rw [if_pos c10] at H
                      have c10b0 : ((bt a0 x5_1) == (bt a1 x6_2)) = true := beq_iff_eq.mpr c10
                      have c10b1 : ((bt a0 x5_1) != (bt a1 x6_2)) = false := bne_eq_false_iff_eq.mpr c10
                      clear c10
                      obtain rfl := Option.some.inj H
                      have p7 : 0 ≤ (x5_1 : Int) := of_decide_eq_true (by first | (with_reducible assumption) | assumption)
                      have q7 : x5_1 < (a0.size : Int) := of_decide_eq_true (by first | (with_reducible assumption) | assumption)
                      have hx7 := bt_at a0 x5_1
                      replace p7 := eq_true p7
                      replace q7 := eq_true q7
                      have p9 : 0 ≤ (x6_2 : Int) := of_decide_eq_true (by first | (with_reducible assumption) | assumption)
                      have q9 : x6_2 < (a1.size : Int) := of_decide_eq_true (by first | (with_reducible assumption) | assumption)
                      have hx9 := bt_at a1 x6_2
                      replace p9 := eq_true p9
                      replace q9 := eq_true q9
                      go_wp2
                      repeat (go_quiet (fail); try go_wp2)
                      go_ret
                      exact ⟨by first | rfl | (simp; done) | (simp [*]; done), by repeat (first | exact Drawn0.refl _ | apply Drawn0.step)⟩
                    · rw [if_neg c10] at H
                      have c10b0 : ((bt a0 x5_1) == (bt a1 x6_2)) = false := beq_eq_false_iff_ne.mpr c10
                      have c10b1 : ((bt a0 x5_1) != (bt a1 x6_2)) = true := bne_iff_ne.mpr c10
                      have H' := Aside0.mk H
                      clear H
                      have p7 : 0 ≤ (x5_1 : Int) := of_decide_eq_true (by first | (with_reducible assumption) | assumption)
                      have q7 : x5_1 < (a0.size : Int) := of_decide_eq_true (by first | (with_reducible assumption) | assumption)
                      have hx7 := bt_at a0 x5_1
                      replace p7 := eq_true p7
                      replace q7 := eq_true q7
                      have p9 : 0 ≤ (x6_2 : Int) := of_decide_eq_true (by first | (with_reducible assumption) | assumption)
                      have q9 : x6_2 < (a1.size : Int) := of_decide_eq_true (by first | (with_reducible assumption) | assumption)
                      have hx9 := bt_at a1 x6_2
                      replace p9 := eq_true p9
                      replace q9 := eq_true q9
                      go_wp2
                      repeat (go_quiet (fail); try go_wp2)
                      go_roundg k2
                      case measure => have := HK1.out; have := HK2.out; omega
                      case rel => exact ⟨(wrap64 (x6_2 + 1)), (by first | rfl | (simp; done) | (simp [*]; done)), H', ⟨by have := HK1.out; have := HK2.out; omega⟩, by repeat (first | exact Drawn0.refl _ | apply Drawn0.step)⟩
                  · rw [if_neg c8] at H
                    exact absurd H (by simp)
                · rw [if_neg c6] at H
                  exact absurd H (by simp)
              · rw [if_neg c5] at H
                exact absurd H (by simp)
            · rw [if_neg c4] at H
              have c4b0 : decide (x6_2 < (a1.size : Int)) = false := decide_eq_false c4
              clear c4
              have H' := Aside0.mk H
              clear H
              go_wp2
              repeat (go_quiet (fail); try go_wp2)
              go_roundg k2
              case measure => have := HK1.out; have := HK2.out; omega
              case rel => exact ⟨(wrap64 (x5_1 + 1)), (by first | rfl | (simp; done) | (simp [*]; done)), H', ⟨by have := HK1.out; have := HK2.out; omega⟩, by repeat (first | exact Drawn0.refl _ | apply Drawn0.step)⟩
      · rw [if_neg c3] at H
        have c3b0 : decide (x5_1 < (a0.size : Int)) = false := decide_eq_false c3
        clear c3
        obtain rfl := Option.some.inj H
        go_wp2
        repeat (go_quiet (fail); try go_wp2)
        go_ret
        exact ⟨by first | rfl | (simp; done) | (simp [*]; done), by repeat (first | exact Drawn0.refl _ | apply Drawn0.step)⟩

end Go.Proofs.Ytiihgddpejmehaa.ZA

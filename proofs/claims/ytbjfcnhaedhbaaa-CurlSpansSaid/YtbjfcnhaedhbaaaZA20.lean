/- My own print (tools/mp.py) of functions of this seat: each function as a plain Lean function, and the proof that the code does what that function says. -/
import Derived.Test.YtbjfcnhaedhbaaaZA0
import Derived.Test.YtbjfcnhaedhbaaaZA1
import Derived.Test.YtbjfcnhaedhbaaaZA14
import Derived.Test.YtbjfcnhaedhbaaaZA19
namespace Go.Proofs.Ytbjfcnhaedhbaaa.ZA
open Go.RowKit Go.Proofs.YtbjfcnhaedhbaaaW.PrintWords Go.Proofs.YtbjfcnhaedhbaaaW.PrintLast Go.Proofs.YtbjfcnhaedhbaaaW.PrintMore
attribute [local go_sem] max2_int min2_int max_two min_two max_three min_three max_four min_four   -- for this text's walks alone
set_option linter.unusedVariables false
set_option linter.unusedSimpArgs false

attribute [local go_sem high] eqA24
/-! ### shibbolethlaw22_CurlParses: function 7 -/
def shibbolethlaw22_CurlParses.f (k : Nat) (a0 : ByteArray) : Option (Bool) := if (a0.size : Int) > 400 then ((shibbolethlaw22_awake.f k).bind fun t450 => (some t450)) else ((curl_Parse.f k a0).bind fun bt451 => ((shibbolethref22_Parse.f k a0).bind fun bt454 => (if (bt451.1 == bt454.1 && (bt451.2.1.toList == bt454.2.1.toList && (bt451.2.2.toList == bt454.2.2.toList))) = true then ((shibbolethlaw22_awake.f k).bind fun t457 => (some t457)) else (some false))))
theorem shibbolethlaw22_CurlParses.mono : ∀ a0 k, LeO (shibbolethlaw22_CurlParses.f k a0) (shibbolethlaw22_CurlParses.f (k + 1) a0) := by
  intro a0 k
  unfold shibbolethlaw22_CurlParses.f
  repeat' first
      | (with_reducible exact curl_Parse.mono _ _)
      | (with_reducible exact shibbolethlaw22_awake.mono _)
      | (with_reducible exact shibbolethref22_Parse.mono _ _)
      | (with_reducible exact LeO.refl _)
      | (with_reducible exact LeO.none _)
      | (with_reducible refine LeO.ite ?_ ?_)
      | (with_reducible refine LeO.bind ?_ (fun _ => ?_))
      | exact curl_Parse.mono _ _
      | exact shibbolethlaw22_awake.mono _
      | exact shibbolethref22_Parse.mono _ _
      | exact LeO.none _
      | refine LeO.ite ?_ ?_
      | refine LeO.bind ?_ (fun _ => ?_)
set_option maxHeartbeats 8000000 in
set_option maxRecDepth 100000 in
theorem shibbolethlaw22_CurlParses.calls (k : Nat) (a0 : ByteArray) (r : Bool) (w : World) (h : shibbolethlaw22_CurlParses.f k a0 = some r) :
    Calls Try.prog 7 #[.string a0] w fun e w' => e = .returned (.bool r) ∧ Below w.heap.size w w' := by
  have HB := Aside0.mk (Below.refl w.heap.size w)
  have H : (if (a0.size : Int) > 400 then ((shibbolethlaw22_awake.f k).bind fun t450 => (some t450)) else ((curl_Parse.f k a0).bind fun bt451 => ((shibbolethref22_Parse.f k a0).bind fun bt454 => (if (bt451.1 == bt454.1 && (bt451.2.1.toList == bt454.2.1.toList && (bt451.2.2.toList == bt454.2.2.toList))) = true then ((shibbolethlaw22_awake.f k).bind fun t457 => (some t457)) else (some false))))) = some r := h
  clear h
  by_cases c2 : (a0.size : Int) > 400
  · rw [if_pos c2] at H
    have c2b0 : decide (400 < (a0.size : Int)) = true := decide_eq_true c2
    have c2b1 : decide (400 < a0.size) = true := decide_eq_true (by omega)
    clear c2
    replace H := Option.bind_eq_some_iff.mp H
    obtain ⟨t450, A30, H⟩ := H
    replace H : (some t450) = some r := H
    have A3 := Aside0.mk A30
    clear A30
    obtain rfl := Option.some.inj H
    go_enter Try.func7, Try.ntmps7
    go_wp2_with (first | ((with_reducible refine gate_callee (f := 17) rfl ?_); refine goesL_ (some 6) rfl rfl Try.func17 (by kernel_rfl) rfl #[] rfl (by (try simp only [List.map_toArray, List.map_cons, List.map_nil]); first | done | rfl | (simp only [List.length_drop, List.length_take]; rfl)) ?_; (with_reducible refine (shibbolethlaw22_awake.calls k  t450 _ A3.out).mono ?_); rintro e w4 ⟨rfl, hb⟩; refine ⟨_, rfl, ?_⟩; have n0_ := Aside0.mk (below_step (by repeat (first | (with_reducible first | exact HB.out | apply below_alloc | apply pw_below_drewN | apply below_drew1) | exact HB.out)) hb); clear HB; have HB := n0_; clear n0_; (try clear hb); (try clear hb2); (try clear hk); (try clear hi)))
    go_ret
    exact ⟨by first | rfl | (simp [errW_none, errW_some] <;> rfl) | (simp [*, errW_none, errW_some] <;> rfl), by repeat (first | (with_reducible first | exact HB.out | apply below_alloc | apply pw_below_drewN | apply below_drew1) | exact HB.out)⟩
  · rw [if_neg c2] at H
    have c2b0 : decide (400 < (a0.size : Int)) = false := decide_eq_false c2
    have c2b1 : decide (400 < a0.size) = false := decide_eq_false (by omega)
    clear c2
    replace H := Option.bind_eq_some_iff.mp H
    obtain ⟨⟨t451, t452, t453⟩, A50, H⟩ := H
    replace H : ((shibbolethref22_Parse.f k a0).bind fun bt454 => (if (t451 == bt454.1 && (t452.toList == bt454.2.1.toList && (t453.toList == bt454.2.2.toList))) = true then ((shibbolethlaw22_awake.f k).bind fun t457 => (some t457)) else (some false))) = some r := H
    have A5 := Aside0.mk A50
    clear A50
    replace H := Option.bind_eq_some_iff.mp H
    obtain ⟨⟨t454, t455, t456⟩, A60, H⟩ := H
    replace H : (if (t451 == t454 && (t452.toList == t455.toList && (t453.toList == t456.toList))) = true then ((shibbolethlaw22_awake.f k).bind fun t457 => (some t457)) else (some false)) = some r := H
    have A6 := Aside0.mk A60
    clear A60
    by_cases c7 : (t451 == t454 && (t452.toList == t455.toList && (t453.toList == t456.toList))) = true
    · rw [if_pos c7] at H
      have c7b0 : (t451 == t454 && (t452.toList == t455.toList && (t453.toList == t456.toList))) = true := c7
      (try (have c7b1 : decide (t451 = t454 && (t452.toList == t455.toList && (t453.toList == t456.toList))) = true := by simpa using c7))
      (try (have c7b2 : (t451 == t454 && (t452.toList == t455.toList && (t453.toList == t456.toList))) = true := by simpa using c7))
      clear c7
      replace H := Option.bind_eq_some_iff.mp H
      obtain ⟨t457, A80, H⟩ := H
      replace H : (some t457) = some r := H
      have A8 := Aside0.mk A80
      clear A80
      obtain rfl := Option.some.inj H
      go_enter Try.func7, Try.ntmps7
      go_wp2_with (first | ((with_reducible refine gate_callee (f := 18) rfl ?_); refine goesL_ (some 8) rfl rfl Try.func18 (by kernel_rfl) rfl #[.string a0] rfl (by (try simp only [List.map_toArray, List.map_cons, List.map_nil]); first | done | rfl | (simp only [List.length_drop, List.length_take]; rfl)) ?_; (with_reducible refine (curl_Parse.calls k a0 t451 t452 t453 _ A5.out).mono ?_); rintro e w9 ⟨rfl, hb⟩; refine ⟨_, rfl, ?_⟩; have n0_ := Aside0.mk (below_step (by repeat (first | (with_reducible first | exact HB.out | apply below_alloc | apply pw_below_drewN | apply below_drew1) | exact HB.out)) hb); clear HB; have HB := n0_; clear n0_; (try clear hb); (try clear hb2); (try clear hk); (try clear hi)) | ((with_reducible refine gate_callee (f := 19) rfl ?_); refine goesL_ (some 10) rfl rfl Try.func19 (by kernel_rfl) rfl #[.string a0] rfl (by (try simp only [List.map_toArray, List.map_cons, List.map_nil]); first | done | rfl | (simp only [List.length_drop, List.length_take]; rfl)) ?_; (with_reducible refine (shibbolethref22_Parse.calls k a0 t454 t455 t456 _ A6.out).mono ?_); rintro e w10 ⟨rfl, hb⟩; refine ⟨_, rfl, ?_⟩; have n0_ := Aside0.mk (below_step (by repeat (first | (with_reducible first | exact HB.out | apply below_alloc | apply pw_below_drewN | apply below_drew1) | exact HB.out)) hb); clear HB; have HB := n0_; clear n0_; (try clear hb); (try clear hb2); (try clear hk); (try clear hi)) | (go_at_call 17; (with_reducible refine (shibbolethlaw22_awake.calls k  t457 _ A8.out).mono ?_); rintro e w11 ⟨rfl, hb⟩; have n0_ := Aside0.mk (below_step (by repeat (first | (with_reducible first | exact HB.out | apply below_alloc | apply pw_below_drewN | apply below_drew1) | exact HB.out)) hb); clear HB; have HB := n0_; clear n0_; (try clear hb); (try clear hb2); (try clear hk); (try clear hi)))
      go_ret
      exact ⟨by first | rfl | (simp [errW_none, errW_some] <;> rfl) | (simp [*, errW_none, errW_some] <;> rfl), by repeat (first | (with_reducible first | exact HB.out | apply below_alloc | apply pw_below_drewN | apply below_drew1) | exact HB.out)⟩
    · rw [if_neg c7] at H
      have c7b0 : (t451 == t454 && (t452.toList == t455.toList && (t453.toList == t456.toList))) = false := by simpa using c7
      (try (have c7b1 : decide (t451 = t454 && (t452.toList == t455.toList && (t453.toList == t456.toList))) = false := by simpa using c7))
      (try (have c7b2 : (t451 == t454 && (t452.toList == t455.toList && (t453.toList == t456.toList))) = false := by simpa using c7))
      (try (have c7b3 : ¬ (t451 = t454 && (t452.toList == t455.toList && (t453.toList == t456.toList))) := by simpa using c7))
      clear c7
      obtain rfl := Option.some.inj H
      go_enter Try.func7, Try.ntmps7
      go_wp2_with (first | ((with_reducible refine gate_callee (f := 18) rfl ?_); refine goesL_ (some 8) rfl rfl Try.func18 (by kernel_rfl) rfl #[.string a0] rfl (by (try simp only [List.map_toArray, List.map_cons, List.map_nil]); first | done | rfl | (simp only [List.length_drop, List.length_take]; rfl)) ?_; (with_reducible refine (curl_Parse.calls k a0 t451 t452 t453 _ A5.out).mono ?_); rintro e w12 ⟨rfl, hb⟩; refine ⟨_, rfl, ?_⟩; have n0_ := Aside0.mk (below_step (by repeat (first | (with_reducible first | exact HB.out | apply below_alloc | apply pw_below_drewN | apply below_drew1) | exact HB.out)) hb); clear HB; have HB := n0_; clear n0_; (try clear hb); (try clear hb2); (try clear hk); (try clear hi)) | ((with_reducible refine gate_callee (f := 19) rfl ?_); refine goesL_ (some 10) rfl rfl Try.func19 (by kernel_rfl) rfl #[.string a0] rfl (by (try simp only [List.map_toArray, List.map_cons, List.map_nil]); first | done | rfl | (simp only [List.length_drop, List.length_take]; rfl)) ?_; (with_reducible refine (shibbolethref22_Parse.calls k a0 t454 t455 t456 _ A6.out).mono ?_); rintro e w13 ⟨rfl, hb⟩; refine ⟨_, rfl, ?_⟩; have n0_ := Aside0.mk (below_step (by repeat (first | (with_reducible first | exact HB.out | apply below_alloc | apply pw_below_drewN | apply below_drew1) | exact HB.out)) hb); clear HB; have HB := n0_; clear n0_; (try clear hb); (try clear hb2); (try clear hk); (try clear hi)))
      go_ret
      exact ⟨by first | rfl | (simp [errW_none, errW_some] <;> rfl) | (simp [*, errW_none, errW_some] <;> rfl), by repeat (first | (with_reducible first | exact HB.out | apply below_alloc | apply pw_below_drewN | apply below_drew1) | exact HB.out)⟩

/-- THE ONE PURE STATEMENT of shibbolethlaw22_CurlParses: yours. -/
def shibbolethlaw22_CurlParses.Pure : Prop := ∀ (a0 : ByteArray), a0.size ≤ 140737488351232 → ∃ k, shibbolethlaw22_CurlParses.f k a0 = some true
theorem shibbolethlaw22_CurlParses.walk (P : shibbolethlaw22_CurlParses.Pure) (a0 : ByteArray) (w : World) (w0 : a0.size ≤ 140737488351232) :
    Calls Try.prog 7 #[.string a0] w fun e w' => e = .returned (.bool true) ∧ Below w.heap.size w w' := by
  obtain ⟨k, h⟩ := P a0 w0
  refine (shibbolethlaw22_CurlParses.calls k a0 true w h).mono ?_
  rintro e w' ⟨rfl, hd⟩
  exact ⟨rfl, hd⟩

/-! ### shibbolethlaw22_CurlSpans: function 9 -/
mutual
def shibbolethlaw22_CurlSpans.l0 : Nat → ByteArray → Int → Bool → ByteArray → ByteArray → Option (Bool)
  | 0, _, _, _, _, _ => none
  | k + 1, x0, x4, x463000, x463001, x463002 => if (wrap64 (x4 + (x463001.size : Int))) ≤ (x0.size : Int) then (if 0 ≤ x4 then (if x4 ≤ (wrap64 (x4 + (x463001.size : Int))) then (if (x0.extract (x4 : Int).toNat ((wrap64 (x4 + (x463001.size : Int))) : Int).toNat).toList = x463001.toList then (shibbolethlaw22_CurlSpans.l1 k x0 x4 (wrap64 (x4 + (x463001.size : Int))) x463000 x463001 x463002) else (shibbolethlaw22_CurlSpans.l0 k x0 (wrap64 (x4 + 1)) x463000 x463001 x463002)) else (none)) else (none)) else (some false)
def shibbolethlaw22_CurlSpans.l1 : Nat → ByteArray → Int → Int → Bool → ByteArray → ByteArray → Option (Bool)
  | 0, _, _, _, _, _, _ => none
  | k + 1, x0, x4, x5, x463000, x463001, x463002 => if (wrap64 (x5 + (x463002.size : Int))) ≤ (x0.size : Int) then (if 0 ≤ x5 then (if x5 ≤ (wrap64 (x5 + (x463002.size : Int))) then (if (x0.extract (x5 : Int).toNat ((wrap64 (x5 + (x463002.size : Int))) : Int).toNat).toList = x463002.toList then ((shibbolethlaw22_awake.f k).bind fun t464 => (some t464)) else (shibbolethlaw22_CurlSpans.l1 k x0 x4 (wrap64 (x5 + 1)) x463000 x463001 x463002)) else (none)) else (none)) else (shibbolethlaw22_CurlSpans.l0 k x0 (wrap64 (x4 + 1)) x463000 x463001 x463002)
end
def shibbolethlaw22_CurlSpans.f (k : Nat) (a0 : ByteArray) : Option (Bool) := if (a0.size : Int) > 300 then ((shibbolethlaw22_awake.f k).bind fun t458 => (some t458)) else ((curl_Parse.f k a0).bind fun bt459 => (if bt459.1 = true then (if bt459.2.1.toList = ([] : List UInt8) then (some false) else (shibbolethlaw22_CurlSpans.l0 k a0 0 bt459.1 bt459.2.1 bt459.2.2)) else (if (!bt459.1 && (bt459.2.1.toList == ([] : List UInt8) && (bt459.2.2.toList == ([] : List UInt8)))) = true then ((shibbolethlaw22_awake.f k).bind fun t463 => (some t463)) else (some false))))
theorem shibbolethlaw22_CurlSpans.mono_l : ∀ k, (∀ y0 y1 y2 y3 y4, LeO (shibbolethlaw22_CurlSpans.l0 k y0 y1 y2 y3 y4) (shibbolethlaw22_CurlSpans.l0 (k + 1) y0 y1 y2 y3 y4)) ∧ (∀ y0 y1 y2 y3 y4 y5, LeO (shibbolethlaw22_CurlSpans.l1 k y0 y1 y2 y3 y4 y5) (shibbolethlaw22_CurlSpans.l1 (k + 1) y0 y1 y2 y3 y4 y5))
  | 0 => ⟨fun _ _ _ _ _ r h => by simp [shibbolethlaw22_CurlSpans.l0] at h, fun _ _ _ _ _ _ r h => by simp [shibbolethlaw22_CurlSpans.l1] at h⟩
  | k + 1 => by
    obtain ⟨ih0, ih1⟩ := shibbolethlaw22_CurlSpans.mono_l k
    refine ⟨?_, ?_⟩
    · intro y0 y1 y2 y3 y4
      unfold shibbolethlaw22_CurlSpans.l0
      repeat' first
      | (with_reducible exact ih0 _ _ _ _ _)
      | (with_reducible exact ih1 _ _ _ _ _ _)
      | (with_reducible exact curl_Parse.mono _ _)
      | (with_reducible exact shibbolethlaw22_awake.mono _)
      | (with_reducible exact LeO.refl _)
      | (with_reducible exact LeO.none _)
      | (with_reducible refine LeO.ite ?_ ?_)
      | (with_reducible refine LeO.bind ?_ (fun _ => ?_))
      | exact ih0 _ _ _ _ _
      | exact ih1 _ _ _ _ _ _
      | exact curl_Parse.mono _ _
      | exact shibbolethlaw22_awake.mono _
      | exact LeO.none _
      | refine LeO.ite ?_ ?_
      | refine LeO.bind ?_ (fun _ => ?_)
    · intro y0 y1 y2 y3 y4 y5
      unfold shibbolethlaw22_CurlSpans.l1
      repeat' first
      | (with_reducible exact ih0 _ _ _ _ _)
      | (with_reducible exact ih1 _ _ _ _ _ _)
      | (with_reducible exact curl_Parse.mono _ _)
      | (with_reducible exact shibbolethlaw22_awake.mono _)
      | (with_reducible exact LeO.refl _)
      | (with_reducible exact LeO.none _)
      | (with_reducible refine LeO.ite ?_ ?_)
      | (with_reducible refine LeO.bind ?_ (fun _ => ?_))
      | exact ih0 _ _ _ _ _
      | exact ih1 _ _ _ _ _ _
      | exact curl_Parse.mono _ _
      | exact shibbolethlaw22_awake.mono _
      | exact LeO.none _
      | refine LeO.ite ?_ ?_
      | refine LeO.bind ?_ (fun _ => ?_)
theorem shibbolethlaw22_CurlSpans.mono : ∀ a0 k, LeO (shibbolethlaw22_CurlSpans.f k a0) (shibbolethlaw22_CurlSpans.f (k + 1) a0) := by
  intro a0 k
  obtain ⟨ih0, ih1⟩ := shibbolethlaw22_CurlSpans.mono_l k
  unfold shibbolethlaw22_CurlSpans.f
  repeat' first
      | (with_reducible exact ih0 _ _ _ _ _)
      | (with_reducible exact ih1 _ _ _ _ _ _)
      | (with_reducible exact curl_Parse.mono _ _)
      | (with_reducible exact shibbolethlaw22_awake.mono _)
      | (with_reducible exact LeO.refl _)
      | (with_reducible exact LeO.none _)
      | (with_reducible refine LeO.ite ?_ ?_)
      | (with_reducible refine LeO.bind ?_ (fun _ => ?_))
      | exact ih0 _ _ _ _ _
      | exact ih1 _ _ _ _ _ _
      | exact curl_Parse.mono _ _
      | exact shibbolethlaw22_awake.mono _
      | exact LeO.none _
      | refine LeO.ite ?_ ?_
      | refine LeO.bind ?_ (fun _ => ?_)
set_option maxHeartbeats 8000000 in
set_option maxRecDepth 100000 in
theorem shibbolethlaw22_CurlSpans.calls (k : Nat) (a0 : ByteArray) (r : Bool) (w : World) (h : shibbolethlaw22_CurlSpans.f k a0 = some r) :
    Calls Try.prog 9 #[.string a0] w fun e w' => e = .returned (.bool r) ∧ Below w.heap.size w w' := by
  have hu24 := Try.underlying24
  have HB := Aside0.mk (Below.refl w.heap.size w)
  have H : (if (a0.size : Int) > 300 then ((shibbolethlaw22_awake.f k).bind fun t458 => (some t458)) else ((curl_Parse.f k a0).bind fun bt459 => (if bt459.1 = true then (if bt459.2.1.toList = ([] : List UInt8) then (some false) else (shibbolethlaw22_CurlSpans.l0 k a0 0 bt459.1 bt459.2.1 bt459.2.2)) else (if (!bt459.1 && (bt459.2.1.toList == ([] : List UInt8) && (bt459.2.2.toList == ([] : List UInt8)))) = true then ((shibbolethlaw22_awake.f k).bind fun t463 => (some t463)) else (some false))))) = some r := h
  clear h
  by_cases c2 : (a0.size : Int) > 300
  · rw [if_pos c2] at H
    have c2b0 : decide (300 < (a0.size : Int)) = true := decide_eq_true c2
    have c2b1 : decide (300 < a0.size) = true := decide_eq_true (by omega)
    clear c2
    replace H := Option.bind_eq_some_iff.mp H
    obtain ⟨t458, A30, H⟩ := H
    replace H : (some t458) = some r := H
    have A3 := Aside0.mk A30
    clear A30
    obtain rfl := Option.some.inj H
    go_enter Try.func9, Try.ntmps9
    go_wp2_with (first | (go_at_call 17; (with_reducible refine (shibbolethlaw22_awake.calls k  t458 _ A3.out).mono ?_); rintro e w4 ⟨rfl, hb⟩; have n0_ := Aside0.mk (below_step (by repeat (first | (with_reducible first | exact HB.out | apply below_alloc | apply pw_below_drewN | apply below_drew1) | exact HB.out)) hb); clear HB; have HB := n0_; clear n0_; (try clear hb); (try clear hb2); (try clear hk); (try clear hi)))
    repeat (go_quiet (first | (go_at_call 17; (with_reducible refine (shibbolethlaw22_awake.calls k  t458 _ A3.out).mono ?_); rintro e w4 ⟨rfl, hb⟩; have n0_ := Aside0.mk (below_step (by repeat (first | (with_reducible first | exact HB.out | apply below_alloc | apply pw_below_drewN | apply below_drew1) | exact HB.out)) hb); clear HB; have HB := n0_; clear n0_; (try clear hb); (try clear hb2); (try clear hk); (try clear hi))); try go_wp2_with (first | (go_at_call 17; (with_reducible refine (shibbolethlaw22_awake.calls k  t458 _ A3.out).mono ?_); rintro e w4 ⟨rfl, hb⟩; have n0_ := Aside0.mk (below_step (by repeat (first | (with_reducible first | exact HB.out | apply below_alloc | apply pw_below_drewN | apply below_drew1) | exact HB.out)) hb); clear HB; have HB := n0_; clear n0_; (try clear hb); (try clear hb2); (try clear hk); (try clear hi))))
    go_ret
    exact ⟨by first | rfl | (simp [errW_none, errW_some] <;> rfl) | (simp [*, errW_none, errW_some] <;> rfl), by repeat (first | (with_reducible first | exact HB.out | apply below_alloc | apply pw_below_drewN | apply below_drew1) | exact HB.out)⟩
  · rw [if_neg c2] at H
    have c2b0 : decide (300 < (a0.size : Int)) = false := decide_eq_false c2
    have c2b1 : decide (300 < a0.size) = false := decide_eq_false (by omega)
    clear c2
    replace H := Option.bind_eq_some_iff.mp H
    obtain ⟨⟨t459, t460, t461⟩, A50, H⟩ := H
    replace H : (if t459 = true then (if t460.toList = ([] : List UInt8) then (some false) else (shibbolethlaw22_CurlSpans.l0 k a0 0 t459 t460 t461)) else (if (!t459 && (t460.toList == ([] : List UInt8) && (t461.toList == ([] : List UInt8)))) = true then ((shibbolethlaw22_awake.f k).bind fun t463 => (some t463)) else (some false))) = some r := H
    have A5 := Aside0.mk A50
    clear A50
    by_cases c6 : t459 = true
    · subst c6
      have H1 : (if t460.toList = ([] : List UInt8) then (some false) else (shibbolethlaw22_CurlSpans.l0 k a0 0 true t460 t461)) = some r := by rw [if_pos rfl] at H; exact H
      clear H
      have H := H1
      clear H1
      by_cases c7 : t460.toList = ([] : List UInt8)
      · rw [if_pos c7] at H
        have c7b0 : (t460.toList == ([] : List UInt8)) = true := beq_iff_eq.mpr c7
        have c7b1 : (t460.toList != ([] : List UInt8)) = false := bne_eq_false_iff_eq.mpr c7
        clear c7
        obtain rfl := Option.some.inj H
        go_enter Try.func9, Try.ntmps9
        go_wp2_with (first | (go_at_call 18; (with_reducible refine (curl_Parse.calls k a0 true t460 t461 _ A5.out).mono ?_); rintro e w8 ⟨rfl, hb⟩; have n0_ := Aside0.mk (below_step (by repeat (first | (with_reducible first | exact HB.out | apply below_alloc | apply pw_below_drewN | apply below_drew1) | exact HB.out)) hb); clear HB; have HB := n0_; clear n0_; (try clear hb); (try clear hb2); (try clear hk); (try clear hi)) | ((with_reducible refine gate_dst (N := 3) rfl ?_); refine box_event ?hg (N := 3) ?hd (cs := #[.bool false, .string (⟨#[]⟩ : ByteArray), .string (⟨#[]⟩ : ByteArray)]) (t := 24) ?hr ?_; (case hd => rfl); (case hg => rfl); (case hr => first | (go_simp; done) | (go_simp; rfl)); intro gb462 hg w9 hbox hb; have n0_ := Aside0.mk (below_step (by repeat (first | (with_reducible first | exact HB.out | apply below_alloc | apply pw_below_drewN | apply below_drew1) | exact HB.out)) hb); have n1_ := Aside0.mk (hbox); have n2_ := Aside0.mk ((by rw [hg]; exact (below_size (by repeat (first | (with_reducible first | exact HB.out | apply below_alloc | apply pw_below_drewN | apply below_drew1) | exact HB.out))) : w.heap.size ≤ gb462)); have n3_ := Aside0.mk ((by rw [hg]; exact (below_size (by repeat (first | (with_reducible first | exact HB.out | apply below_alloc | apply pw_below_drewN | apply below_drew1) | exact HB.out))) : w.heap.size ≤ gb462)); clear HB; have HB := n0_; have BK462 := n1_; have GW462 := n2_; have GE462 := n3_; clear n0_ n1_ n2_ n3_; clear hb hbox hg; have hcz10_0 : w9.cell? ⟨gb462, 0, none⟩ = some (.bool false) := (blk_cell BK462.out 0).trans rfl; have hcz10_1 : w9.cell? ⟨gb462, 1, none⟩ = some (.string (⟨#[]⟩ : ByteArray)) := (blk_cell BK462.out 1).trans rfl; have hcz10_2 : w9.cell? ⟨gb462, 2, none⟩ = some (.string (⟨#[]⟩ : ByteArray)) := (blk_cell BK462.out 2).trans rfl; have hfz10_0 := blk_frozen BK462.out 0; have hfz10_1 := blk_frozen BK462.out 1; have hfz10_2 := blk_frozen BK462.out 2))
        repeat (go_quiet (first | (go_at_call 18; (with_reducible refine (curl_Parse.calls k a0 true t460 t461 _ A5.out).mono ?_); rintro e w8 ⟨rfl, hb⟩; have n0_ := Aside0.mk (below_step (by repeat (first | (with_reducible first | exact HB.out | apply below_alloc | apply pw_below_drewN | apply below_drew1) | exact HB.out)) hb); clear HB; have HB := n0_; clear n0_; (try clear hb); (try clear hb2); (try clear hk); (try clear hi)) | ((with_reducible refine gate_dst (N := 3) rfl ?_); refine box_event ?hg (N := 3) ?hd (cs := #[.bool false, .string (⟨#[]⟩ : ByteArray), .string (⟨#[]⟩ : ByteArray)]) (t := 24) ?hr ?_; (case hd => rfl); (case hg => rfl); (case hr => first | (go_simp; done) | (go_simp; rfl)); intro gb462 hg w9 hbox hb; have n0_ := Aside0.mk (below_step (by repeat (first | (with_reducible first | exact HB.out | apply below_alloc | apply pw_below_drewN | apply below_drew1) | exact HB.out)) hb); have n1_ := Aside0.mk (hbox); have n2_ := Aside0.mk ((by rw [hg]; exact (below_size (by repeat (first | (with_reducible first | exact HB.out | apply below_alloc | apply pw_below_drewN | apply below_drew1) | exact HB.out))) : w.heap.size ≤ gb462)); have n3_ := Aside0.mk ((by rw [hg]; exact (below_size (by repeat (first | (with_reducible first | exact HB.out | apply below_alloc | apply pw_below_drewN | apply below_drew1) | exact HB.out))) : w.heap.size ≤ gb462)); clear HB; have HB := n0_; have BK462 := n1_; have GW462 := n2_; have GE462 := n3_; clear n0_ n1_ n2_ n3_; clear hb hbox hg; have hcz10_0 : w9.cell? ⟨gb462, 0, none⟩ = some (.bool false) := (blk_cell BK462.out 0).trans rfl; have hcz10_1 : w9.cell? ⟨gb462, 1, none⟩ = some (.string (⟨#[]⟩ : ByteArray)) := (blk_cell BK462.out 1).trans rfl; have hcz10_2 : w9.cell? ⟨gb462, 2, none⟩ = some (.string (⟨#[]⟩ : ByteArray)) := (blk_cell BK462.out 2).trans rfl; have hfz10_0 := blk_frozen BK462.out 0; have hfz10_1 := blk_frozen BK462.out 1; have hfz10_2 := blk_frozen BK462.out 2)); try go_wp2_with (first | (go_at_call 18; (with_reducible refine (curl_Parse.calls k a0 true t460 t461 _ A5.out).mono ?_); rintro e w8 ⟨rfl, hb⟩; have n0_ := Aside0.mk (below_step (by repeat (first | (with_reducible first | exact HB.out | apply below_alloc | apply pw_below_drewN | apply below_drew1) | exact HB.out)) hb); clear HB; have HB := n0_; clear n0_; (try clear hb); (try clear hb2); (try clear hk); (try clear hi)) | ((with_reducible refine gate_dst (N := 3) rfl ?_); refine box_event ?hg (N := 3) ?hd (cs := #[.bool false, .string (⟨#[]⟩ : ByteArray), .string (⟨#[]⟩ : ByteArray)]) (t := 24) ?hr ?_; (case hd => rfl); (case hg => rfl); (case hr => first | (go_simp; done) | (go_simp; rfl)); intro gb462 hg w9 hbox hb; have n0_ := Aside0.mk (below_step (by repeat (first | (with_reducible first | exact HB.out | apply below_alloc | apply pw_below_drewN | apply below_drew1) | exact HB.out)) hb); have n1_ := Aside0.mk (hbox); have n2_ := Aside0.mk ((by rw [hg]; exact (below_size (by repeat (first | (with_reducible first | exact HB.out | apply below_alloc | apply pw_below_drewN | apply below_drew1) | exact HB.out))) : w.heap.size ≤ gb462)); have n3_ := Aside0.mk ((by rw [hg]; exact (below_size (by repeat (first | (with_reducible first | exact HB.out | apply below_alloc | apply pw_below_drewN | apply below_drew1) | exact HB.out))) : w.heap.size ≤ gb462)); clear HB; have HB := n0_; have BK462 := n1_; have GW462 := n2_; have GE462 := n3_; clear n0_ n1_ n2_ n3_; clear hb hbox hg; have hcz10_0 : w9.cell? ⟨gb462, 0, none⟩ = some (.bool false) := (blk_cell BK462.out 0).trans rfl; have hcz10_1 : w9.cell? ⟨gb462, 1, none⟩ = some (.string (⟨#[]⟩ : ByteArray)) := (blk_cell BK462.out 1).trans rfl; have hcz10_2 : w9.cell? ⟨gb462, 2, none⟩ = some (.string (⟨#[]⟩ : ByteArray)) := (blk_cell BK462.out 2).trans rfl; have hfz10_0 := blk_frozen BK462.out 0; have hfz10_1 := blk_frozen BK462.out 1; have hfz10_2 := blk_frozen BK462.out 2)))
        go_ret
        exact ⟨by first | rfl | (simp [errW_none, errW_some] <;> rfl) | (simp [*, errW_none, errW_some] <;> rfl), by repeat (first | (with_reducible first | exact HB.out | apply below_alloc | apply pw_below_drewN | apply below_drew1 | refine below_set ?_ GE462.out) | exact HB.out)⟩
      · rw [if_neg c7] at H
        have c7b0 : (t460.toList == ([] : List UInt8)) = false := beq_eq_false_iff_ne.mpr c7
        have c7b1 : (t460.toList != ([] : List UInt8)) = true := bne_iff_ne.mpr c7
        have H' := Aside0.mk H
        clear H
        go_enter Try.func9, Try.ntmps9
        go_wp2_with (first | (go_at_call 18; (with_reducible refine (curl_Parse.calls k a0 true t460 t461 _ A5.out).mono ?_); rintro e w11 ⟨rfl, hb⟩; have n0_ := Aside0.mk (below_step (by repeat (first | (with_reducible first | exact HB.out | apply below_alloc | apply pw_below_drewN | apply below_drew1) | exact HB.out)) hb); clear HB; have HB := n0_; clear n0_; (try clear hb); (try clear hb2); (try clear hk); (try clear hi)) | ((with_reducible refine gate_dst (N := 3) rfl ?_); refine box_event ?hg (N := 3) ?hd (cs := #[.bool false, .string (⟨#[]⟩ : ByteArray), .string (⟨#[]⟩ : ByteArray)]) (t := 24) ?hr ?_; (case hd => rfl); (case hg => rfl); (case hr => first | (go_simp; done) | (go_simp; rfl)); intro gb462 hg w12 hbox hb; have n0_ := Aside0.mk (below_step (by repeat (first | (with_reducible first | exact HB.out | apply below_alloc | apply pw_below_drewN | apply below_drew1) | exact HB.out)) hb); have n1_ := Aside0.mk (hbox); have n2_ := Aside0.mk ((by rw [hg]; exact (below_size (by repeat (first | (with_reducible first | exact HB.out | apply below_alloc | apply pw_below_drewN | apply below_drew1) | exact HB.out))) : w.heap.size ≤ gb462)); have n3_ := Aside0.mk ((by rw [hg]; exact (below_size (by repeat (first | (with_reducible first | exact HB.out | apply below_alloc | apply pw_below_drewN | apply below_drew1) | exact HB.out))) : w.heap.size ≤ gb462)); clear HB; have HB := n0_; have BK462 := n1_; have GW462 := n2_; have GE462 := n3_; clear n0_ n1_ n2_ n3_; clear hb hbox hg; have hcz13_0 : w12.cell? ⟨gb462, 0, none⟩ = some (.bool false) := (blk_cell BK462.out 0).trans rfl; have hcz13_1 : w12.cell? ⟨gb462, 1, none⟩ = some (.string (⟨#[]⟩ : ByteArray)) := (blk_cell BK462.out 1).trans rfl; have hcz13_2 : w12.cell? ⟨gb462, 2, none⟩ = some (.string (⟨#[]⟩ : ByteArray)) := (blk_cell BK462.out 2).trans rfl; have hfz13_0 := blk_frozen BK462.out 0; have hfz13_1 := blk_frozen BK462.out 1; have hfz13_2 := blk_frozen BK462.out 2))
        repeat (go_quiet (first | (go_at_call 18; (with_reducible refine (curl_Parse.calls k a0 true t460 t461 _ A5.out).mono ?_); rintro e w11 ⟨rfl, hb⟩; have n0_ := Aside0.mk (below_step (by repeat (first | (with_reducible first | exact HB.out | apply below_alloc | apply pw_below_drewN | apply below_drew1) | exact HB.out)) hb); clear HB; have HB := n0_; clear n0_; (try clear hb); (try clear hb2); (try clear hk); (try clear hi)) | ((with_reducible refine gate_dst (N := 3) rfl ?_); refine box_event ?hg (N := 3) ?hd (cs := #[.bool false, .string (⟨#[]⟩ : ByteArray), .string (⟨#[]⟩ : ByteArray)]) (t := 24) ?hr ?_; (case hd => rfl); (case hg => rfl); (case hr => first | (go_simp; done) | (go_simp; rfl)); intro gb462 hg w12 hbox hb; have n0_ := Aside0.mk (below_step (by repeat (first | (with_reducible first | exact HB.out | apply below_alloc | apply pw_below_drewN | apply below_drew1) | exact HB.out)) hb); have n1_ := Aside0.mk (hbox); have n2_ := Aside0.mk ((by rw [hg]; exact (below_size (by repeat (first | (with_reducible first | exact HB.out | apply below_alloc | apply pw_below_drewN | apply below_drew1) | exact HB.out))) : w.heap.size ≤ gb462)); have n3_ := Aside0.mk ((by rw [hg]; exact (below_size (by repeat (first | (with_reducible first | exact HB.out | apply below_alloc | apply pw_below_drewN | apply below_drew1) | exact HB.out))) : w.heap.size ≤ gb462)); clear HB; have HB := n0_; have BK462 := n1_; have GW462 := n2_; have GE462 := n3_; clear n0_ n1_ n2_ n3_; clear hb hbox hg; have hcz13_0 : w12.cell? ⟨gb462, 0, none⟩ = some (.bool false) := (blk_cell BK462.out 0).trans rfl; have hcz13_1 : w12.cell? ⟨gb462, 1, none⟩ = some (.string (⟨#[]⟩ : ByteArray)) := (blk_cell BK462.out 1).trans rfl; have hcz13_2 : w12.cell? ⟨gb462, 2, none⟩ = some (.string (⟨#[]⟩ : ByteArray)) := (blk_cell BK462.out 2).trans rfl; have hfz13_0 := blk_frozen BK462.out 0; have hfz13_1 := blk_frozen BK462.out 1; have hfz13_2 := blk_frozen BK462.out 2)); try go_wp2_with (first | (go_at_call 18; (with_reducible refine (curl_Parse.calls k a0 true t460 t461 _ A5.out).mono ?_); rintro e w11 ⟨rfl, hb⟩; have n0_ := Aside0.mk (below_step (by repeat (first | (with_reducible first | exact HB.out | apply below_alloc | apply pw_below_drewN | apply below_drew1) | exact HB.out)) hb); clear HB; have HB := n0_; clear n0_; (try clear hb); (try clear hb2); (try clear hk); (try clear hi)) | ((with_reducible refine gate_dst (N := 3) rfl ?_); refine box_event ?hg (N := 3) ?hd (cs := #[.bool false, .string (⟨#[]⟩ : ByteArray), .string (⟨#[]⟩ : ByteArray)]) (t := 24) ?hr ?_; (case hd => rfl); (case hg => rfl); (case hr => first | (go_simp; done) | (go_simp; rfl)); intro gb462 hg w12 hbox hb; have n0_ := Aside0.mk (below_step (by repeat (first | (with_reducible first | exact HB.out | apply below_alloc | apply pw_below_drewN | apply below_drew1) | exact HB.out)) hb); have n1_ := Aside0.mk (hbox); have n2_ := Aside0.mk ((by rw [hg]; exact (below_size (by repeat (first | (with_reducible first | exact HB.out | apply below_alloc | apply pw_below_drewN | apply below_drew1) | exact HB.out))) : w.heap.size ≤ gb462)); have n3_ := Aside0.mk ((by rw [hg]; exact (below_size (by repeat (first | (with_reducible first | exact HB.out | apply below_alloc | apply pw_below_drewN | apply below_drew1) | exact HB.out))) : w.heap.size ≤ gb462)); clear HB; have HB := n0_; have BK462 := n1_; have GW462 := n2_; have GE462 := n3_; clear n0_ n1_ n2_ n3_; clear hb hbox hg; have hcz13_0 : w12.cell? ⟨gb462, 0, none⟩ = some (.bool false) := (blk_cell BK462.out 0).trans rfl; have hcz13_1 : w12.cell? ⟨gb462, 1, none⟩ = some (.string (⟨#[]⟩ : ByteArray)) := (blk_cell BK462.out 1).trans rfl; have hcz13_2 : w12.cell? ⟨gb462, 2, none⟩ = some (.string (⟨#[]⟩ : ByteArray)) := (blk_cell BK462.out 2).trans rfl; have hfz13_0 := blk_frozen BK462.out 0; have hfz13_1 := blk_frozen BK462.out 1; have hfz13_2 := blk_frozen BK462.out 2)))
        go_loopg [4] k (fun kq v4 w' => ∃ (x4_1 : Int), v4 = .int .i64 x4_1 ∧ Aside0 (shibbolethlaw22_CurlSpans.l0 kq a0 x4_1 true t460 t461 = some r) ∧ Aside0 (kq ≤ k) ∧ Aside0 (w'.heap[gb462]? = some (.cells #[.bool true, .string t460, .string t461] 24 (0, 0))) ∧ Aside0 (Below w.heap.size w w'))
        case atStart => exact ⟨(0), (by first | rfl | (simp; done) | (simp [*]; done)), H', ⟨Nat.le_refl _⟩, ⟨by (with_reducible repeat (first | refine blk_drewN ?_ _ | refine blk_drew ?_ | refine blk_alloc ?_ _)); refine blk_put (cs := #[.bool true, .string t460, .string (⟨#[]⟩ : ByteArray)]) ?_ 2 _ rfl; (with_reducible repeat (first | refine blk_drewN ?_ _ | refine blk_drew ?_ | refine blk_alloc ?_ _)); refine blk_put (cs := #[.bool true, .string (⟨#[]⟩ : ByteArray), .string (⟨#[]⟩ : ByteArray)]) ?_ 1 _ rfl; (with_reducible repeat (first | refine blk_drewN ?_ _ | refine blk_drew ?_ | refine blk_alloc ?_ _)); refine blk_put (cs := #[.bool false, .string (⟨#[]⟩ : ByteArray), .string (⟨#[]⟩ : ByteArray)]) ?_ 0 _ rfl; (with_reducible repeat (first | refine blk_drewN ?_ _ | refine blk_drew ?_ | refine blk_alloc ?_ _)); exact BK462.out⟩, ⟨by repeat (first | (with_reducible first | exact HB.out | apply below_alloc | apply pw_below_drewN | apply below_drew1 | refine below_set ?_ GE462.out) | exact HB.out)⟩⟩
        case round =>
          clear H'
          try clear c2
          try clear c2b0
          try clear c2b1
          try clear p2
          try clear c6
          try clear c7
          try clear c7b0
          try clear c7b1
          try clear c9
          try clear hcz10_0
          try clear hcz10_1
          try clear hcz10_2
          try clear hcz13_0
          try clear hcz13_1
          try clear hcz13_2
          try clear hfz10_0
          try clear hfz10_1
          try clear hfz10_2
          try clear hfz13_0
          try clear hfz13_1
          try clear hfz13_2
          obtain ⟨x4_1, rfl, HA, HK1, BK462, HB⟩ := hrel
          cases gk with
          | zero => exact absurd HA.out (by simp [shibbolethlaw22_CurlSpans.l0])
          | succ k1 =>
            have H := HA.out
            clear HA
            simp only [shibbolethlaw22_CurlSpans.l0] at H
            by_cases c14 : (wrap64 (x4_1 + (t460.size : Int))) ≤ (a0.size : Int)
            · rw [if_pos c14] at H
              have c14b0 : decide ((wrap64 (x4_1 + (t460.size : Int))) ≤ (a0.size : Int)) = true := decide_eq_true c14
              clear c14
              by_cases c15 : 0 ≤ x4_1
              · rw [if_pos c15] at H
                have c15b0 := eq_true c15
                have c15b1 : decide (0 ≤ x4_1) = true := decide_eq_true c15
                clear c15
                by_cases c16 : x4_1 ≤ (wrap64 (x4_1 + (t460.size : Int)))
                · rw [if_pos c16] at H
                  have c16b0 := eq_true c16
                  have c16b1 : decide (x4_1 ≤ (wrap64 (x4_1 + (t460.size : Int)))) = true := decide_eq_true c16
                  have c17b0 := eq_true (of_decide_eq_true (by first | (with_reducible assumption) | assumption) : (wrap64 (x4_1 + (t460.size : Int))) ≤ (a0.size : Int))
                  by_cases c18 : (a0.extract (x4_1 : Int).toNat ((wrap64 (x4_1 + (t460.size : Int))) : Int).toNat).toList = t460.toList
                  · rw [if_pos c18] at H
                    have c18b0 : ((a0.extract (x4_1 : Int).toNat ((wrap64 (x4_1 + (t460.size : Int))) : Int).toNat).toList == t460.toList) = true := beq_iff_eq.mpr c18
                    have c18b1 : ((a0.extract (x4_1 : Int).toNat ((wrap64 (x4_1 + (t460.size : Int))) : Int).toNat).toList != t460.toList) = false := bne_eq_false_iff_eq.mpr c18
                    clear c18
                    have H' := Aside0.mk H
                    clear H
                    have hcz19_0 : wr.cell? ⟨gb462, 0, none⟩ = some (.bool true) := (blk_cell BK462.out 0).trans rfl
                    have hcz19_1 : wr.cell? ⟨gb462, 1, none⟩ = some (.string t460) := (blk_cell BK462.out 1).trans rfl
                    have hcz19_2 : wr.cell? ⟨gb462, 2, none⟩ = some (.string t461) := (blk_cell BK462.out 2).trans rfl
                    have hfz19_0 := blk_frozen BK462.out 0
                    have hfz19_1 := blk_frozen BK462.out 1
                    have hfz19_2 := blk_frozen BK462.out 2
                    go_wp2
                    repeat (go_quiet (fail); try go_wp2)
                    go_loopg [5] k1 (fun kq v5 w' => ∃ (x5_2 : Int), v5 = .int .i64 x5_2 ∧ Aside0 (shibbolethlaw22_CurlSpans.l1 kq a0 x4_1 x5_2 true t460 t461 = some r) ∧ Aside0 (kq ≤ k1) ∧ Aside0 (w'.heap[gb462]? = some (.cells #[.bool true, .string t460, .string t461] 24 (0, 0))) ∧ Aside0 (Below w.heap.size w w'))
                    case atStart => exact ⟨(wrap64 (x4_1 + (t460.size : Int))), (by first | rfl | (simp; done) | (simp [*]; done)), H', ⟨Nat.le_refl _⟩, ⟨by (with_reducible repeat (first | refine blk_drewN ?_ _ | refine blk_drew ?_ | refine blk_alloc ?_ _)); exact BK462.out⟩, ⟨by repeat (first | (with_reducible first | exact HB.out | apply below_alloc | apply pw_below_drewN | apply below_drew1 | refine below_set ?_ GE462.out) | exact HB.out)⟩⟩
                    case round =>
                      clear H'
                      try clear c1
                      try clear c2
                      try clear c2b0
                      try clear c2b1
                      try clear p2
                      try clear c6
                      try clear p6
                      try clear c7
                      try clear c7b0
                      try clear c7b1
                      try clear c9
                      try clear c14
                      try clear c14b0
                      try clear c15
                      try clear c15b0
                      try clear c15b1
                      try clear c16
                      try clear c16b0
                      try clear c16b1
                      try clear c17
                      try clear c17b0
                      try clear c18
                      try clear c18b0
                      try clear c18b1
                      try clear hcz10_0
                      try clear hcz10_1
                      try clear hcz10_2
                      try clear hcz13_0
                      try clear hcz13_1
                      try clear hcz13_2
                      try clear hcz19_0
                      try clear hcz19_1
                      try clear hcz19_2
                      try clear hfz10_0
                      try clear hfz10_1
                      try clear hfz10_2
                      try clear hfz13_0
                      try clear hfz13_1
                      try clear hfz13_2
                      try clear hfz19_0
                      try clear hfz19_1
                      try clear hfz19_2
                      try clear p2
                      obtain ⟨x5_2, rfl, HA, HK2, BK462, HB⟩ := hrel
                      cases gk with
                      | zero => exact absurd HA.out (by simp [shibbolethlaw22_CurlSpans.l1])
                      | succ k2 =>
                        have H := HA.out
                        clear HA
                        simp only [shibbolethlaw22_CurlSpans.l1] at H
                        by_cases c20 : (wrap64 (x5_2 + (t461.size : Int))) ≤ (a0.size : Int)
                        · rw [if_pos c20] at H
                          have c20b0 : decide ((wrap64 (x5_2 + (t461.size : Int))) ≤ (a0.size : Int)) = true := decide_eq_true c20
                          clear c20
                          by_cases c21 : 0 ≤ x5_2
                          · rw [if_pos c21] at H
                            have c21b0 := eq_true c21
                            have c21b1 : decide (0 ≤ x5_2) = true := decide_eq_true c21
                            clear c21
                            by_cases c22 : x5_2 ≤ (wrap64 (x5_2 + (t461.size : Int)))
                            · rw [if_pos c22] at H
                              have c22b0 := eq_true c22
                              have c22b1 : decide (x5_2 ≤ (wrap64 (x5_2 + (t461.size : Int)))) = true := decide_eq_true c22
                              have c23b0 := eq_true (of_decide_eq_true (by first | (with_reducible assumption) | assumption) : (wrap64 (x5_2 + (t461.size : Int))) ≤ (a0.size : Int))
                              by_cases c24 : (a0.extract (x5_2 : Int).toNat ((wrap64 (x5_2 + (t461.size : Int))) : Int).toNat).toList = t461.toList
                              · rw [if_pos c24] at H
                                have c24b0 : ((a0.extract (x5_2 : Int).toNat ((wrap64 (x5_2 + (t461.size : Int))) : Int).toNat).toList == t461.toList) = true := beq_iff_eq.mpr c24
                                have c24b1 : ((a0.extract (x5_2 : Int).toNat ((wrap64 (x5_2 + (t461.size : Int))) : Int).toNat).toList != t461.toList) = false := bne_eq_false_iff_eq.mpr c24
                                clear c24
                                replace H := Option.bind_eq_some_iff.mp H
                                obtain ⟨t464, A250, H⟩ := H
                                replace H : (some t464) = some r := H
                                have A25 := Aside0.mk A250
                                clear A250
                                obtain rfl := Option.some.inj H
                                have hcz26_0 : wr.cell? ⟨gb462, 0, none⟩ = some (.bool true) := (blk_cell BK462.out 0).trans rfl
                                have hcz26_1 : wr.cell? ⟨gb462, 1, none⟩ = some (.string t460) := (blk_cell BK462.out 1).trans rfl
                                have hcz26_2 : wr.cell? ⟨gb462, 2, none⟩ = some (.string t461) := (blk_cell BK462.out 2).trans rfl
                                have hfz26_0 := blk_frozen BK462.out 0
                                have hfz26_1 := blk_frozen BK462.out 1
                                have hfz26_2 := blk_frozen BK462.out 2
                                go_wp2_with (first | (go_at_call 17; (with_reducible refine (shibbolethlaw22_awake.calls k2  t464 _ A25.out).mono ?_); rintro e w27 ⟨rfl, hb⟩; have n0_ := Aside0.mk (blk_below (g := gb462) (o := .cells #[.bool true, .string t460, .string t461] 24 (0, 0)) (by (with_reducible repeat (first | refine blk_drewN ?_ _ | refine blk_drew ?_ | refine blk_alloc ?_ _)); exact BK462.out) hb); have n1_ := Aside0.mk (below_step (by repeat (first | (with_reducible first | exact HB.out | apply below_alloc | apply pw_below_drewN | apply below_drew1 | refine below_set ?_ GE462.out) | exact HB.out)) hb); clear BK462; clear HB; have BK462 := n0_; have HB := n1_; clear n0_ n1_; (try clear hb); (try clear hb2); (try clear hk); (try clear hi)))
                                repeat (go_quiet (first | (go_at_call 17; (with_reducible refine (shibbolethlaw22_awake.calls k2  t464 _ A25.out).mono ?_); rintro e w27 ⟨rfl, hb⟩; have n0_ := Aside0.mk (blk_below (g := gb462) (o := .cells #[.bool true, .string t460, .string t461] 24 (0, 0)) (by (with_reducible repeat (first | refine blk_drewN ?_ _ | refine blk_drew ?_ | refine blk_alloc ?_ _)); exact BK462.out) hb); have n1_ := Aside0.mk (below_step (by repeat (first | (with_reducible first | exact HB.out | apply below_alloc | apply pw_below_drewN | apply below_drew1 | refine below_set ?_ GE462.out) | exact HB.out)) hb); clear BK462; clear HB; have BK462 := n0_; have HB := n1_; clear n0_ n1_; (try clear hb); (try clear hb2); (try clear hk); (try clear hi))); try go_wp2_with (first | (go_at_call 17; (with_reducible refine (shibbolethlaw22_awake.calls k2  t464 _ A25.out).mono ?_); rintro e w27 ⟨rfl, hb⟩; have n0_ := Aside0.mk (blk_below (g := gb462) (o := .cells #[.bool true, .string t460, .string t461] 24 (0, 0)) (by (with_reducible repeat (first | refine blk_drewN ?_ _ | refine blk_drew ?_ | refine blk_alloc ?_ _)); exact BK462.out) hb); have n1_ := Aside0.mk (below_step (by repeat (first | (with_reducible first | exact HB.out | apply below_alloc | apply pw_below_drewN | apply below_drew1 | refine below_set ?_ GE462.out) | exact HB.out)) hb); clear BK462; clear HB; have BK462 := n0_; have HB := n1_; clear n0_ n1_; (try clear hb); (try clear hb2); (try clear hk); (try clear hi))))
                                go_ret
                                exact ⟨by first | rfl | (simp [errW_none, errW_some] <;> rfl) | (simp [*, errW_none, errW_some] <;> rfl), by repeat (first | (with_reducible first | exact HB.out | apply below_alloc | apply pw_below_drewN | apply below_drew1 | refine below_set ?_ GE462.out) | exact HB.out)⟩
                              · rw [if_neg c24] at H
                                have c24b0 : ((a0.extract (x5_2 : Int).toNat ((wrap64 (x5_2 + (t461.size : Int))) : Int).toNat).toList == t461.toList) = false := beq_eq_false_iff_ne.mpr c24
                                have c24b1 : ((a0.extract (x5_2 : Int).toNat ((wrap64 (x5_2 + (t461.size : Int))) : Int).toNat).toList != t461.toList) = true := bne_iff_ne.mpr c24
                                have H' := Aside0.mk H
                                clear H
                                have hcz28_0 : wr.cell? ⟨gb462, 0, none⟩ = some (.bool true) := (blk_cell BK462.out 0).trans rfl
                                have hcz28_1 : wr.cell? ⟨gb462, 1, none⟩ = some (.string t460) := (blk_cell BK462.out 1).trans rfl
                                have hcz28_2 : wr.cell? ⟨gb462, 2, none⟩ = some (.string t461) := (blk_cell BK462.out 2).trans rfl
                                have hfz28_0 := blk_frozen BK462.out 0
                                have hfz28_1 := blk_frozen BK462.out 1
                                have hfz28_2 := blk_frozen BK462.out 2
                                go_wp2
                                repeat (go_quiet (fail); try go_wp2)
                                go_roundg k2
                                case measure => have := HK1.out; have := HK2.out; omega
                                case rel => exact ⟨(wrap64 (x5_2 + 1)), (by first | rfl | (simp; done) | (simp [*]; done)), H', ⟨by have := HK1.out; have := HK2.out; omega⟩, ⟨by (with_reducible repeat (first | refine blk_drewN ?_ _ | refine blk_drew ?_ | refine blk_alloc ?_ _)); exact BK462.out⟩, ⟨by repeat (first | (with_reducible first | exact HB.out | apply below_alloc | apply pw_below_drewN | apply below_drew1 | refine below_set ?_ GE462.out) | exact HB.out)⟩⟩
                            · rw [if_neg c22] at H
                              exact absurd H (by simp)
                          · rw [if_neg c21] at H
                            exact absurd H (by simp)
                        · rw [if_neg c20] at H
                          have c20b0 : decide ((wrap64 (x5_2 + (t461.size : Int))) ≤ (a0.size : Int)) = false := decide_eq_false c20
                          clear c20
                          have H' := Aside0.mk H
                          clear H
                          have hcz29_0 : wr.cell? ⟨gb462, 0, none⟩ = some (.bool true) := (blk_cell BK462.out 0).trans rfl
                          have hcz29_1 : wr.cell? ⟨gb462, 1, none⟩ = some (.string t460) := (blk_cell BK462.out 1).trans rfl
                          have hcz29_2 : wr.cell? ⟨gb462, 2, none⟩ = some (.string t461) := (blk_cell BK462.out 2).trans rfl
                          have hfz29_0 := blk_frozen BK462.out 0
                          have hfz29_1 := blk_frozen BK462.out 1
                          have hfz29_2 := blk_frozen BK462.out 2
                          go_wp2
                          repeat (go_quiet (fail); try go_wp2)
                          go_roundg k2
                          case measure => have := HK1.out; have := HK2.out; omega
                          case rel => exact ⟨(wrap64 (x4_1 + 1)), (by first | rfl | (simp; done) | (simp [*]; done)), H', ⟨by have := HK1.out; have := HK2.out; omega⟩, ⟨by (with_reducible repeat (first | refine blk_drewN ?_ _ | refine blk_drew ?_ | refine blk_alloc ?_ _)); exact BK462.out⟩, ⟨by repeat (first | (with_reducible first | exact HB.out | apply below_alloc | apply pw_below_drewN | apply below_drew1 | refine below_set ?_ GE462.out) | exact HB.out)⟩⟩
                  · rw [if_neg c18] at H
                    have c18b0 : ((a0.extract (x4_1 : Int).toNat ((wrap64 (x4_1 + (t460.size : Int))) : Int).toNat).toList == t460.toList) = false := beq_eq_false_iff_ne.mpr c18
                    have c18b1 : ((a0.extract (x4_1 : Int).toNat ((wrap64 (x4_1 + (t460.size : Int))) : Int).toNat).toList != t460.toList) = true := bne_iff_ne.mpr c18
                    have H' := Aside0.mk H
                    clear H
                    have hcz30_0 : wr.cell? ⟨gb462, 0, none⟩ = some (.bool true) := (blk_cell BK462.out 0).trans rfl
                    have hcz30_1 : wr.cell? ⟨gb462, 1, none⟩ = some (.string t460) := (blk_cell BK462.out 1).trans rfl
                    have hcz30_2 : wr.cell? ⟨gb462, 2, none⟩ = some (.string t461) := (blk_cell BK462.out 2).trans rfl
                    have hfz30_0 := blk_frozen BK462.out 0
                    have hfz30_1 := blk_frozen BK462.out 1
                    have hfz30_2 := blk_frozen BK462.out 2
                    go_wp2
                    repeat (go_quiet (fail); try go_wp2)
                    go_roundg k1
                    case measure => have := HK1.out; omega
                    case rel => exact ⟨(wrap64 (x4_1 + 1)), (by first | rfl | (simp; done) | (simp [*]; done)), H', ⟨by have := HK1.out; omega⟩, ⟨by (with_reducible repeat (first | refine blk_drewN ?_ _ | refine blk_drew ?_ | refine blk_alloc ?_ _)); exact BK462.out⟩, ⟨by repeat (first | (with_reducible first | exact HB.out | apply below_alloc | apply pw_below_drewN | apply below_drew1 | refine below_set ?_ GE462.out) | exact HB.out)⟩⟩
                · rw [if_neg c16] at H
                  exact absurd H (by simp)
              · rw [if_neg c15] at H
                exact absurd H (by simp)
            · rw [if_neg c14] at H
              have c14b0 : decide ((wrap64 (x4_1 + (t460.size : Int))) ≤ (a0.size : Int)) = false := decide_eq_false c14
              clear c14
              obtain rfl := Option.some.inj H
              have hcz31_0 : wr.cell? ⟨gb462, 0, none⟩ = some (.bool true) := (blk_cell BK462.out 0).trans rfl
              have hcz31_1 : wr.cell? ⟨gb462, 1, none⟩ = some (.string t460) := (blk_cell BK462.out 1).trans rfl
              have hcz31_2 : wr.cell? ⟨gb462, 2, none⟩ = some (.string t461) := (blk_cell BK462.out 2).trans rfl
              have hfz31_0 := blk_frozen BK462.out 0
              have hfz31_1 := blk_frozen BK462.out 1
              have hfz31_2 := blk_frozen BK462.out 2
              go_wp2
              repeat (go_quiet (fail); try go_wp2)
              go_ret
              exact ⟨by first | rfl | (simp [errW_none, errW_some] <;> rfl) | (simp [*, errW_none, errW_some] <;> rfl), by repeat (first | (with_reducible first | exact HB.out | apply below_alloc | apply pw_below_drewN | apply below_drew1 | refine below_set ?_ GE462.out) | exact HB.out)⟩
    · replace c6 := Bool.eq_false_iff.mpr c6
      subst c6
      have H1 : (if (!false && (t460.toList == ([] : List UInt8) && (t461.toList == ([] : List UInt8)))) = true then ((shibbolethlaw22_awake.f k).bind fun t463 => (some t463)) else (some false)) = some r := by rw [if_neg (show ¬ (false = true) by decide)] at H; exact H
      clear H
      have H := H1
      clear H1
      by_cases c32 : (!false && (t460.toList == ([] : List UInt8) && (t461.toList == ([] : List UInt8)))) = true
      · rw [if_pos c32] at H
        have c32b0 : (!false && (t460.toList == ([] : List UInt8) && (t461.toList == ([] : List UInt8)))) = true := c32
        (try (have c32b1 : (((t460).toList.isEmpty && ((t461).toList.isEmpty))) = true := by simpa using c32))
        clear c32
        replace H := Option.bind_eq_some_iff.mp H
        obtain ⟨t463, A330, H⟩ := H
        replace H : (some t463) = some r := H
        have A33 := Aside0.mk A330
        clear A330
        obtain rfl := Option.some.inj H
        go_enter Try.func9, Try.ntmps9
        go_wp2_with (first | (go_at_call 18; (with_reducible refine (curl_Parse.calls k a0 false t460 t461 _ A5.out).mono ?_); rintro e w34 ⟨rfl, hb⟩; have n0_ := Aside0.mk (below_step (by repeat (first | (with_reducible first | exact HB.out | apply below_alloc | apply pw_below_drewN | apply below_drew1) | exact HB.out)) hb); clear HB; have HB := n0_; clear n0_; (try clear hb); (try clear hb2); (try clear hk); (try clear hi)) | ((with_reducible refine gate_dst (N := 3) rfl ?_); refine box_event ?hg (N := 3) ?hd (cs := #[.bool false, .string (⟨#[]⟩ : ByteArray), .string (⟨#[]⟩ : ByteArray)]) (t := 24) ?hr ?_; (case hd => rfl); (case hg => rfl); (case hr => first | (go_simp; done) | (go_simp; rfl)); intro gb462 hg w35 hbox hb; have n0_ := Aside0.mk (below_step (by repeat (first | (with_reducible first | exact HB.out | apply below_alloc | apply pw_below_drewN | apply below_drew1) | exact HB.out)) hb); have n1_ := Aside0.mk (hbox); have n2_ := Aside0.mk ((by rw [hg]; exact (below_size (by repeat (first | (with_reducible first | exact HB.out | apply below_alloc | apply pw_below_drewN | apply below_drew1) | exact HB.out))) : w.heap.size ≤ gb462)); have n3_ := Aside0.mk ((by rw [hg]; exact (below_size (by repeat (first | (with_reducible first | exact HB.out | apply below_alloc | apply pw_below_drewN | apply below_drew1) | exact HB.out))) : w.heap.size ≤ gb462)); clear HB; have HB := n0_; have BK462 := n1_; have GW462 := n2_; have GE462 := n3_; clear n0_ n1_ n2_ n3_; clear hb hbox hg; have hcz36_0 : w35.cell? ⟨gb462, 0, none⟩ = some (.bool false) := (blk_cell BK462.out 0).trans rfl; have hcz36_1 : w35.cell? ⟨gb462, 1, none⟩ = some (.string (⟨#[]⟩ : ByteArray)) := (blk_cell BK462.out 1).trans rfl; have hcz36_2 : w35.cell? ⟨gb462, 2, none⟩ = some (.string (⟨#[]⟩ : ByteArray)) := (blk_cell BK462.out 2).trans rfl; have hfz36_0 := blk_frozen BK462.out 0; have hfz36_1 := blk_frozen BK462.out 1; have hfz36_2 := blk_frozen BK462.out 2) | (go_at_call 17; (with_reducible refine (shibbolethlaw22_awake.calls k  t463 _ A33.out).mono ?_); rintro e w37 ⟨rfl, hb⟩; have n0_ := Aside0.mk (blk_below (g := gb462) (o := .cells #[.bool false, .string t460, .string t461] 24 (0, 0)) (by (with_reducible repeat (first | refine blk_drewN ?_ _ | refine blk_drew ?_ | refine blk_alloc ?_ _)); refine blk_put (cs := #[.bool false, .string t460, .string (⟨#[]⟩ : ByteArray)]) ?_ 2 _ rfl; (with_reducible repeat (first | refine blk_drewN ?_ _ | refine blk_drew ?_ | refine blk_alloc ?_ _)); refine blk_put (cs := #[.bool false, .string (⟨#[]⟩ : ByteArray), .string (⟨#[]⟩ : ByteArray)]) ?_ 1 _ rfl; (with_reducible repeat (first | refine blk_drewN ?_ _ | refine blk_drew ?_ | refine blk_alloc ?_ _)); refine blk_put (cs := #[.bool false, .string (⟨#[]⟩ : ByteArray), .string (⟨#[]⟩ : ByteArray)]) ?_ 0 _ rfl; (with_reducible repeat (first | refine blk_drewN ?_ _ | refine blk_drew ?_ | refine blk_alloc ?_ _)); exact BK462.out) hb); have n1_ := Aside0.mk (below_step (by repeat (first | (with_reducible first | exact HB.out | apply below_alloc | apply pw_below_drewN | apply below_drew1 | refine below_set ?_ GE462.out) | exact HB.out)) hb); clear BK462; clear HB; have BK462 := n0_; have HB := n1_; clear n0_ n1_; (try clear hb); (try clear hb2); (try clear hk); (try clear hi)))
        repeat (go_quiet (first | (go_at_call 18; (with_reducible refine (curl_Parse.calls k a0 false t460 t461 _ A5.out).mono ?_); rintro e w34 ⟨rfl, hb⟩; have n0_ := Aside0.mk (below_step (by repeat (first | (with_reducible first | exact HB.out | apply below_alloc | apply pw_below_drewN | apply below_drew1) | exact HB.out)) hb); clear HB; have HB := n0_; clear n0_; (try clear hb); (try clear hb2); (try clear hk); (try clear hi)) | ((with_reducible refine gate_dst (N := 3) rfl ?_); refine box_event ?hg (N := 3) ?hd (cs := #[.bool false, .string (⟨#[]⟩ : ByteArray), .string (⟨#[]⟩ : ByteArray)]) (t := 24) ?hr ?_; (case hd => rfl); (case hg => rfl); (case hr => first | (go_simp; done) | (go_simp; rfl)); intro gb462 hg w35 hbox hb; have n0_ := Aside0.mk (below_step (by repeat (first | (with_reducible first | exact HB.out | apply below_alloc | apply pw_below_drewN | apply below_drew1) | exact HB.out)) hb); have n1_ := Aside0.mk (hbox); have n2_ := Aside0.mk ((by rw [hg]; exact (below_size (by repeat (first | (with_reducible first | exact HB.out | apply below_alloc | apply pw_below_drewN | apply below_drew1) | exact HB.out))) : w.heap.size ≤ gb462)); have n3_ := Aside0.mk ((by rw [hg]; exact (below_size (by repeat (first | (with_reducible first | exact HB.out | apply below_alloc | apply pw_below_drewN | apply below_drew1) | exact HB.out))) : w.heap.size ≤ gb462)); clear HB; have HB := n0_; have BK462 := n1_; have GW462 := n2_; have GE462 := n3_; clear n0_ n1_ n2_ n3_; clear hb hbox hg; have hcz36_0 : w35.cell? ⟨gb462, 0, none⟩ = some (.bool false) := (blk_cell BK462.out 0).trans rfl; have hcz36_1 : w35.cell? ⟨gb462, 1, none⟩ = some (.string (⟨#[]⟩ : ByteArray)) := (blk_cell BK462.out 1).trans rfl; have hcz36_2 : w35.cell? ⟨gb462, 2, none⟩ = some (.string (⟨#[]⟩ : ByteArray)) := (blk_cell BK462.out 2).trans rfl; have hfz36_0 := blk_frozen BK462.out 0; have hfz36_1 := blk_frozen BK462.out 1; have hfz36_2 := blk_frozen BK462.out 2) | (go_at_call 17; (with_reducible refine (shibbolethlaw22_awake.calls k  t463 _ A33.out).mono ?_); rintro e w37 ⟨rfl, hb⟩; have n0_ := Aside0.mk (blk_below (g := gb462) (o := .cells #[.bool false, .string t460, .string t461] 24 (0, 0)) (by (with_reducible repeat (first | refine blk_drewN ?_ _ | refine blk_drew ?_ | refine blk_alloc ?_ _)); refine blk_put (cs := #[.bool false, .string t460, .string (⟨#[]⟩ : ByteArray)]) ?_ 2 _ rfl; (with_reducible repeat (first | refine blk_drewN ?_ _ | refine blk_drew ?_ | refine blk_alloc ?_ _)); refine blk_put (cs := #[.bool false, .string (⟨#[]⟩ : ByteArray), .string (⟨#[]⟩ : ByteArray)]) ?_ 1 _ rfl; (with_reducible repeat (first | refine blk_drewN ?_ _ | refine blk_drew ?_ | refine blk_alloc ?_ _)); refine blk_put (cs := #[.bool false, .string (⟨#[]⟩ : ByteArray), .string (⟨#[]⟩ : ByteArray)]) ?_ 0 _ rfl; (with_reducible repeat (first | refine blk_drewN ?_ _ | refine blk_drew ?_ | refine blk_alloc ?_ _)); exact BK462.out) hb); have n1_ := Aside0.mk (below_step (by repeat (first | (with_reducible first | exact HB.out | apply below_alloc | apply pw_below_drewN | apply below_drew1 | refine below_set ?_ GE462.out) | exact HB.out)) hb); clear BK462; clear HB; have BK462 := n0_; have HB := n1_; clear n0_ n1_; (try clear hb); (try clear hb2); (try clear hk); (try clear hi))); try go_wp2_with (first | (go_at_call 18; (with_reducible refine (curl_Parse.calls k a0 false t460 t461 _ A5.out).mono ?_); rintro e w34 ⟨rfl, hb⟩; have n0_ := Aside0.mk (below_step (by repeat (first | (with_reducible first | exact HB.out | apply below_alloc | apply pw_below_drewN | apply below_drew1) | exact HB.out)) hb); clear HB; have HB := n0_; clear n0_; (try clear hb); (try clear hb2); (try clear hk); (try clear hi)) | ((with_reducible refine gate_dst (N := 3) rfl ?_); refine box_event ?hg (N := 3) ?hd (cs := #[.bool false, .string (⟨#[]⟩ : ByteArray), .string (⟨#[]⟩ : ByteArray)]) (t := 24) ?hr ?_; (case hd => rfl); (case hg => rfl); (case hr => first | (go_simp; done) | (go_simp; rfl)); intro gb462 hg w35 hbox hb; have n0_ := Aside0.mk (below_step (by repeat (first | (with_reducible first | exact HB.out | apply below_alloc | apply pw_below_drewN | apply below_drew1) | exact HB.out)) hb); have n1_ := Aside0.mk (hbox); have n2_ := Aside0.mk ((by rw [hg]; exact (below_size (by repeat (first | (with_reducible first | exact HB.out | apply below_alloc | apply pw_below_drewN | apply below_drew1) | exact HB.out))) : w.heap.size ≤ gb462)); have n3_ := Aside0.mk ((by rw [hg]; exact (below_size (by repeat (first | (with_reducible first | exact HB.out | apply below_alloc | apply pw_below_drewN | apply below_drew1) | exact HB.out))) : w.heap.size ≤ gb462)); clear HB; have HB := n0_; have BK462 := n1_; have GW462 := n2_; have GE462 := n3_; clear n0_ n1_ n2_ n3_; clear hb hbox hg; have hcz36_0 : w35.cell? ⟨gb462, 0, none⟩ = some (.bool false) := (blk_cell BK462.out 0).trans rfl; have hcz36_1 : w35.cell? ⟨gb462, 1, none⟩ = some (.string (⟨#[]⟩ : ByteArray)) := (blk_cell BK462.out 1).trans rfl; have hcz36_2 : w35.cell? ⟨gb462, 2, none⟩ = some (.string (⟨#[]⟩ : ByteArray)) := (blk_cell BK462.out 2).trans rfl; have hfz36_0 := blk_frozen BK462.out 0; have hfz36_1 := blk_frozen BK462.out 1; have hfz36_2 := blk_frozen BK462.out 2) | (go_at_call 17; (with_reducible refine (shibbolethlaw22_awake.calls k  t463 _ A33.out).mono ?_); rintro e w37 ⟨rfl, hb⟩; have n0_ := Aside0.mk (blk_below (g := gb462) (o := .cells #[.bool false, .string t460, .string t461] 24 (0, 0)) (by (with_reducible repeat (first | refine blk_drewN ?_ _ | refine blk_drew ?_ | refine blk_alloc ?_ _)); refine blk_put (cs := #[.bool false, .string t460, .string (⟨#[]⟩ : ByteArray)]) ?_ 2 _ rfl; (with_reducible repeat (first | refine blk_drewN ?_ _ | refine blk_drew ?_ | refine blk_alloc ?_ _)); refine blk_put (cs := #[.bool false, .string (⟨#[]⟩ : ByteArray), .string (⟨#[]⟩ : ByteArray)]) ?_ 1 _ rfl; (with_reducible repeat (first | refine blk_drewN ?_ _ | refine blk_drew ?_ | refine blk_alloc ?_ _)); refine blk_put (cs := #[.bool false, .string (⟨#[]⟩ : ByteArray), .string (⟨#[]⟩ : ByteArray)]) ?_ 0 _ rfl; (with_reducible repeat (first | refine blk_drewN ?_ _ | refine blk_drew ?_ | refine blk_alloc ?_ _)); exact BK462.out) hb); have n1_ := Aside0.mk (below_step (by repeat (first | (with_reducible first | exact HB.out | apply below_alloc | apply pw_below_drewN | apply below_drew1 | refine below_set ?_ GE462.out) | exact HB.out)) hb); clear BK462; clear HB; have BK462 := n0_; have HB := n1_; clear n0_ n1_; (try clear hb); (try clear hb2); (try clear hk); (try clear hi))))
        go_ret
        exact ⟨by first | rfl | (simp [errW_none, errW_some] <;> rfl) | (simp [*, errW_none, errW_some] <;> rfl), by repeat (first | (with_reducible first | exact HB.out | apply below_alloc | apply pw_below_drewN | apply below_drew1 | refine below_set ?_ GE462.out) | exact HB.out)⟩
      · rw [if_neg c32] at H
        have c32b0 : (!false && (t460.toList == ([] : List UInt8) && (t461.toList == ([] : List UInt8)))) = false := by simpa using c32
        (try (have c32b1 : (((t460).toList.isEmpty && ((t461).toList.isEmpty))) = false := by simpa using c32))
        clear c32
        obtain rfl := Option.some.inj H
        go_enter Try.func9, Try.ntmps9
        go_wp2_with (first | (go_at_call 18; (with_reducible refine (curl_Parse.calls k a0 false t460 t461 _ A5.out).mono ?_); rintro e w38 ⟨rfl, hb⟩; have n0_ := Aside0.mk (below_step (by repeat (first | (with_reducible first | exact HB.out | apply below_alloc | apply pw_below_drewN | apply below_drew1) | exact HB.out)) hb); clear HB; have HB := n0_; clear n0_; (try clear hb); (try clear hb2); (try clear hk); (try clear hi)) | ((with_reducible refine gate_dst (N := 3) rfl ?_); refine box_event ?hg (N := 3) ?hd (cs := #[.bool false, .string (⟨#[]⟩ : ByteArray), .string (⟨#[]⟩ : ByteArray)]) (t := 24) ?hr ?_; (case hd => rfl); (case hg => rfl); (case hr => first | (go_simp; done) | (go_simp; rfl)); intro gb462 hg w39 hbox hb; have n0_ := Aside0.mk (below_step (by repeat (first | (with_reducible first | exact HB.out | apply below_alloc | apply pw_below_drewN | apply below_drew1) | exact HB.out)) hb); have n1_ := Aside0.mk (hbox); have n2_ := Aside0.mk ((by rw [hg]; exact (below_size (by repeat (first | (with_reducible first | exact HB.out | apply below_alloc | apply pw_below_drewN | apply below_drew1) | exact HB.out))) : w.heap.size ≤ gb462)); have n3_ := Aside0.mk ((by rw [hg]; exact (below_size (by repeat (first | (with_reducible first | exact HB.out | apply below_alloc | apply pw_below_drewN | apply below_drew1) | exact HB.out))) : w.heap.size ≤ gb462)); clear HB; have HB := n0_; have BK462 := n1_; have GW462 := n2_; have GE462 := n3_; clear n0_ n1_ n2_ n3_; clear hb hbox hg; have hcz40_0 : w39.cell? ⟨gb462, 0, none⟩ = some (.bool false) := (blk_cell BK462.out 0).trans rfl; have hcz40_1 : w39.cell? ⟨gb462, 1, none⟩ = some (.string (⟨#[]⟩ : ByteArray)) := (blk_cell BK462.out 1).trans rfl; have hcz40_2 : w39.cell? ⟨gb462, 2, none⟩ = some (.string (⟨#[]⟩ : ByteArray)) := (blk_cell BK462.out 2).trans rfl; have hfz40_0 := blk_frozen BK462.out 0; have hfz40_1 := blk_frozen BK462.out 1; have hfz40_2 := blk_frozen BK462.out 2))
        repeat (go_quiet (first | (go_at_call 18; (with_reducible refine (curl_Parse.calls k a0 false t460 t461 _ A5.out).mono ?_); rintro e w38 ⟨rfl, hb⟩; have n0_ := Aside0.mk (below_step (by repeat (first | (with_reducible first | exact HB.out | apply below_alloc | apply pw_below_drewN | apply below_drew1) | exact HB.out)) hb); clear HB; have HB := n0_; clear n0_; (try clear hb); (try clear hb2); (try clear hk); (try clear hi)) | ((with_reducible refine gate_dst (N := 3) rfl ?_); refine box_event ?hg (N := 3) ?hd (cs := #[.bool false, .string (⟨#[]⟩ : ByteArray), .string (⟨#[]⟩ : ByteArray)]) (t := 24) ?hr ?_; (case hd => rfl); (case hg => rfl); (case hr => first | (go_simp; done) | (go_simp; rfl)); intro gb462 hg w39 hbox hb; have n0_ := Aside0.mk (below_step (by repeat (first | (with_reducible first | exact HB.out | apply below_alloc | apply pw_below_drewN | apply below_drew1) | exact HB.out)) hb); have n1_ := Aside0.mk (hbox); have n2_ := Aside0.mk ((by rw [hg]; exact (below_size (by repeat (first | (with_reducible first | exact HB.out | apply below_alloc | apply pw_below_drewN | apply below_drew1) | exact HB.out))) : w.heap.size ≤ gb462)); have n3_ := Aside0.mk ((by rw [hg]; exact (below_size (by repeat (first | (with_reducible first | exact HB.out | apply below_alloc | apply pw_below_drewN | apply below_drew1) | exact HB.out))) : w.heap.size ≤ gb462)); clear HB; have HB := n0_; have BK462 := n1_; have GW462 := n2_; have GE462 := n3_; clear n0_ n1_ n2_ n3_; clear hb hbox hg; have hcz40_0 : w39.cell? ⟨gb462, 0, none⟩ = some (.bool false) := (blk_cell BK462.out 0).trans rfl; have hcz40_1 : w39.cell? ⟨gb462, 1, none⟩ = some (.string (⟨#[]⟩ : ByteArray)) := (blk_cell BK462.out 1).trans rfl; have hcz40_2 : w39.cell? ⟨gb462, 2, none⟩ = some (.string (⟨#[]⟩ : ByteArray)) := (blk_cell BK462.out 2).trans rfl; have hfz40_0 := blk_frozen BK462.out 0; have hfz40_1 := blk_frozen BK462.out 1; have hfz40_2 := blk_frozen BK462.out 2)); try go_wp2_with (first | (go_at_call 18; (with_reducible refine (curl_Parse.calls k a0 false t460 t461 _ A5.out).mono ?_); rintro e w38 ⟨rfl, hb⟩; have n0_ := Aside0.mk (below_step (by repeat (first | (with_reducible first | exact HB.out | apply below_alloc | apply pw_below_drewN | apply below_drew1) | exact HB.out)) hb); clear HB; have HB := n0_; clear n0_; (try clear hb); (try clear hb2); (try clear hk); (try clear hi)) | ((with_reducible refine gate_dst (N := 3) rfl ?_); refine box_event ?hg (N := 3) ?hd (cs := #[.bool false, .string (⟨#[]⟩ : ByteArray), .string (⟨#[]⟩ : ByteArray)]) (t := 24) ?hr ?_; (case hd => rfl); (case hg => rfl); (case hr => first | (go_simp; done) | (go_simp; rfl)); intro gb462 hg w39 hbox hb; have n0_ := Aside0.mk (below_step (by repeat (first | (with_reducible first | exact HB.out | apply below_alloc | apply pw_below_drewN | apply below_drew1) | exact HB.out)) hb); have n1_ := Aside0.mk (hbox); have n2_ := Aside0.mk ((by rw [hg]; exact (below_size (by repeat (first | (with_reducible first | exact HB.out | apply below_alloc | apply pw_below_drewN | apply below_drew1) | exact HB.out))) : w.heap.size ≤ gb462)); have n3_ := Aside0.mk ((by rw [hg]; exact (below_size (by repeat (first | (with_reducible first | exact HB.out | apply below_alloc | apply pw_below_drewN | apply below_drew1) | exact HB.out))) : w.heap.size ≤ gb462)); clear HB; have HB := n0_; have BK462 := n1_; have GW462 := n2_; have GE462 := n3_; clear n0_ n1_ n2_ n3_; clear hb hbox hg; have hcz40_0 : w39.cell? ⟨gb462, 0, none⟩ = some (.bool false) := (blk_cell BK462.out 0).trans rfl; have hcz40_1 : w39.cell? ⟨gb462, 1, none⟩ = some (.string (⟨#[]⟩ : ByteArray)) := (blk_cell BK462.out 1).trans rfl; have hcz40_2 : w39.cell? ⟨gb462, 2, none⟩ = some (.string (⟨#[]⟩ : ByteArray)) := (blk_cell BK462.out 2).trans rfl; have hfz40_0 := blk_frozen BK462.out 0; have hfz40_1 := blk_frozen BK462.out 1; have hfz40_2 := blk_frozen BK462.out 2)))
        go_ret
        exact ⟨by first | rfl | (simp [errW_none, errW_some] <;> rfl) | (simp [*, errW_none, errW_some] <;> rfl), by repeat (first | (with_reducible first | exact HB.out | apply below_alloc | apply pw_below_drewN | apply below_drew1 | refine below_set ?_ GE462.out) | exact HB.out)⟩

/-- THE ONE PURE STATEMENT of shibbolethlaw22_CurlSpans: yours. -/
def shibbolethlaw22_CurlSpans.Pure : Prop := ∀ (a0 : ByteArray), a0.size ≤ 140737488351232 → ∃ k, shibbolethlaw22_CurlSpans.f k a0 = some true
theorem shibbolethlaw22_CurlSpans.walk (P : shibbolethlaw22_CurlSpans.Pure) (a0 : ByteArray) (w : World) (w0 : a0.size ≤ 140737488351232) :
    Calls Try.prog 9 #[.string a0] w fun e w' => e = .returned (.bool true) ∧ Below w.heap.size w w' := by
  obtain ⟨k, h⟩ := P a0 w0
  refine (shibbolethlaw22_CurlSpans.calls k a0 true w h).mono ?_
  rintro e w' ⟨rfl, hd⟩
  exact ⟨rfl, hd⟩

end Go.Proofs.Ytbjfcnhaedhbaaa.ZA

/- My own print (tools/mp.py) of functions of this seat: each function as a plain Lean function, and the proof that the code does what that function says. -/
import Derived.Test.YtiihgddpejmehaaGreatDoorZA0
import Derived.Test.YtiihgddpejmehaaGreatDoorZA1
import Derived.Test.YtiihgddpejmehaaGreatDoorZA8
import Derived.Test.YtiihgddpejmehaaGreatDoorZA9
namespace Go.Proofs.YtiihgddpejmehaaGreatDoor.ZA
open Go.RowKit Go.Proofs.YtiihgddpejmehaaGreatDoorW.PrintWords Go.Proofs.YtiihgddpejmehaaGreatDoorW.PrintLast Go.Proofs.YtiihgddpejmehaaGreatDoorW.PrintMore
attribute [local go_sem] max2_int min2_int max_two min_two max_three min_three max_four min_four   -- for this text's walks alone
set_option linter.unusedVariables false
set_option linter.unusedSimpArgs false

attribute [local go_sem high] eqA30
theorem idxParts (i : Int) (h0 : 0 ≤ i) (h1 : i < 5) (w : World) : (Instr.index 48 (.agg #[.string ⟨#[102, 116, 112]⟩, .string ⟨#[72, 84, 84, 80]⟩, .string ⟨#[104, 116, 116, 112, 83]⟩, .string ⟨#[119, 115]⟩, .string ⟨#[87, 83, 115]⟩]) (.int .u8 i)).run Tryz.prog w = .ok (.string (rdOf ByteArray.empty ([(⟨#[102, 116, 112]⟩ : ByteArray), (⟨#[72, 84, 84, 80]⟩ : ByteArray), (⟨#[104, 116, 116, 112, 83]⟩ : ByteArray), (⟨#[119, 115]⟩ : ByteArray), (⟨#[87, 83, 115]⟩ : ByteArray)] : List ByteArray) i)) w := by
  have hi : i = 0 ∨ i = 1 ∨ i = 2 ∨ i = 3 ∨ i = 4 := by omega
  rcases hi with rfl | rfl | rfl | rfl | rfl <;> simp [Instr.index, run_underlying Tryz.underlying48, asIntOf, go_sem, rdOf]
attribute [local go_sem high] idxParts
/-! ### shibbolethlaw18_WhatwgParts: function 8 -/
mutual
def shibbolethlaw18_WhatwgParts.j0 : Nat → Int → List Bool → ByteArray → ByteArray → ByteArray → ByteArray → Int → Bool → Option (Bool)
  | 0, _, _, _, _, _, _, _, _ => none
  | k + 1, x0, x1, x2, x3, x4, x5, x6, x39 => if x39 = true then ((shibbolethlaw18_awake.f k).bind fun t221 => (some t221)) else (if 0 ≤ (Int.tmod x0 5) then (if (Int.tmod x0 5) < 5 then (if (rdOf ByteArray.empty ([(⟨#[102, 116, 112]⟩ : ByteArray), (⟨#[72, 84, 84, 80]⟩ : ByteArray), (⟨#[104, 116, 116, 112, 83]⟩ : ByteArray), (⟨#[119, 115]⟩ : ByteArray), (⟨#[87, 83, 115]⟩ : ByteArray)] : List ByteArray) (Int.tmod x0 5)).size + 1 ≤ 9223372036854775807 then (shibbolethlaw18_WhatwgParts.l0 k x1 x2 x3 x4 x5 x6 ((rdOf ByteArray.empty ([(⟨#[102, 116, 112]⟩ : ByteArray), (⟨#[72, 84, 84, 80]⟩ : ByteArray), (⟨#[104, 116, 116, 112, 83]⟩ : ByteArray), (⟨#[119, 115]⟩ : ByteArray), (⟨#[87, 83, 115]⟩ : ByteArray)] : List ByteArray) (Int.tmod x0 5)) ++ (⟨#[58]⟩ : ByteArray)) 0) else (none)) else (none)) else (none))
def shibbolethlaw18_WhatwgParts.l0 : Nat → List Bool → ByteArray → ByteArray → ByteArray → ByteArray → Int → ByteArray → Int → Option (Bool)
  | 0, _, _, _, _, _, _, _, _ => none
  | k + 1, x1, x2, x3, x4, x5, x6, x15, x16 => if x16 < (x1.length : Int) then (if 0 ≤ x16 then (if rdOf false x1 x16 = true then (if x15.size + 1 ≤ 9223372036854775807 then (shibbolethlaw18_WhatwgParts.l0 k x1 x2 x3 x4 x5 x6 (x15 ++ (⟨#[47]⟩ : ByteArray)) (wrap64 (x16 + 1))) else (none)) else (if x15.size + 1 ≤ 9223372036854775807 then (shibbolethlaw18_WhatwgParts.l0 k x1 x2 x3 x4 x5 x6 (x15 ++ (⟨#[92]⟩ : ByteArray)) (wrap64 (x16 + 1))) else (none))) else (none)) else ((shibbolethlaw18_has.f k x2 (⟨#[47, 92, 63, 35, 9, 10, 13]⟩ : ByteArray)).bind fun t223 => (if t223 = true then (shibbolethlaw18_WhatwgParts.j2 k x2 x3 x4 x5 x6 x15 true) else ((shibbolethlaw18_has.f k x3 (⟨#[47, 92, 63, 35, 64, 58, 91, 93, 60, 62, 94, 124, 127]⟩ : ByteArray)).bind fun t224 => (if t224 = true then (shibbolethlaw18_WhatwgParts.j2 k x2 x3 x4 x5 x6 x15 true) else ((shibbolethlaw18_low.f k x3).bind fun t225 => (if t225 = true then (shibbolethlaw18_WhatwgParts.j2 k x2 x3 x4 x5 x6 x15 true) else (if x3.toList = ([] : List UInt8) then (shibbolethlaw18_WhatwgParts.j2 k x2 x3 x4 x5 x6 x15 true) else ((shibbolethlaw18_has.f k x4 (⟨#[63, 35, 9, 10, 13]⟩ : ByteArray)).bind fun t226 => (shibbolethlaw18_WhatwgParts.j2 k x2 x3 x4 x5 x6 x15 t226)))))))))
def shibbolethlaw18_WhatwgParts.j2 : Nat → ByteArray → ByteArray → ByteArray → ByteArray → Int → ByteArray → Bool → Option (Bool)
  | 0, _, _, _, _, _, _, _ => none
  | k + 1, x2, x3, x4, x5, x6, x15, x77 => if x77 = true then ((shibbolethlaw18_awake.f k).bind fun t227 => (some t227)) else (if x15.size + x2.size ≤ 9223372036854775807 then (if (x15 ++ x2).size + 1 ≤ 9223372036854775807 then (if ((x15 ++ x2) ++ (⟨#[64]⟩ : ByteArray)).size + x3.size ≤ 9223372036854775807 then (if (Int.tmod x6 2) = 1 then (if (((x15 ++ x2) ++ (⟨#[64]⟩ : ByteArray)) ++ x3).size + 3 ≤ 9223372036854775807 then (if ((((x15 ++ x2) ++ (⟨#[64]⟩ : ByteArray)) ++ x3) ++ (⟨#[58, 56, 48]⟩ : ByteArray)).size + 1 ≤ 9223372036854775807 then (if (((((x15 ++ x2) ++ (⟨#[64]⟩ : ByteArray)) ++ x3) ++ (⟨#[58, 56, 48]⟩ : ByteArray)) ++ (⟨#[47]⟩ : ByteArray)).size + x4.size ≤ 9223372036854775807 then (if ((((((x15 ++ x2) ++ (⟨#[64]⟩ : ByteArray)) ++ x3) ++ (⟨#[58, 56, 48]⟩ : ByteArray)) ++ (⟨#[47]⟩ : ByteArray)) ++ x4).size + 1 ≤ 9223372036854775807 then (if (((((((x15 ++ x2) ++ (⟨#[64]⟩ : ByteArray)) ++ x3) ++ (⟨#[58, 56, 48]⟩ : ByteArray)) ++ (⟨#[47]⟩ : ByteArray)) ++ x4) ++ (⟨#[63]⟩ : ByteArray)).size + x5.size ≤ 9223372036854775807 then (if ((((((((x15 ++ x2) ++ (⟨#[64]⟩ : ByteArray)) ++ x3) ++ (⟨#[58, 56, 48]⟩ : ByteArray)) ++ (⟨#[47]⟩ : ByteArray)) ++ x4) ++ (⟨#[63]⟩ : ByteArray)) ++ x5).size + 1 ≤ 9223372036854775807 then ((whatwg_Parse.f k (((((((((x15 ++ x2) ++ (⟨#[64]⟩ : ByteArray)) ++ x3) ++ (⟨#[58, 56, 48]⟩ : ByteArray)) ++ (⟨#[47]⟩ : ByteArray)) ++ x4) ++ (⟨#[63]⟩ : ByteArray)) ++ x5) ++ (⟨#[120]⟩ : ByteArray))).bind fun bt228 => (if 1 + x4.size ≤ 9223372036854775807 then (if (bt228.1 && (bt228.2.1.toList == x3.toList && (bt228.2.2.toList == (((⟨#[47]⟩ : ByteArray) ++ x4).toList)))) = true then ((shibbolethlaw18_awake.f k).bind fun t231 => (some t231)) else (some false)) else (none))) else (none)) else (none)) else (none)) else (none)) else (none)) else (none)) else (if (((x15 ++ x2) ++ (⟨#[64]⟩ : ByteArray)) ++ x3).size + 1 ≤ 9223372036854775807 then (if ((((x15 ++ x2) ++ (⟨#[64]⟩ : ByteArray)) ++ x3) ++ (⟨#[47]⟩ : ByteArray)).size + x4.size ≤ 9223372036854775807 then (if (((((x15 ++ x2) ++ (⟨#[64]⟩ : ByteArray)) ++ x3) ++ (⟨#[47]⟩ : ByteArray)) ++ x4).size + 1 ≤ 9223372036854775807 then (if ((((((x15 ++ x2) ++ (⟨#[64]⟩ : ByteArray)) ++ x3) ++ (⟨#[47]⟩ : ByteArray)) ++ x4) ++ (⟨#[63]⟩ : ByteArray)).size + x5.size ≤ 9223372036854775807 then (if (((((((x15 ++ x2) ++ (⟨#[64]⟩ : ByteArray)) ++ x3) ++ (⟨#[47]⟩ : ByteArray)) ++ x4) ++ (⟨#[63]⟩ : ByteArray)) ++ x5).size + 1 ≤ 9223372036854775807 then ((whatwg_Parse.f k ((((((((x15 ++ x2) ++ (⟨#[64]⟩ : ByteArray)) ++ x3) ++ (⟨#[47]⟩ : ByteArray)) ++ x4) ++ (⟨#[63]⟩ : ByteArray)) ++ x5) ++ (⟨#[120]⟩ : ByteArray))).bind fun bt232 => (if 1 + x4.size ≤ 9223372036854775807 then (if (bt232.1 && (bt232.2.1.toList == x3.toList && (bt232.2.2.toList == (((⟨#[47]⟩ : ByteArray) ++ x4).toList)))) = true then ((shibbolethlaw18_awake.f k).bind fun t235 => (some t235)) else (some false)) else (none))) else (none)) else (none)) else (none)) else (none)) else (none))) else (none)) else (none)) else (none))
end
def shibbolethlaw18_WhatwgParts.f (k : Nat) (a0 : Int) (l1 : List Bool) (a2 : ByteArray) (a3 : ByteArray) (a4 : ByteArray) (a5 : ByteArray) (a6 : Int) : Option (Bool) := if (a2.size : Int) > 300 then (shibbolethlaw18_WhatwgParts.j0 k a0 l1 a2 a3 a4 a5 a6 true) else (if (a3.size : Int) > 300 then (shibbolethlaw18_WhatwgParts.j0 k a0 l1 a2 a3 a4 a5 a6 true) else (if (a4.size : Int) > 300 then (shibbolethlaw18_WhatwgParts.j0 k a0 l1 a2 a3 a4 a5 a6 true) else (if (a5.size : Int) > 300 then (shibbolethlaw18_WhatwgParts.j0 k a0 l1 a2 a3 a4 a5 a6 true) else (shibbolethlaw18_WhatwgParts.j0 k a0 l1 a2 a3 a4 a5 a6 (decide ((l1.length : Int) > 20))))))
theorem shibbolethlaw18_WhatwgParts.mono_l : ∀ k, (∀ y0 y1 y2 y3 y4 y5 y6 y7, LeO (shibbolethlaw18_WhatwgParts.j0 k y0 y1 y2 y3 y4 y5 y6 y7) (shibbolethlaw18_WhatwgParts.j0 (k + 1) y0 y1 y2 y3 y4 y5 y6 y7)) ∧ (∀ y0 y1 y2 y3 y4 y5 y6 y7, LeO (shibbolethlaw18_WhatwgParts.l0 k y0 y1 y2 y3 y4 y5 y6 y7) (shibbolethlaw18_WhatwgParts.l0 (k + 1) y0 y1 y2 y3 y4 y5 y6 y7)) ∧ (∀ y0 y1 y2 y3 y4 y5 y6, LeO (shibbolethlaw18_WhatwgParts.j2 k y0 y1 y2 y3 y4 y5 y6) (shibbolethlaw18_WhatwgParts.j2 (k + 1) y0 y1 y2 y3 y4 y5 y6))
  | 0 => ⟨fun _ _ _ _ _ _ _ _ r h => by simp [shibbolethlaw18_WhatwgParts.j0] at h, fun _ _ _ _ _ _ _ _ r h => by simp [shibbolethlaw18_WhatwgParts.l0] at h, fun _ _ _ _ _ _ _ r h => by simp [shibbolethlaw18_WhatwgParts.j2] at h⟩
  | k + 1 => by
    obtain ⟨ih0, ih1, ih2⟩ := shibbolethlaw18_WhatwgParts.mono_l k
    refine ⟨?_, ?_, ?_⟩
    · intro y0 y1 y2 y3 y4 y5 y6 y7
      unfold shibbolethlaw18_WhatwgParts.j0
      repeat' first
      | (with_reducible exact ih0 _ _ _ _ _ _ _ _)
      | (with_reducible exact ih1 _ _ _ _ _ _ _ _)
      | (with_reducible exact ih2 _ _ _ _ _ _ _)
      | (with_reducible exact shibbolethlaw18_awake.mono _)
      | (with_reducible exact shibbolethlaw18_has.mono _ _ _)
      | (with_reducible exact shibbolethlaw18_low.mono _ _)
      | (with_reducible exact whatwg_Parse.mono _ _)
      | (with_reducible exact LeO.refl _)
      | (with_reducible exact LeO.none _)
      | (with_reducible refine LeO.ite ?_ ?_)
      | (with_reducible refine LeO.bind ?_ (fun _ => ?_))
      | exact ih0 _ _ _ _ _ _ _ _
      | exact ih1 _ _ _ _ _ _ _ _
      | exact ih2 _ _ _ _ _ _ _
      | exact shibbolethlaw18_awake.mono _
      | exact shibbolethlaw18_has.mono _ _ _
      | exact shibbolethlaw18_low.mono _ _
      | exact whatwg_Parse.mono _ _
      | exact LeO.none _
      | refine LeO.ite ?_ ?_
      | refine LeO.bind ?_ (fun _ => ?_)
    · intro y0 y1 y2 y3 y4 y5 y6 y7
      unfold shibbolethlaw18_WhatwgParts.l0
      repeat' first
      | (with_reducible exact ih0 _ _ _ _ _ _ _ _)
      | (with_reducible exact ih1 _ _ _ _ _ _ _ _)
      | (with_reducible exact ih2 _ _ _ _ _ _ _)
      | (with_reducible exact shibbolethlaw18_awake.mono _)
      | (with_reducible exact shibbolethlaw18_has.mono _ _ _)
      | (with_reducible exact shibbolethlaw18_low.mono _ _)
      | (with_reducible exact whatwg_Parse.mono _ _)
      | (with_reducible exact LeO.refl _)
      | (with_reducible exact LeO.none _)
      | (with_reducible refine LeO.ite ?_ ?_)
      | (with_reducible refine LeO.bind ?_ (fun _ => ?_))
      | exact ih0 _ _ _ _ _ _ _ _
      | exact ih1 _ _ _ _ _ _ _ _
      | exact ih2 _ _ _ _ _ _ _
      | exact shibbolethlaw18_awake.mono _
      | exact shibbolethlaw18_has.mono _ _ _
      | exact shibbolethlaw18_low.mono _ _
      | exact whatwg_Parse.mono _ _
      | exact LeO.none _
      | refine LeO.ite ?_ ?_
      | refine LeO.bind ?_ (fun _ => ?_)
    · intro y0 y1 y2 y3 y4 y5 y6
      unfold shibbolethlaw18_WhatwgParts.j2
      repeat' first
      | (with_reducible exact ih0 _ _ _ _ _ _ _ _)
      | (with_reducible exact ih1 _ _ _ _ _ _ _ _)
      | (with_reducible exact ih2 _ _ _ _ _ _ _)
      | (with_reducible exact shibbolethlaw18_awake.mono _)
      | (with_reducible exact shibbolethlaw18_has.mono _ _ _)
      | (with_reducible exact shibbolethlaw18_low.mono _ _)
      | (with_reducible exact whatwg_Parse.mono _ _)
      | (with_reducible exact LeO.refl _)
      | (with_reducible exact LeO.none _)
      | (with_reducible refine LeO.ite ?_ ?_)
      | (with_reducible refine LeO.bind ?_ (fun _ => ?_))
      | exact ih0 _ _ _ _ _ _ _ _
      | exact ih1 _ _ _ _ _ _ _ _
      | exact ih2 _ _ _ _ _ _ _
      | exact shibbolethlaw18_awake.mono _
      | exact shibbolethlaw18_has.mono _ _ _
      | exact shibbolethlaw18_low.mono _ _
      | exact whatwg_Parse.mono _ _
      | exact LeO.none _
      | refine LeO.ite ?_ ?_
      | refine LeO.bind ?_ (fun _ => ?_)
theorem shibbolethlaw18_WhatwgParts.mono : ∀ a0 a1 a2 a3 a4 a5 a6 k, LeO (shibbolethlaw18_WhatwgParts.f k a0 a1 a2 a3 a4 a5 a6) (shibbolethlaw18_WhatwgParts.f (k + 1) a0 a1 a2 a3 a4 a5 a6) := by
  intro a0 a1 a2 a3 a4 a5 a6 k
  obtain ⟨ih0, ih1, ih2⟩ := shibbolethlaw18_WhatwgParts.mono_l k
  unfold shibbolethlaw18_WhatwgParts.f
  repeat' first
      | (with_reducible exact ih0 _ _ _ _ _ _ _ _)
      | (with_reducible exact ih1 _ _ _ _ _ _ _ _)
      | (with_reducible exact ih2 _ _ _ _ _ _ _)
      | (with_reducible exact shibbolethlaw18_awake.mono _)
      | (with_reducible exact shibbolethlaw18_has.mono _ _ _)
      | (with_reducible exact shibbolethlaw18_low.mono _ _)
      | (with_reducible exact whatwg_Parse.mono _ _)
      | (with_reducible exact LeO.refl _)
      | (with_reducible exact LeO.none _)
      | (with_reducible refine LeO.ite ?_ ?_)
      | (with_reducible refine LeO.bind ?_ (fun _ => ?_))
      | exact ih0 _ _ _ _ _ _ _ _
      | exact ih1 _ _ _ _ _ _ _ _
      | exact ih2 _ _ _ _ _ _ _
      | exact shibbolethlaw18_awake.mono _
      | exact shibbolethlaw18_has.mono _ _ _
      | exact shibbolethlaw18_low.mono _ _
      | exact whatwg_Parse.mono _ _
      | exact LeO.none _
      | refine LeO.ite ?_ ?_
      | refine LeO.bind ?_ (fun _ => ?_)
set_option maxHeartbeats 8000000 in
set_option maxRecDepth 100000 in
theorem shibbolethlaw18_WhatwgParts.calls (k : Nat) (a0 : Int) (A1 : Option Addr) (c1 : Nat) (l1 : List Bool) (a2 : ByteArray) (a3 : ByteArray) (a4 : ByteArray) (a5 : ByteArray) (a6 : Int) (r : Bool) (w : World) (hr1 : Kd.C Kd.bool w A1 l1.length l1) (hc1 : l1.length ≤ c1) (h : shibbolethlaw18_WhatwgParts.f k a0 l1 a2 a3 a4 a5 a6 = some r) (hT_ : Lib.Utf8Tabs (sh_lays230_ren.g 3) (sh_lays230_ren.g 4) w) :
    Calls Tryz.prog 8 #[.int .u8 a0, .slice A1 l1.length c1, .string a2, .string a3, .string a4, .string a5, .int .u16 a6] w fun e w' => e = .returned (.bool r) ∧ Below w.heap.size w w' := by
  have HU8_ := Aside0.mk hT_
  clear hT_
  have hu48 := Tryz.underlying48
  have hu30 := Tryz.underlying30
  have HR1 := Aside0.mk hr1
  have HC1 := Aside0.mk hc1
  clear hr1 hc1
  have HB := Aside0.mk (Below.refl w.heap.size w)
  have H : (if (a2.size : Int) > 300 then (shibbolethlaw18_WhatwgParts.j0 k a0 l1 a2 a3 a4 a5 a6 true) else (if (a3.size : Int) > 300 then (shibbolethlaw18_WhatwgParts.j0 k a0 l1 a2 a3 a4 a5 a6 true) else (if (a4.size : Int) > 300 then (shibbolethlaw18_WhatwgParts.j0 k a0 l1 a2 a3 a4 a5 a6 true) else (if (a5.size : Int) > 300 then (shibbolethlaw18_WhatwgParts.j0 k a0 l1 a2 a3 a4 a5 a6 true) else (shibbolethlaw18_WhatwgParts.j0 k a0 l1 a2 a3 a4 a5 a6 (decide ((l1.length : Int) > 20))))))) = some r := h
  clear h
  have HC8 := Aside0.mk H
  clear H
  go_enter Tryz.func8, Tryz.ntmps8
  go_upto_region 1 with (fail)
  go_cut [39] (fun v39 wc => ∃ (kq : Nat) (x39_7 : Bool), v39 = .bool x39_7 ∧ Aside0 (shibbolethlaw18_WhatwgParts.j0 kq a0 l1 a2 a3 a4 a5 a6 x39_7 = some r) ∧ Aside0 (kq ≤ k) ∧ Aside0 (Below w.heap.size w wc))
  case first =>
    have H := HC8.out
    clear HC8
    by_cases c9 : (a2.size : Int) > 300
    · rw [if_pos c9] at H
      have c9b0 : decide (300 < (a2.size : Int)) = true := decide_eq_true c9
      have c9b1 : decide (300 < a2.size) = true := decide_eq_true (by omega)
      clear c9
      (first | rw [c9b0] | (simp only [i64_w, i32_w]; rw [c9b0]) | skip)
      have H' := Aside0.mk H
      clear H
      go_wp2
      go_meet
      case rel => exact ⟨_, (true), (by first | rfl | (simp; done) | (simp [*]; done)), H', ⟨by first | omega | exact Nat.le_refl _⟩, ⟨by repeat (first | (with_reducible first | exact HB.out | apply below_alloc | apply pw_below_drewN | apply below_drew1) | exact HB.out)⟩⟩
    · rw [if_neg c9] at H
      have c9b0 : decide (300 < (a2.size : Int)) = false := decide_eq_false c9
      have c9b1 : decide (300 < a2.size) = false := decide_eq_false (by omega)
      clear c9
      (first | rw [c9b0] | (simp only [i64_w, i32_w]; rw [c9b0]) | skip)
      by_cases c10 : (a3.size : Int) > 300
      · rw [if_pos c10] at H
        have c10b0 : decide (300 < (a3.size : Int)) = true := decide_eq_true c10
        have c10b1 : decide (300 < a3.size) = true := decide_eq_true (by omega)
        clear c10
        have H' := Aside0.mk H
        clear H
        go_wp2
        go_meet
        case rel => exact ⟨_, (true), (by first | rfl | (simp; done) | (simp [*]; done)), H', ⟨by first | omega | exact Nat.le_refl _⟩, ⟨by repeat (first | (with_reducible first | exact HB.out | apply below_alloc | apply pw_below_drewN | apply below_drew1) | exact HB.out)⟩⟩
      · rw [if_neg c10] at H
        have c10b0 : decide (300 < (a3.size : Int)) = false := decide_eq_false c10
        have c10b1 : decide (300 < a3.size) = false := decide_eq_false (by omega)
        clear c10
        by_cases c11 : (a4.size : Int) > 300
        · rw [if_pos c11] at H
          have c11b0 : decide (300 < (a4.size : Int)) = true := decide_eq_true c11
          have c11b1 : decide (300 < a4.size) = true := decide_eq_true (by omega)
          clear c11
          have H' := Aside0.mk H
          clear H
          go_wp2
          go_meet
          case rel => exact ⟨_, (true), (by first | rfl | (simp; done) | (simp [*]; done)), H', ⟨by first | omega | exact Nat.le_refl _⟩, ⟨by repeat (first | (with_reducible first | exact HB.out | apply below_alloc | apply pw_below_drewN | apply below_drew1) | exact HB.out)⟩⟩
        · rw [if_neg c11] at H
          have c11b0 : decide (300 < (a4.size : Int)) = false := decide_eq_false c11
          have c11b1 : decide (300 < a4.size) = false := decide_eq_false (by omega)
          clear c11
          by_cases c12 : (a5.size : Int) > 300
          · rw [if_pos c12] at H
            have c12b0 : decide (300 < (a5.size : Int)) = true := decide_eq_true c12
            have c12b1 : decide (300 < a5.size) = true := decide_eq_true (by omega)
            clear c12
            have H' := Aside0.mk H
            clear H
            go_wp2
            go_meet
            case rel => exact ⟨_, (true), (by first | rfl | (simp; done) | (simp [*]; done)), H', ⟨by first | omega | exact Nat.le_refl _⟩, ⟨by repeat (first | (with_reducible first | exact HB.out | apply below_alloc | apply pw_below_drewN | apply below_drew1) | exact HB.out)⟩⟩
          · rw [if_neg c12] at H
            have c12b0 : decide (300 < (a5.size : Int)) = false := decide_eq_false c12
            have c12b1 : decide (300 < a5.size) = false := decide_eq_false (by omega)
            clear c12
            have H' := Aside0.mk H
            clear H
            go_wp2
            go_meet
            case rel => exact ⟨_, (decide ((l1.length : Int) > 20)), (by first | rfl | (simp; done) | (simp [*]; done)), H', ⟨by first | omega | exact Nat.le_refl _⟩, ⟨by repeat (first | (with_reducible first | exact HB.out | apply below_alloc | apply pw_below_drewN | apply below_drew1) | exact HB.out)⟩⟩
  case rest =>
    clear HC8
    try clear c1
    try clear p2
    try clear c8
    try clear c9
    try clear c9b0
    try clear c9b1
    try clear c10
    try clear c10b0
    try clear c10b1
    try clear c11
    try clear c11b0
    try clear c11b1
    try clear c12
    try clear c12b0
    try clear c12b1
    obtain ⟨kq, x39_7, rfl, HA, HJ7, HB⟩ := hcut
    cases kq with
    | zero => exact absurd HA.out (by simp [shibbolethlaw18_WhatwgParts.j0])
    | succ kj7 =>
      have H := HA.out
      clear HA
      simp only [shibbolethlaw18_WhatwgParts.j0] at H
      by_cases c13 : x39_7 = true
      · subst c13
        have H1 : ((shibbolethlaw18_awake.f kj7).bind fun t221 => (some t221)) = some r := by rw [if_pos rfl] at H; exact H
        clear H
        have H := H1
        clear H1
        replace H := Option.bind_eq_some_iff.mp H
        obtain ⟨t221, A140, H⟩ := H
        replace H : (some t221) = some r := H
        have A14 := Aside0.mk A140
        clear A140
        obtain rfl := Option.some.inj H
        go_wp2_with (first | ((with_reducible refine gate_callee (f := 21) rfl ?_); refine goesL_ (some 40) rfl rfl Tryz.func21 (by kernel_rfl) rfl #[] rfl (by (try simp only [List.map_toArray, List.map_cons, List.map_nil]); first | done | rfl | (simp only [List.length_drop, List.length_take]; rfl)) ?_; (with_reducible refine (shibbolethlaw18_awake.calls kj7  t221 _ A14.out ?sideT).mono ?_); (case sideT => exact Utf8Tabs_below HU8_.out (by repeat (first | (with_reducible first | exact HB.out | apply below_alloc | apply pw_below_drewN | apply below_drew1) | exact HB.out))); rintro e w15 ⟨rfl, hb⟩; refine ⟨_, rfl, ?_⟩; have n0_ := Aside0.mk (below_step (by repeat (first | (with_reducible first | exact HB.out | apply below_alloc | apply pw_below_drewN | apply below_drew1) | exact HB.out)) hb); clear HB; have HB := n0_; clear n0_; (try clear hb); (try clear hb2); (try clear hk); (try clear hi)))
        go_ret
        exact ⟨by first | rfl | (simp [errW_none, errW_some] <;> rfl) | (simp [*, errW_none, errW_some] <;> rfl), by repeat (first | (with_reducible first | exact HB.out | apply below_alloc | apply pw_below_drewN | apply below_drew1) | exact HB.out)⟩
      · replace c13 := Bool.eq_false_iff.mpr c13
        subst c13
        have H1 : (if 0 ≤ (Int.tmod a0 5) then (if (Int.tmod a0 5) < 5 then (if (rdOf ByteArray.empty ([(⟨#[102, 116, 112]⟩ : ByteArray), (⟨#[72, 84, 84, 80]⟩ : ByteArray), (⟨#[104, 116, 116, 112, 83]⟩ : ByteArray), (⟨#[119, 115]⟩ : ByteArray), (⟨#[87, 83, 115]⟩ : ByteArray)] : List ByteArray) (Int.tmod a0 5)).size + 1 ≤ 9223372036854775807 then (shibbolethlaw18_WhatwgParts.l0 kj7 l1 a2 a3 a4 a5 a6 ((rdOf ByteArray.empty ([(⟨#[102, 116, 112]⟩ : ByteArray), (⟨#[72, 84, 84, 80]⟩ : ByteArray), (⟨#[104, 116, 116, 112, 83]⟩ : ByteArray), (⟨#[119, 115]⟩ : ByteArray), (⟨#[87, 83, 115]⟩ : ByteArray)] : List ByteArray) (Int.tmod a0 5)) ++ (⟨#[58]⟩ : ByteArray)) 0) else (none)) else (none)) else (none)) = some r := by rw [if_neg (show ¬ (false = true) by decide)] at H; exact H
        clear H
        have H := H1
        clear H1
        obtain ⟨ji16, hji16⟩ : ∃ j_ : Int, (Int.tmod a0 5) = j_ := ⟨_, rfl⟩
        replace H : (if 0 ≤ (ji16) then (if (ji16) < 5 then (if (rdOf ByteArray.empty ([(⟨#[102, 116, 112]⟩ : ByteArray), (⟨#[72, 84, 84, 80]⟩ : ByteArray), (⟨#[104, 116, 116, 112, 83]⟩ : ByteArray), (⟨#[119, 115]⟩ : ByteArray), (⟨#[87, 83, 115]⟩ : ByteArray)] : List ByteArray) (ji16)).size + 1 ≤ 9223372036854775807 then (shibbolethlaw18_WhatwgParts.l0 kj7 l1 a2 a3 a4 a5 a6 ((rdOf ByteArray.empty ([(⟨#[102, 116, 112]⟩ : ByteArray), (⟨#[72, 84, 84, 80]⟩ : ByteArray), (⟨#[104, 116, 116, 112, 83]⟩ : ByteArray), (⟨#[119, 115]⟩ : ByteArray), (⟨#[87, 83, 115]⟩ : ByteArray)] : List ByteArray) (ji16)) ++ (⟨#[58]⟩ : ByteArray)) 0) else (none)) else (none)) else (none)) = some r := by first | (rw [hji16] at H; exact H) | (simp only [hji16] at H ⊢; exact H)
        by_cases c17 : 0 ≤ (ji16)
        · rw [if_pos c17] at H
          have c17b0 := eq_true c17
          have c17b1 : decide (0 ≤ (ji16)) = true := decide_eq_true c17
          clear c17
          by_cases c18 : (ji16) < 5
          · rw [if_pos c18] at H
            have c18b0 := eq_true c18
            have c18b1 : decide ((ji16) < 5) = true := decide_eq_true c18
            clear c18
            by_cases c19 : (rdOf ByteArray.empty ([(⟨#[102, 116, 112]⟩ : ByteArray), (⟨#[72, 84, 84, 80]⟩ : ByteArray), (⟨#[104, 116, 116, 112, 83]⟩ : ByteArray), (⟨#[119, 115]⟩ : ByteArray), (⟨#[87, 83, 115]⟩ : ByteArray)] : List ByteArray) (ji16)).size + 1 ≤ 9223372036854775807
            · rw [if_pos c19] at H
              have c19b0 := eq_true c19
              have c19b1 : decide ((rdOf ByteArray.empty ([(⟨#[102, 116, 112]⟩ : ByteArray), (⟨#[72, 84, 84, 80]⟩ : ByteArray), (⟨#[104, 116, 116, 112, 83]⟩ : ByteArray), (⟨#[119, 115]⟩ : ByteArray), (⟨#[87, 83, 115]⟩ : ByteArray)] : List ByteArray) (ji16)).size + 1 ≤ 9223372036854775807) = true := decide_eq_true c19
              try have c19b2 : (9223372036854775807 < (rdOf ByteArray.empty ([(⟨#[102, 116, 112]⟩ : ByteArray), (⟨#[72, 84, 84, 80]⟩ : ByteArray), (⟨#[104, 116, 116, 112, 83]⟩ : ByteArray), (⟨#[119, 115]⟩ : ByteArray), (⟨#[87, 83, 115]⟩ : ByteArray)] : List ByteArray) (ji16)).size + 1) = False := eq_false (Nat.not_lt.2 c19)
              obtain ⟨ji20, hji20⟩ : ∃ j_ : ByteArray, ((rdOf ByteArray.empty ([(⟨#[102, 116, 112]⟩ : ByteArray), (⟨#[72, 84, 84, 80]⟩ : ByteArray), (⟨#[104, 116, 116, 112, 83]⟩ : ByteArray), (⟨#[119, 115]⟩ : ByteArray), (⟨#[87, 83, 115]⟩ : ByteArray)] : List ByteArray) (ji16)) ++ (⟨#[58]⟩ : ByteArray)) = j_ := ⟨_, rfl⟩
              replace H : (shibbolethlaw18_WhatwgParts.l0 kj7 l1 a2 a3 a4 a5 a6 ji20 0) = some r := by first | (rw [hji20] at H; exact H) | (simp only [hji20] at H ⊢; exact H) | exact H
              have H' := Aside0.mk H
              clear H
              go_wp2
              go_loopg [15, 16] kj7 (fun kq v15 v16 w' => ∃ (x15_2 : ByteArray) (x16_2 : Int), v15 = .string x15_2 ∧ v16 = .int .i64 x16_2 ∧ Aside0 (shibbolethlaw18_WhatwgParts.l0 kq l1 a2 a3 a4 a5 a6 x15_2 x16_2 = some r) ∧ Aside0 (kq ≤ kj7) ∧ Aside0 (Below w.heap.size w w'))
              case atStart => exact ⟨(ji20), (0), (by first | rfl | (simp; done) | (simp only [← hji20] <;> (first | rfl | (simp; done) | (rw [hji20]; generalize ByteArray.toList ji20 = l_; cases l_ <;> rfl))) | (simp [*]; done)), (by first | rfl | (simp; done) | (simp [*]; done)), H', ⟨Nat.le_refl _⟩, ⟨by repeat (first | (with_reducible first | exact HB.out | apply below_alloc | apply pw_below_drewN | apply below_drew1) | exact HB.out)⟩⟩
              case round =>
                clear H'
                try clear c1
                try clear c2
                try clear p2
                try clear c8
                try clear c9
                try clear c9b0
                try clear c9b1
                try clear c10
                try clear c10b0
                try clear c10b1
                try clear c11
                try clear c11b0
                try clear c11b1
                try clear c12
                try clear c12b0
                try clear c12b1
                try clear c13
                try clear c17
                try clear c17b0
                try clear c17b1
                try clear c18
                try clear c18b0
                try clear c18b1
                try clear c19
                try clear c19b0
                try clear c19b1
                try clear c19b2
                try clear p2
                obtain ⟨x15_2, x16_2, rfl, rfl, HA, HK2, HB⟩ := hrel
                cases gk with
                | zero => exact absurd HA.out (by simp [shibbolethlaw18_WhatwgParts.l0])
                | succ k2 =>
                  have H := HA.out
                  clear HA
                  simp only [shibbolethlaw18_WhatwgParts.l0] at H
                  by_cases c21 : x16_2 < (l1.length : Int)
                  · rw [if_pos c21] at H
                    have c21b0 : decide (x16_2 < (l1.length : Int)) = true := decide_eq_true c21
                    clear c21
                    by_cases c22 : 0 ≤ x16_2
                    · rw [if_pos c22] at H
                      have c22b0 : decide (0 ≤ x16_2) = true := decide_eq_true c22
                      clear c22
                      obtain ⟨bq23, hbq23⟩ : ∃ b_ : Bool, b_ = (rdOf false l1 x16_2) := ⟨_, rfl⟩
                      replace H : (if bq23 = true then (if x15_2.size + 1 ≤ 9223372036854775807 then (shibbolethlaw18_WhatwgParts.l0 k2 l1 a2 a3 a4 a5 a6 (x15_2 ++ (⟨#[47]⟩ : ByteArray)) (wrap64 (x16_2 + 1))) else (none)) else (if x15_2.size + 1 ≤ 9223372036854775807 then (shibbolethlaw18_WhatwgParts.l0 k2 l1 a2 a3 a4 a5 a6 (x15_2 ++ (⟨#[92]⟩ : ByteArray)) (wrap64 (x16_2 + 1))) else (none))) = some r := by rw [← hbq23] at H; exact H
                      have Nbq23 := Aside0.mk hbq23
                      clear hbq23
                      by_cases c24 : bq23 = true
                      · subst c24
                        have H1 : (if x15_2.size + 1 ≤ 9223372036854775807 then (shibbolethlaw18_WhatwgParts.l0 k2 l1 a2 a3 a4 a5 a6 (x15_2 ++ (⟨#[47]⟩ : ByteArray)) (wrap64 (x16_2 + 1))) else (none)) = some r := by rw [if_pos rfl] at H; exact H
                        clear H
                        have H := H1
                        clear H1
                        by_cases c25 : x15_2.size + 1 ≤ 9223372036854775807
                        · rw [if_pos c25] at H
                          have c25b0 := eq_true c25
                          have c25b1 : decide (x15_2.size + 1 ≤ 9223372036854775807) = true := decide_eq_true c25
                          try have c25b2 : (9223372036854775807 < x15_2.size + 1) = False := eq_false (Nat.not_lt.2 c25)
                          obtain ⟨ji26, hji26⟩ : ∃ j_ : ByteArray, (x15_2 ++ (⟨#[47]⟩ : ByteArray)) = j_ := ⟨_, rfl⟩
                          replace H : (shibbolethlaw18_WhatwgParts.l0 k2 l1 a2 a3 a4 a5 a6 ji26 (wrap64 (x16_2 + 1))) = some r := by first | (rw [hji26] at H; exact H) | (simp only [hji26] at H ⊢; exact H) | exact H
                          have H' := Aside0.mk H
                          clear H
                          have p222 : 0 ≤ (x16_2 : Int) := of_decide_eq_true (by first | (with_reducible assumption) | assumption)
                          have q222 : x16_2 < (l1.length : Int) := of_decide_eq_true (by first | (with_reducible assumption) | assumption)
                          obtain ⟨ad222, e222, hx222_0⟩ := Kd.at_bool HR1.out x16_2 p222 q222
                          (try rw [← Nbq23.out] at hx222_0)
                          cases e222
                          replace hx222_0 := (HB.out.cell (World.block_lt_of_cell? w _ hx222_0)).trans hx222_0
                          replace p222 := eq_true p222
                          replace q222 := eq_true q222
                          go_wp2
                          go_roundg k2
                          case measure => have := HJ7.out; have := HK2.out; omega
                          case rel => exact ⟨(ji26), (wrap64 (x16_2 + 1)), (by first | rfl | (simp; done) | (simp only [← hji26] <;> (first | rfl | (simp; done) | (rw [hji26]; generalize ByteArray.toList ji26 = l_; cases l_ <;> rfl))) | (simp [*]; done)), (by first | rfl | (simp; done) | (simp [*]; done)), H', ⟨by have := HJ7.out; have := HK2.out; omega⟩, ⟨by repeat (first | (with_reducible first | exact HB.out | apply below_alloc | apply pw_below_drewN | apply below_drew1) | exact HB.out)⟩⟩
                        · rw [if_neg c25] at H
                          exact absurd H (by simp)
                      · replace c24 := Bool.eq_false_iff.mpr c24
                        subst c24
                        have H1 : (if x15_2.size + 1 ≤ 9223372036854775807 then (shibbolethlaw18_WhatwgParts.l0 k2 l1 a2 a3 a4 a5 a6 (x15_2 ++ (⟨#[92]⟩ : ByteArray)) (wrap64 (x16_2 + 1))) else (none)) = some r := by rw [if_neg (show ¬ (false = true) by decide)] at H; exact H
                        clear H
                        have H := H1
                        clear H1
                        by_cases c27 : x15_2.size + 1 ≤ 9223372036854775807
                        · rw [if_pos c27] at H
                          have c27b0 := eq_true c27
                          have c27b1 : decide (x15_2.size + 1 ≤ 9223372036854775807) = true := decide_eq_true c27
                          try have c27b2 : (9223372036854775807 < x15_2.size + 1) = False := eq_false (Nat.not_lt.2 c27)
                          obtain ⟨ji28, hji28⟩ : ∃ j_ : ByteArray, (x15_2 ++ (⟨#[92]⟩ : ByteArray)) = j_ := ⟨_, rfl⟩
                          replace H : (shibbolethlaw18_WhatwgParts.l0 k2 l1 a2 a3 a4 a5 a6 ji28 (wrap64 (x16_2 + 1))) = some r := by first | (rw [hji28] at H; exact H) | (simp only [hji28] at H ⊢; exact H) | exact H
                          have H' := Aside0.mk H
                          clear H
                          have p222 : 0 ≤ (x16_2 : Int) := of_decide_eq_true (by first | (with_reducible assumption) | assumption)
                          have q222 : x16_2 < (l1.length : Int) := of_decide_eq_true (by first | (with_reducible assumption) | assumption)
                          obtain ⟨ad222, e222, hx222_0⟩ := Kd.at_bool HR1.out x16_2 p222 q222
                          (try rw [← Nbq23.out] at hx222_0)
                          cases e222
                          replace hx222_0 := (HB.out.cell (World.block_lt_of_cell? w _ hx222_0)).trans hx222_0
                          replace p222 := eq_true p222
                          replace q222 := eq_true q222
                          go_wp2
                          go_roundg k2
                          case measure => have := HJ7.out; have := HK2.out; omega
                          case rel => exact ⟨(ji28), (wrap64 (x16_2 + 1)), (by first | rfl | (simp; done) | (simp only [← hji28] <;> (first | rfl | (simp; done) | (rw [hji28]; generalize ByteArray.toList ji28 = l_; cases l_ <;> rfl))) | (simp [*]; done)), (by first | rfl | (simp; done) | (simp [*]; done)), H', ⟨by have := HJ7.out; have := HK2.out; omega⟩, ⟨by repeat (first | (with_reducible first | exact HB.out | apply below_alloc | apply pw_below_drewN | apply below_drew1) | exact HB.out)⟩⟩
                        · rw [if_neg c27] at H
                          exact absurd H (by simp)
                    · rw [if_neg c22] at H
                      exact absurd H (by simp)
                  · rw [if_neg c21] at H
                    have c21b0 : decide (x16_2 < (l1.length : Int)) = false := decide_eq_false c21
                    clear c21
                    have HC29 := Aside0.mk H
                    clear H
                    go_upto_region 10 with (fail)
                    go_cut [77] (fun v77 wc => ∃ (kq : Nat) (x77_28 : Bool), v77 = .bool x77_28 ∧ Aside0 (shibbolethlaw18_WhatwgParts.j2 kq a2 a3 a4 a5 a6 x15_2 x77_28 = some r) ∧ Aside0 (kq ≤ k2) ∧ Aside0 (Below w.heap.size w wc))
                    case first =>
                      have H := HC29.out
                      clear HC29
                      replace H := Option.bind_eq_some_iff.mp H
                      obtain ⟨t223, A300, H⟩ := H
                      replace H : (if t223 = true then (shibbolethlaw18_WhatwgParts.j2 k2 a2 a3 a4 a5 a6 x15_2 true) else ((shibbolethlaw18_has.f k2 a3 (⟨#[47, 92, 63, 35, 64, 58, 91, 93, 60, 62, 94, 124, 127]⟩ : ByteArray)).bind fun t224 => (if t224 = true then (shibbolethlaw18_WhatwgParts.j2 k2 a2 a3 a4 a5 a6 x15_2 true) else ((shibbolethlaw18_low.f k2 a3).bind fun t225 => (if t225 = true then (shibbolethlaw18_WhatwgParts.j2 k2 a2 a3 a4 a5 a6 x15_2 true) else (if a3.toList = ([] : List UInt8) then (shibbolethlaw18_WhatwgParts.j2 k2 a2 a3 a4 a5 a6 x15_2 true) else ((shibbolethlaw18_has.f k2 a4 (⟨#[63, 35, 9, 10, 13]⟩ : ByteArray)).bind fun t226 => (shibbolethlaw18_WhatwgParts.j2 k2 a2 a3 a4 a5 a6 x15_2 t226)))))))) = some r := H
                      have A30 := Aside0.mk A300
                      clear A300
                      by_cases c31 : t223 = true
                      · subst c31
                        have H1 : (shibbolethlaw18_WhatwgParts.j2 k2 a2 a3 a4 a5 a6 x15_2 true) = some r := by rw [if_pos rfl] at H; exact H
                        clear H
                        have H := H1
                        clear H1
                        have H' := Aside0.mk H
                        clear H
                        go_wp2_with (first | ((with_reducible refine gate_callee (f := 27) rfl ?_); refine goesL_ (some 61) rfl rfl Tryz.func27 (by kernel_rfl) rfl #[.string a2, .string (⟨#[47, 92, 63, 35, 9, 10, 13]⟩ : ByteArray)] rfl (by (try simp only [List.map_toArray, List.map_cons, List.map_nil]); first | done | rfl | (simp only [List.length_drop, List.length_take]; rfl)) ?_; (with_reducible refine (shibbolethlaw18_has.calls k2 a2 (⟨#[47, 92, 63, 35, 9, 10, 13]⟩ : ByteArray) true _ A30.out).mono ?_); rintro e w' ⟨rfl, ⟨nd, rfl⟩⟩; refine ⟨_, rfl, ?_⟩))
                        go_meet
                        case rel => exact ⟨_, (true), (by first | rfl | (simp; done) | (simp [*]; done)), H', ⟨by have := HJ7.out; have := HK2.out; first | omega | exact Nat.le_refl _⟩, ⟨by repeat (first | (with_reducible first | exact HB.out | apply below_alloc | apply pw_below_drewN | apply below_drew1) | exact HB.out)⟩⟩
                      · replace c31 := Bool.eq_false_iff.mpr c31
                        subst c31
                        have H1 : ((shibbolethlaw18_has.f k2 a3 (⟨#[47, 92, 63, 35, 64, 58, 91, 93, 60, 62, 94, 124, 127]⟩ : ByteArray)).bind fun t224 => (if t224 = true then (shibbolethlaw18_WhatwgParts.j2 k2 a2 a3 a4 a5 a6 x15_2 true) else ((shibbolethlaw18_low.f k2 a3).bind fun t225 => (if t225 = true then (shibbolethlaw18_WhatwgParts.j2 k2 a2 a3 a4 a5 a6 x15_2 true) else (if a3.toList = ([] : List UInt8) then (shibbolethlaw18_WhatwgParts.j2 k2 a2 a3 a4 a5 a6 x15_2 true) else ((shibbolethlaw18_has.f k2 a4 (⟨#[63, 35, 9, 10, 13]⟩ : ByteArray)).bind fun t226 => (shibbolethlaw18_WhatwgParts.j2 k2 a2 a3 a4 a5 a6 x15_2 t226))))))) = some r := by rw [if_neg (show ¬ (false = true) by decide)] at H; exact H
                        clear H
                        have H := H1
                        clear H1
                        replace H := Option.bind_eq_some_iff.mp H
                        obtain ⟨t224, A320, H⟩ := H
                        replace H : (if t224 = true then (shibbolethlaw18_WhatwgParts.j2 k2 a2 a3 a4 a5 a6 x15_2 true) else ((shibbolethlaw18_low.f k2 a3).bind fun t225 => (if t225 = true then (shibbolethlaw18_WhatwgParts.j2 k2 a2 a3 a4 a5 a6 x15_2 true) else (if a3.toList = ([] : List UInt8) then (shibbolethlaw18_WhatwgParts.j2 k2 a2 a3 a4 a5 a6 x15_2 true) else ((shibbolethlaw18_has.f k2 a4 (⟨#[63, 35, 9, 10, 13]⟩ : ByteArray)).bind fun t226 => (shibbolethlaw18_WhatwgParts.j2 k2 a2 a3 a4 a5 a6 x15_2 t226)))))) = some r := H
                        have A32 := Aside0.mk A320
                        clear A320
                        by_cases c33 : t224 = true
                        · subst c33
                          have H1 : (shibbolethlaw18_WhatwgParts.j2 k2 a2 a3 a4 a5 a6 x15_2 true) = some r := by rw [if_pos rfl] at H; exact H
                          clear H
                          have H := H1
                          clear H1
                          have H' := Aside0.mk H
                          clear H
                          go_wp2_with (first | ((with_reducible refine gate_callee (f := 27) rfl ?_); refine goesL_ (some 61) rfl rfl Tryz.func27 (by kernel_rfl) rfl #[.string a2, .string (⟨#[47, 92, 63, 35, 9, 10, 13]⟩ : ByteArray)] rfl (by (try simp only [List.map_toArray, List.map_cons, List.map_nil]); first | done | rfl | (simp only [List.length_drop, List.length_take]; rfl)) ?_; (with_reducible refine (shibbolethlaw18_has.calls k2 a2 (⟨#[47, 92, 63, 35, 9, 10, 13]⟩ : ByteArray) false _ A30.out).mono ?_); rintro e w' ⟨rfl, ⟨nd, rfl⟩⟩; refine ⟨_, rfl, ?_⟩) | (go_at_call 27; (with_reducible refine (shibbolethlaw18_has.calls k2 a3 (⟨#[47, 92, 63, 35, 64, 58, 91, 93, 60, 62, 94, 124, 127]⟩ : ByteArray) true _ A32.out).mono ?_); rintro e w' ⟨rfl, ⟨nd, rfl⟩⟩))
                          go_meet
                          case rel => exact ⟨_, (true), (by first | rfl | (simp; done) | (simp [*]; done)), H', ⟨by have := HJ7.out; have := HK2.out; first | omega | exact Nat.le_refl _⟩, ⟨by repeat (first | (with_reducible first | exact HB.out | apply below_alloc | apply pw_below_drewN | apply below_drew1) | exact HB.out)⟩⟩
                        · replace c33 := Bool.eq_false_iff.mpr c33
                          subst c33
                          have H1 : ((shibbolethlaw18_low.f k2 a3).bind fun t225 => (if t225 = true then (shibbolethlaw18_WhatwgParts.j2 k2 a2 a3 a4 a5 a6 x15_2 true) else (if a3.toList = ([] : List UInt8) then (shibbolethlaw18_WhatwgParts.j2 k2 a2 a3 a4 a5 a6 x15_2 true) else ((shibbolethlaw18_has.f k2 a4 (⟨#[63, 35, 9, 10, 13]⟩ : ByteArray)).bind fun t226 => (shibbolethlaw18_WhatwgParts.j2 k2 a2 a3 a4 a5 a6 x15_2 t226))))) = some r := by rw [if_neg (show ¬ (false = true) by decide)] at H; exact H
                          clear H
                          have H := H1
                          clear H1
                          replace H := Option.bind_eq_some_iff.mp H
                          obtain ⟨t225, A340, H⟩ := H
                          replace H : (if t225 = true then (shibbolethlaw18_WhatwgParts.j2 k2 a2 a3 a4 a5 a6 x15_2 true) else (if a3.toList = ([] : List UInt8) then (shibbolethlaw18_WhatwgParts.j2 k2 a2 a3 a4 a5 a6 x15_2 true) else ((shibbolethlaw18_has.f k2 a4 (⟨#[63, 35, 9, 10, 13]⟩ : ByteArray)).bind fun t226 => (shibbolethlaw18_WhatwgParts.j2 k2 a2 a3 a4 a5 a6 x15_2 t226)))) = some r := H
                          have A34 := Aside0.mk A340
                          clear A340
                          by_cases c35 : t225 = true
                          · subst c35
                            have H1 : (shibbolethlaw18_WhatwgParts.j2 k2 a2 a3 a4 a5 a6 x15_2 true) = some r := by rw [if_pos rfl] at H; exact H
                            clear H
                            have H := H1
                            clear H1
                            have H' := Aside0.mk H
                            clear H
                            go_wp2_with (first | ((with_reducible refine gate_callee (f := 27) rfl ?_); refine goesL_ (some 61) rfl rfl Tryz.func27 (by kernel_rfl) rfl #[.string a2, .string (⟨#[47, 92, 63, 35, 9, 10, 13]⟩ : ByteArray)] rfl (by (try simp only [List.map_toArray, List.map_cons, List.map_nil]); first | done | rfl | (simp only [List.length_drop, List.length_take]; rfl)) ?_; (with_reducible refine (shibbolethlaw18_has.calls k2 a2 (⟨#[47, 92, 63, 35, 9, 10, 13]⟩ : ByteArray) false _ A30.out).mono ?_); rintro e w' ⟨rfl, ⟨nd, rfl⟩⟩; refine ⟨_, rfl, ?_⟩) | (go_at_call 27; (with_reducible refine (shibbolethlaw18_has.calls k2 a3 (⟨#[47, 92, 63, 35, 64, 58, 91, 93, 60, 62, 94, 124, 127]⟩ : ByteArray) false _ A32.out).mono ?_); rintro e w' ⟨rfl, ⟨nd, rfl⟩⟩) | (go_at_call 28; (with_reducible refine (shibbolethlaw18_low.calls k2 a3 true _ A34.out).mono ?_); rintro e w' ⟨rfl, ⟨nd, rfl⟩⟩))
                            go_meet
                            case rel => exact ⟨_, (true), (by first | rfl | (simp; done) | (simp [*]; done)), H', ⟨by have := HJ7.out; have := HK2.out; first | omega | exact Nat.le_refl _⟩, ⟨by repeat (first | (with_reducible first | exact HB.out | apply below_alloc | apply pw_below_drewN | apply below_drew1) | exact HB.out)⟩⟩
                          · replace c35 := Bool.eq_false_iff.mpr c35
                            subst c35
                            have H1 : (if a3.toList = ([] : List UInt8) then (shibbolethlaw18_WhatwgParts.j2 k2 a2 a3 a4 a5 a6 x15_2 true) else ((shibbolethlaw18_has.f k2 a4 (⟨#[63, 35, 9, 10, 13]⟩ : ByteArray)).bind fun t226 => (shibbolethlaw18_WhatwgParts.j2 k2 a2 a3 a4 a5 a6 x15_2 t226))) = some r := by rw [if_neg (show ¬ (false = true) by decide)] at H; exact H
                            clear H
                            have H := H1
                            clear H1
                            by_cases c36 : a3.toList = ([] : List UInt8)
                            · rw [if_pos c36] at H
                              have c36b0 : (a3.toList == ([] : List UInt8)) = true := beq_iff_eq.mpr c36
                              have c36b1 : (a3.toList != ([] : List UInt8)) = false := bne_eq_false_iff_eq.mpr c36
                              clear c36
                              (first | rw [c36b0] | (simp only [i64_w, i32_w]; rw [c36b0]) | skip)
                              have H' := Aside0.mk H
                              clear H
                              go_wp2_with (first | ((with_reducible refine gate_callee (f := 27) rfl ?_); refine goesL_ (some 61) rfl rfl Tryz.func27 (by kernel_rfl) rfl #[.string a2, .string (⟨#[47, 92, 63, 35, 9, 10, 13]⟩ : ByteArray)] rfl (by (try simp only [List.map_toArray, List.map_cons, List.map_nil]); first | done | rfl | (simp only [List.length_drop, List.length_take]; rfl)) ?_; (with_reducible refine (shibbolethlaw18_has.calls k2 a2 (⟨#[47, 92, 63, 35, 9, 10, 13]⟩ : ByteArray) false _ A30.out).mono ?_); rintro e w' ⟨rfl, ⟨nd, rfl⟩⟩; refine ⟨_, rfl, ?_⟩) | (go_at_call 27; (with_reducible refine (shibbolethlaw18_has.calls k2 a3 (⟨#[47, 92, 63, 35, 64, 58, 91, 93, 60, 62, 94, 124, 127]⟩ : ByteArray) false _ A32.out).mono ?_); rintro e w' ⟨rfl, ⟨nd, rfl⟩⟩) | (go_at_call 28; (with_reducible refine (shibbolethlaw18_low.calls k2 a3 false _ A34.out).mono ?_); rintro e w' ⟨rfl, ⟨nd, rfl⟩⟩))
                              go_meet
                              case rel => exact ⟨_, (true), (by first | rfl | (simp; done) | (simp [*]; done)), H', ⟨by have := HJ7.out; have := HK2.out; first | omega | exact Nat.le_refl _⟩, ⟨by repeat (first | (with_reducible first | exact HB.out | apply below_alloc | apply pw_below_drewN | apply below_drew1) | exact HB.out)⟩⟩
                            · rw [if_neg c36] at H
                              have c36b0 : (a3.toList == ([] : List UInt8)) = false := beq_eq_false_iff_ne.mpr c36
                              have c36b1 : (a3.toList != ([] : List UInt8)) = true := bne_iff_ne.mpr c36
                              (first | rw [c36b0] | (simp only [i64_w, i32_w]; rw [c36b0]) | skip)
                              replace H := Option.bind_eq_some_iff.mp H
                              obtain ⟨t226, A370, H⟩ := H
                              replace H : (shibbolethlaw18_WhatwgParts.j2 k2 a2 a3 a4 a5 a6 x15_2 t226) = some r := H
                              have A37 := Aside0.mk A370
                              clear A370
                              have H' := Aside0.mk H
                              clear H
                              go_wp2_with (first | ((with_reducible refine gate_callee (f := 27) rfl ?_); refine goesL_ (some 61) rfl rfl Tryz.func27 (by kernel_rfl) rfl #[.string a2, .string (⟨#[47, 92, 63, 35, 9, 10, 13]⟩ : ByteArray)] rfl (by (try simp only [List.map_toArray, List.map_cons, List.map_nil]); first | done | rfl | (simp only [List.length_drop, List.length_take]; rfl)) ?_; (with_reducible refine (shibbolethlaw18_has.calls k2 a2 (⟨#[47, 92, 63, 35, 9, 10, 13]⟩ : ByteArray) false _ A30.out).mono ?_); rintro e w' ⟨rfl, ⟨nd, rfl⟩⟩; refine ⟨_, rfl, ?_⟩) | (go_at_call 27; (with_reducible refine (shibbolethlaw18_has.calls k2 a3 (⟨#[47, 92, 63, 35, 64, 58, 91, 93, 60, 62, 94, 124, 127]⟩ : ByteArray) false _ A32.out).mono ?_); rintro e w' ⟨rfl, ⟨nd, rfl⟩⟩) | (go_at_call 28; (with_reducible refine (shibbolethlaw18_low.calls k2 a3 false _ A34.out).mono ?_); rintro e w' ⟨rfl, ⟨nd, rfl⟩⟩) | (go_at_call 27; (with_reducible refine (shibbolethlaw18_has.calls k2 a4 (⟨#[63, 35, 9, 10, 13]⟩ : ByteArray) t226 _ A37.out).mono ?_); rintro e w' ⟨rfl, ⟨nd, rfl⟩⟩))
                              go_meet
                              case rel => exact ⟨_, (t226), (by first | rfl | (simp; done) | (simp [*]; done)), H', ⟨by have := HJ7.out; have := HK2.out; first | omega | exact Nat.le_refl _⟩, ⟨by repeat (first | (with_reducible first | exact HB.out | apply below_alloc | apply pw_below_drewN | apply below_drew1) | exact HB.out)⟩⟩
                    case rest =>
                      clear HC29
                      try clear c1
                      try clear c2
                      try clear p2
                      try clear q2
                      try clear hx2
                      try clear c3
                      try clear p6
                      try clear c8
                      try clear c9
                      try clear c9b0
                      try clear c9b1
                      try clear c10
                      try clear c10b0
                      try clear c10b1
                      try clear c11
                      try clear c11b0
                      try clear c11b1
                      try clear c12
                      try clear c12b0
                      try clear c12b1
                      try clear c13
                      try clear c17
                      try clear c17b0
                      try clear c17b1
                      try clear c18
                      try clear c18b0
                      try clear c18b1
                      try clear c19
                      try clear c19b0
                      try clear c19b1
                      try clear c19b2
                      try clear c21
                      try clear c21b0
                      try clear c22
                      try clear c22b0
                      try clear p22
                      try clear q22
                      try clear hx22
                      try clear q23
                      try clear c24
                      try clear c25
                      try clear c25b0
                      try clear c25b1
                      try clear c25b2
                      try clear c27
                      try clear c27b0
                      try clear c27b1
                      try clear c27b2
                      try clear c31
                      try clear c33
                      try clear c35
                      try clear c36
                      try clear c36b0
                      try clear c36b1
                      try clear hx222_0
                      try clear p2
                      try clear p222
                      try clear q222
                      obtain ⟨kq, x77_28, rfl, HA, HJ28, HB⟩ := hcut
                      cases kq with
                      | zero => exact absurd HA.out (by simp [shibbolethlaw18_WhatwgParts.j2])
                      | succ kj28 =>
                        have H := HA.out
                        clear HA
                        simp only [shibbolethlaw18_WhatwgParts.j2] at H
                        by_cases c38 : x77_28 = true
                        · subst c38
                          have H1 : ((shibbolethlaw18_awake.f kj28).bind fun t227 => (some t227)) = some r := by rw [if_pos rfl] at H; exact H
                          clear H
                          have H := H1
                          clear H1
                          replace H := Option.bind_eq_some_iff.mp H
                          obtain ⟨t227, A390, H⟩ := H
                          replace H : (some t227) = some r := H
                          have A39 := Aside0.mk A390
                          clear A390
                          obtain rfl := Option.some.inj H
                          go_wp2_with (first | ((with_reducible refine gate_callee (f := 21) rfl ?_); refine goesL_ (some 78) rfl rfl Tryz.func21 (by kernel_rfl) rfl #[] rfl (by (try simp only [List.map_toArray, List.map_cons, List.map_nil]); first | done | rfl | (simp only [List.length_drop, List.length_take]; rfl)) ?_; (with_reducible refine (shibbolethlaw18_awake.calls kj28  t227 _ A39.out ?sideT).mono ?_); (case sideT => exact Utf8Tabs_below HU8_.out (by repeat (first | (with_reducible first | exact HB.out | apply below_alloc | apply pw_below_drewN | apply below_drew1) | exact HB.out))); rintro e w40 ⟨rfl, hb⟩; refine ⟨_, rfl, ?_⟩; have n0_ := Aside0.mk (below_step (by repeat (first | (with_reducible first | exact HB.out | apply below_alloc | apply pw_below_drewN | apply below_drew1) | exact HB.out)) hb); clear HB; have HB := n0_; clear n0_; (try clear hb); (try clear hb2); (try clear hk); (try clear hi)))
                          go_ret
                          exact ⟨by first | rfl | (simp [errW_none, errW_some] <;> rfl) | (simp only [← hji16, ← hji20]; first | rfl | (simp [errW_none, errW_some] <;> rfl)) | (simp [*, errW_none, errW_some] <;> rfl), by repeat (first | (with_reducible first | exact HB.out | apply below_alloc | apply pw_below_drewN | apply below_drew1) | exact HB.out)⟩
                        · replace c38 := Bool.eq_false_iff.mpr c38
                          subst c38
                          have H1 : (if x15_2.size + a2.size ≤ 9223372036854775807 then (if (x15_2 ++ a2).size + 1 ≤ 9223372036854775807 then (if ((x15_2 ++ a2) ++ (⟨#[64]⟩ : ByteArray)).size + a3.size ≤ 9223372036854775807 then (if (Int.tmod a6 2) = 1 then (if (((x15_2 ++ a2) ++ (⟨#[64]⟩ : ByteArray)) ++ a3).size + 3 ≤ 9223372036854775807 then (if ((((x15_2 ++ a2) ++ (⟨#[64]⟩ : ByteArray)) ++ a3) ++ (⟨#[58, 56, 48]⟩ : ByteArray)).size + 1 ≤ 9223372036854775807 then (if (((((x15_2 ++ a2) ++ (⟨#[64]⟩ : ByteArray)) ++ a3) ++ (⟨#[58, 56, 48]⟩ : ByteArray)) ++ (⟨#[47]⟩ : ByteArray)).size + a4.size ≤ 9223372036854775807 then (if ((((((x15_2 ++ a2) ++ (⟨#[64]⟩ : ByteArray)) ++ a3) ++ (⟨#[58, 56, 48]⟩ : ByteArray)) ++ (⟨#[47]⟩ : ByteArray)) ++ a4).size + 1 ≤ 9223372036854775807 then (if (((((((x15_2 ++ a2) ++ (⟨#[64]⟩ : ByteArray)) ++ a3) ++ (⟨#[58, 56, 48]⟩ : ByteArray)) ++ (⟨#[47]⟩ : ByteArray)) ++ a4) ++ (⟨#[63]⟩ : ByteArray)).size + a5.size ≤ 9223372036854775807 then (if ((((((((x15_2 ++ a2) ++ (⟨#[64]⟩ : ByteArray)) ++ a3) ++ (⟨#[58, 56, 48]⟩ : ByteArray)) ++ (⟨#[47]⟩ : ByteArray)) ++ a4) ++ (⟨#[63]⟩ : ByteArray)) ++ a5).size + 1 ≤ 9223372036854775807 then ((whatwg_Parse.f kj28 (((((((((x15_2 ++ a2) ++ (⟨#[64]⟩ : ByteArray)) ++ a3) ++ (⟨#[58, 56, 48]⟩ : ByteArray)) ++ (⟨#[47]⟩ : ByteArray)) ++ a4) ++ (⟨#[63]⟩ : ByteArray)) ++ a5) ++ (⟨#[120]⟩ : ByteArray))).bind fun bt228 => (if 1 + a4.size ≤ 9223372036854775807 then (if (bt228.1 && (bt228.2.1.toList == a3.toList && (bt228.2.2.toList == (((⟨#[47]⟩ : ByteArray) ++ a4).toList)))) = true then ((shibbolethlaw18_awake.f kj28).bind fun t231 => (some t231)) else (some false)) else (none))) else (none)) else (none)) else (none)) else (none)) else (none)) else (none)) else (if (((x15_2 ++ a2) ++ (⟨#[64]⟩ : ByteArray)) ++ a3).size + 1 ≤ 9223372036854775807 then (if ((((x15_2 ++ a2) ++ (⟨#[64]⟩ : ByteArray)) ++ a3) ++ (⟨#[47]⟩ : ByteArray)).size + a4.size ≤ 9223372036854775807 then (if (((((x15_2 ++ a2) ++ (⟨#[64]⟩ : ByteArray)) ++ a3) ++ (⟨#[47]⟩ : ByteArray)) ++ a4).size + 1 ≤ 9223372036854775807 then (if ((((((x15_2 ++ a2) ++ (⟨#[64]⟩ : ByteArray)) ++ a3) ++ (⟨#[47]⟩ : ByteArray)) ++ a4) ++ (⟨#[63]⟩ : ByteArray)).size + a5.size ≤ 9223372036854775807 then (if (((((((x15_2 ++ a2) ++ (⟨#[64]⟩ : ByteArray)) ++ a3) ++ (⟨#[47]⟩ : ByteArray)) ++ a4) ++ (⟨#[63]⟩ : ByteArray)) ++ a5).size + 1 ≤ 9223372036854775807 then ((whatwg_Parse.f kj28 ((((((((x15_2 ++ a2) ++ (⟨#[64]⟩ : ByteArray)) ++ a3) ++ (⟨#[47]⟩ : ByteArray)) ++ a4) ++ (⟨#[63]⟩ : ByteArray)) ++ a5) ++ (⟨#[120]⟩ : ByteArray))).bind fun bt232 => (if 1 + a4.size ≤ 9223372036854775807 then (if (bt232.1 && (bt232.2.1.toList == a3.toList && (bt232.2.2.toList == (((⟨#[47]⟩ : ByteArray) ++ a4).toList)))) = true then ((shibbolethlaw18_awake.f kj28).bind fun t235 => (some t235)) else (some false)) else (none))) else (none)) else (none)) else (none)) else (none)) else (none))) else (none)) else (none)) else (none)) = some r := by rw [if_neg (show ¬ (false = true) by decide)] at H; exact H
                          clear H
                          have H := H1
                          clear H1
                          by_cases c41 : x15_2.size + a2.size ≤ 9223372036854775807
                          · rw [if_pos c41] at H
                            have c41b0 := eq_true c41
                            have c41b1 : decide (x15_2.size + a2.size ≤ 9223372036854775807) = true := decide_eq_true c41
                            try have c41b2 : (9223372036854775807 < x15_2.size + a2.size) = False := eq_false (Nat.not_lt.2 c41)
                            obtain ⟨ji42, hji42⟩ : ∃ j_ : ByteArray, (x15_2 ++ a2) = j_ := ⟨_, rfl⟩
                            replace H : (if (ji42).size + 1 ≤ 9223372036854775807 then (if ((ji42) ++ (⟨#[64]⟩ : ByteArray)).size + a3.size ≤ 9223372036854775807 then (if (Int.tmod a6 2) = 1 then (if (((ji42) ++ (⟨#[64]⟩ : ByteArray)) ++ a3).size + 3 ≤ 9223372036854775807 then (if ((((ji42) ++ (⟨#[64]⟩ : ByteArray)) ++ a3) ++ (⟨#[58, 56, 48]⟩ : ByteArray)).size + 1 ≤ 9223372036854775807 then (if (((((ji42) ++ (⟨#[64]⟩ : ByteArray)) ++ a3) ++ (⟨#[58, 56, 48]⟩ : ByteArray)) ++ (⟨#[47]⟩ : ByteArray)).size + a4.size ≤ 9223372036854775807 then (if ((((((ji42) ++ (⟨#[64]⟩ : ByteArray)) ++ a3) ++ (⟨#[58, 56, 48]⟩ : ByteArray)) ++ (⟨#[47]⟩ : ByteArray)) ++ a4).size + 1 ≤ 9223372036854775807 then (if (((((((ji42) ++ (⟨#[64]⟩ : ByteArray)) ++ a3) ++ (⟨#[58, 56, 48]⟩ : ByteArray)) ++ (⟨#[47]⟩ : ByteArray)) ++ a4) ++ (⟨#[63]⟩ : ByteArray)).size + a5.size ≤ 9223372036854775807 then (if ((((((((ji42) ++ (⟨#[64]⟩ : ByteArray)) ++ a3) ++ (⟨#[58, 56, 48]⟩ : ByteArray)) ++ (⟨#[47]⟩ : ByteArray)) ++ a4) ++ (⟨#[63]⟩ : ByteArray)) ++ a5).size + 1 ≤ 9223372036854775807 then ((whatwg_Parse.f kj28 (((((((((ji42) ++ (⟨#[64]⟩ : ByteArray)) ++ a3) ++ (⟨#[58, 56, 48]⟩ : ByteArray)) ++ (⟨#[47]⟩ : ByteArray)) ++ a4) ++ (⟨#[63]⟩ : ByteArray)) ++ a5) ++ (⟨#[120]⟩ : ByteArray))).bind fun bt228 => (if 1 + a4.size ≤ 9223372036854775807 then (if (bt228.1 && (bt228.2.1.toList == a3.toList && (bt228.2.2.toList == (((⟨#[47]⟩ : ByteArray) ++ a4).toList)))) = true then ((shibbolethlaw18_awake.f kj28).bind fun t231 => (some t231)) else (some false)) else (none))) else (none)) else (none)) else (none)) else (none)) else (none)) else (none)) else (if (((ji42) ++ (⟨#[64]⟩ : ByteArray)) ++ a3).size + 1 ≤ 9223372036854775807 then (if ((((ji42) ++ (⟨#[64]⟩ : ByteArray)) ++ a3) ++ (⟨#[47]⟩ : ByteArray)).size + a4.size ≤ 9223372036854775807 then (if (((((ji42) ++ (⟨#[64]⟩ : ByteArray)) ++ a3) ++ (⟨#[47]⟩ : ByteArray)) ++ a4).size + 1 ≤ 9223372036854775807 then (if ((((((ji42) ++ (⟨#[64]⟩ : ByteArray)) ++ a3) ++ (⟨#[47]⟩ : ByteArray)) ++ a4) ++ (⟨#[63]⟩ : ByteArray)).size + a5.size ≤ 9223372036854775807 then (if (((((((ji42) ++ (⟨#[64]⟩ : ByteArray)) ++ a3) ++ (⟨#[47]⟩ : ByteArray)) ++ a4) ++ (⟨#[63]⟩ : ByteArray)) ++ a5).size + 1 ≤ 9223372036854775807 then ((whatwg_Parse.f kj28 ((((((((ji42) ++ (⟨#[64]⟩ : ByteArray)) ++ a3) ++ (⟨#[47]⟩ : ByteArray)) ++ a4) ++ (⟨#[63]⟩ : ByteArray)) ++ a5) ++ (⟨#[120]⟩ : ByteArray))).bind fun bt232 => (if 1 + a4.size ≤ 9223372036854775807 then (if (bt232.1 && (bt232.2.1.toList == a3.toList && (bt232.2.2.toList == (((⟨#[47]⟩ : ByteArray) ++ a4).toList)))) = true then ((shibbolethlaw18_awake.f kj28).bind fun t235 => (some t235)) else (some false)) else (none))) else (none)) else (none)) else (none)) else (none)) else (none))) else (none)) else (none)) = some r := by first | (rw [hji42] at H; exact H) | (simp only [hji42] at H ⊢; exact H) | exact H
                            by_cases c43 : (ji42).size + 1 ≤ 9223372036854775807
                            · rw [if_pos c43] at H
                              have c43b0 := eq_true c43
                              have c43b1 : decide ((ji42).size + 1 ≤ 9223372036854775807) = true := decide_eq_true c43
                              try have c43b2 : (9223372036854775807 < (ji42).size + 1) = False := eq_false (Nat.not_lt.2 c43)
                              obtain ⟨ji44, hji44⟩ : ∃ j_ : ByteArray, ((ji42) ++ (⟨#[64]⟩ : ByteArray)) = j_ := ⟨_, rfl⟩
                              replace H : (if (ji44).size + a3.size ≤ 9223372036854775807 then (if (Int.tmod a6 2) = 1 then (if ((ji44) ++ a3).size + 3 ≤ 9223372036854775807 then (if (((ji44) ++ a3) ++ (⟨#[58, 56, 48]⟩ : ByteArray)).size + 1 ≤ 9223372036854775807 then (if ((((ji44) ++ a3) ++ (⟨#[58, 56, 48]⟩ : ByteArray)) ++ (⟨#[47]⟩ : ByteArray)).size + a4.size ≤ 9223372036854775807 then (if (((((ji44) ++ a3) ++ (⟨#[58, 56, 48]⟩ : ByteArray)) ++ (⟨#[47]⟩ : ByteArray)) ++ a4).size + 1 ≤ 9223372036854775807 then (if ((((((ji44) ++ a3) ++ (⟨#[58, 56, 48]⟩ : ByteArray)) ++ (⟨#[47]⟩ : ByteArray)) ++ a4) ++ (⟨#[63]⟩ : ByteArray)).size + a5.size ≤ 9223372036854775807 then (if (((((((ji44) ++ a3) ++ (⟨#[58, 56, 48]⟩ : ByteArray)) ++ (⟨#[47]⟩ : ByteArray)) ++ a4) ++ (⟨#[63]⟩ : ByteArray)) ++ a5).size + 1 ≤ 9223372036854775807 then ((whatwg_Parse.f kj28 ((((((((ji44) ++ a3) ++ (⟨#[58, 56, 48]⟩ : ByteArray)) ++ (⟨#[47]⟩ : ByteArray)) ++ a4) ++ (⟨#[63]⟩ : ByteArray)) ++ a5) ++ (⟨#[120]⟩ : ByteArray))).bind fun bt228 => (if 1 + a4.size ≤ 9223372036854775807 then (if (bt228.1 && (bt228.2.1.toList == a3.toList && (bt228.2.2.toList == (((⟨#[47]⟩ : ByteArray) ++ a4).toList)))) = true then ((shibbolethlaw18_awake.f kj28).bind fun t231 => (some t231)) else (some false)) else (none))) else (none)) else (none)) else (none)) else (none)) else (none)) else (none)) else (if ((ji44) ++ a3).size + 1 ≤ 9223372036854775807 then (if (((ji44) ++ a3) ++ (⟨#[47]⟩ : ByteArray)).size + a4.size ≤ 9223372036854775807 then (if ((((ji44) ++ a3) ++ (⟨#[47]⟩ : ByteArray)) ++ a4).size + 1 ≤ 9223372036854775807 then (if (((((ji44) ++ a3) ++ (⟨#[47]⟩ : ByteArray)) ++ a4) ++ (⟨#[63]⟩ : ByteArray)).size + a5.size ≤ 9223372036854775807 then (if ((((((ji44) ++ a3) ++ (⟨#[47]⟩ : ByteArray)) ++ a4) ++ (⟨#[63]⟩ : ByteArray)) ++ a5).size + 1 ≤ 9223372036854775807 then ((whatwg_Parse.f kj28 (((((((ji44) ++ a3) ++ (⟨#[47]⟩ : ByteArray)) ++ a4) ++ (⟨#[63]⟩ : ByteArray)) ++ a5) ++ (⟨#[120]⟩ : ByteArray))).bind fun bt232 => (if 1 + a4.size ≤ 9223372036854775807 then (if (bt232.1 && (bt232.2.1.toList == a3.toList && (bt232.2.2.toList == (((⟨#[47]⟩ : ByteArray) ++ a4).toList)))) = true then ((shibbolethlaw18_awake.f kj28).bind fun t235 => (some t235)) else (some false)) else (none))) else (none)) else (none)) else (none)) else (none)) else (none))) else (none)) = some r := by first | (rw [hji44] at H; exact H) | (simp only [hji44] at H ⊢; exact H) | exact H
                              by_cases c45 : (ji44).size + a3.size ≤ 9223372036854775807
                              · rw [if_pos c45] at H
                                have c45b0 := eq_true c45
                                have c45b1 : decide ((ji44).size + a3.size ≤ 9223372036854775807) = true := decide_eq_true c45
                                try have c45b2 : (9223372036854775807 < (ji44).size + a3.size) = False := eq_false (Nat.not_lt.2 c45)
                                obtain ⟨ji46, hji46⟩ : ∃ j_ : ByteArray, ((ji44) ++ a3) = j_ := ⟨_, rfl⟩
                                replace H : (if (Int.tmod a6 2) = 1 then (if (ji46).size + 3 ≤ 9223372036854775807 then (if ((ji46) ++ (⟨#[58, 56, 48]⟩ : ByteArray)).size + 1 ≤ 9223372036854775807 then (if (((ji46) ++ (⟨#[58, 56, 48]⟩ : ByteArray)) ++ (⟨#[47]⟩ : ByteArray)).size + a4.size ≤ 9223372036854775807 then (if ((((ji46) ++ (⟨#[58, 56, 48]⟩ : ByteArray)) ++ (⟨#[47]⟩ : ByteArray)) ++ a4).size + 1 ≤ 9223372036854775807 then (if (((((ji46) ++ (⟨#[58, 56, 48]⟩ : ByteArray)) ++ (⟨#[47]⟩ : ByteArray)) ++ a4) ++ (⟨#[63]⟩ : ByteArray)).size + a5.size ≤ 9223372036854775807 then (if ((((((ji46) ++ (⟨#[58, 56, 48]⟩ : ByteArray)) ++ (⟨#[47]⟩ : ByteArray)) ++ a4) ++ (⟨#[63]⟩ : ByteArray)) ++ a5).size + 1 ≤ 9223372036854775807 then ((whatwg_Parse.f kj28 (((((((ji46) ++ (⟨#[58, 56, 48]⟩ : ByteArray)) ++ (⟨#[47]⟩ : ByteArray)) ++ a4) ++ (⟨#[63]⟩ : ByteArray)) ++ a5) ++ (⟨#[120]⟩ : ByteArray))).bind fun bt228 => (if 1 + a4.size ≤ 9223372036854775807 then (if (bt228.1 && (bt228.2.1.toList == a3.toList && (bt228.2.2.toList == (((⟨#[47]⟩ : ByteArray) ++ a4).toList)))) = true then ((shibbolethlaw18_awake.f kj28).bind fun t231 => (some t231)) else (some false)) else (none))) else (none)) else (none)) else (none)) else (none)) else (none)) else (none)) else (if (ji46).size + 1 ≤ 9223372036854775807 then (if ((ji46) ++ (⟨#[47]⟩ : ByteArray)).size + a4.size ≤ 9223372036854775807 then (if (((ji46) ++ (⟨#[47]⟩ : ByteArray)) ++ a4).size + 1 ≤ 9223372036854775807 then (if ((((ji46) ++ (⟨#[47]⟩ : ByteArray)) ++ a4) ++ (⟨#[63]⟩ : ByteArray)).size + a5.size ≤ 9223372036854775807 then (if (((((ji46) ++ (⟨#[47]⟩ : ByteArray)) ++ a4) ++ (⟨#[63]⟩ : ByteArray)) ++ a5).size + 1 ≤ 9223372036854775807 then ((whatwg_Parse.f kj28 ((((((ji46) ++ (⟨#[47]⟩ : ByteArray)) ++ a4) ++ (⟨#[63]⟩ : ByteArray)) ++ a5) ++ (⟨#[120]⟩ : ByteArray))).bind fun bt232 => (if 1 + a4.size ≤ 9223372036854775807 then (if (bt232.1 && (bt232.2.1.toList == a3.toList && (bt232.2.2.toList == (((⟨#[47]⟩ : ByteArray) ++ a4).toList)))) = true then ((shibbolethlaw18_awake.f kj28).bind fun t235 => (some t235)) else (some false)) else (none))) else (none)) else (none)) else (none)) else (none)) else (none))) = some r := by first | (rw [hji46] at H; exact H) | (simp only [hji46] at H ⊢; exact H) | exact H
                                by_cases c47 : (Int.tmod a6 2) = 1
                                · rw [if_pos c47] at H
                                  have c47b0 : ((Int.tmod a6 2) == 1) = true := beq_iff_eq.mpr c47
                                  have c47b1 : ((Int.tmod a6 2) != 1) = false := bne_eq_false_iff_eq.mpr c47
                                  clear c47
                                  by_cases c48 : (ji46).size + 3 ≤ 9223372036854775807
                                  · rw [if_pos c48] at H
                                    have c48b0 := eq_true c48
                                    have c48b1 : decide ((ji46).size + 3 ≤ 9223372036854775807) = true := decide_eq_true c48
                                    try have c48b2 : (9223372036854775807 < (ji46).size + 3) = False := eq_false (Nat.not_lt.2 c48)
                                    obtain ⟨ji49, hji49⟩ : ∃ j_ : ByteArray, ((ji46) ++ (⟨#[58, 56, 48]⟩ : ByteArray)) = j_ := ⟨_, rfl⟩
                                    replace H : (if (ji49).size + 1 ≤ 9223372036854775807 then (if ((ji49) ++ (⟨#[47]⟩ : ByteArray)).size + a4.size ≤ 9223372036854775807 then (if (((ji49) ++ (⟨#[47]⟩ : ByteArray)) ++ a4).size + 1 ≤ 9223372036854775807 then (if ((((ji49) ++ (⟨#[47]⟩ : ByteArray)) ++ a4) ++ (⟨#[63]⟩ : ByteArray)).size + a5.size ≤ 9223372036854775807 then (if (((((ji49) ++ (⟨#[47]⟩ : ByteArray)) ++ a4) ++ (⟨#[63]⟩ : ByteArray)) ++ a5).size + 1 ≤ 9223372036854775807 then ((whatwg_Parse.f kj28 ((((((ji49) ++ (⟨#[47]⟩ : ByteArray)) ++ a4) ++ (⟨#[63]⟩ : ByteArray)) ++ a5) ++ (⟨#[120]⟩ : ByteArray))).bind fun bt228 => (if 1 + a4.size ≤ 9223372036854775807 then (if (bt228.1 && (bt228.2.1.toList == a3.toList && (bt228.2.2.toList == (((⟨#[47]⟩ : ByteArray) ++ a4).toList)))) = true then ((shibbolethlaw18_awake.f kj28).bind fun t231 => (some t231)) else (some false)) else (none))) else (none)) else (none)) else (none)) else (none)) else (none)) = some r := by first | (rw [hji49] at H; exact H) | (simp only [hji49] at H ⊢; exact H) | exact H
                                    by_cases c50 : (ji49).size + 1 ≤ 9223372036854775807
                                    · rw [if_pos c50] at H
                                      have c50b0 := eq_true c50
                                      have c50b1 : decide ((ji49).size + 1 ≤ 9223372036854775807) = true := decide_eq_true c50
                                      try have c50b2 : (9223372036854775807 < (ji49).size + 1) = False := eq_false (Nat.not_lt.2 c50)
                                      obtain ⟨ji51, hji51⟩ : ∃ j_ : ByteArray, ((ji49) ++ (⟨#[47]⟩ : ByteArray)) = j_ := ⟨_, rfl⟩
                                      replace H : (if (ji51).size + a4.size ≤ 9223372036854775807 then (if ((ji51) ++ a4).size + 1 ≤ 9223372036854775807 then (if (((ji51) ++ a4) ++ (⟨#[63]⟩ : ByteArray)).size + a5.size ≤ 9223372036854775807 then (if ((((ji51) ++ a4) ++ (⟨#[63]⟩ : ByteArray)) ++ a5).size + 1 ≤ 9223372036854775807 then ((whatwg_Parse.f kj28 (((((ji51) ++ a4) ++ (⟨#[63]⟩ : ByteArray)) ++ a5) ++ (⟨#[120]⟩ : ByteArray))).bind fun bt228 => (if 1 + a4.size ≤ 9223372036854775807 then (if (bt228.1 && (bt228.2.1.toList == a3.toList && (bt228.2.2.toList == (((⟨#[47]⟩ : ByteArray) ++ a4).toList)))) = true then ((shibbolethlaw18_awake.f kj28).bind fun t231 => (some t231)) else (some false)) else (none))) else (none)) else (none)) else (none)) else (none)) = some r := by first | (rw [hji51] at H; exact H) | (simp only [hji51] at H ⊢; exact H) | exact H
                                      by_cases c52 : (ji51).size + a4.size ≤ 9223372036854775807
                                      · rw [if_pos c52] at H
                                        have c52b0 := eq_true c52
                                        have c52b1 : decide ((ji51).size + a4.size ≤ 9223372036854775807) = true := decide_eq_true c52
                                        try have c52b2 : (9223372036854775807 < (ji51).size + a4.size) = False := eq_false (Nat.not_lt.2 c52)
                                        obtain ⟨ji53, hji53⟩ : ∃ j_ : ByteArray, ((ji51) ++ a4) = j_ := ⟨_, rfl⟩
                                        replace H : (if (ji53).size + 1 ≤ 9223372036854775807 then (if ((ji53) ++ (⟨#[63]⟩ : ByteArray)).size + a5.size ≤ 9223372036854775807 then (if (((ji53) ++ (⟨#[63]⟩ : ByteArray)) ++ a5).size + 1 ≤ 9223372036854775807 then ((whatwg_Parse.f kj28 ((((ji53) ++ (⟨#[63]⟩ : ByteArray)) ++ a5) ++ (⟨#[120]⟩ : ByteArray))).bind fun bt228 => (if 1 + a4.size ≤ 9223372036854775807 then (if (bt228.1 && (bt228.2.1.toList == a3.toList && (bt228.2.2.toList == (((⟨#[47]⟩ : ByteArray) ++ a4).toList)))) = true then ((shibbolethlaw18_awake.f kj28).bind fun t231 => (some t231)) else (some false)) else (none))) else (none)) else (none)) else (none)) = some r := by first | (rw [hji53] at H; exact H) | (simp only [hji53] at H ⊢; exact H) | exact H
                                        by_cases c54 : (ji53).size + 1 ≤ 9223372036854775807
                                        · rw [if_pos c54] at H
                                          have c54b0 := eq_true c54
                                          have c54b1 : decide ((ji53).size + 1 ≤ 9223372036854775807) = true := decide_eq_true c54
                                          try have c54b2 : (9223372036854775807 < (ji53).size + 1) = False := eq_false (Nat.not_lt.2 c54)
                                          obtain ⟨ji55, hji55⟩ : ∃ j_ : ByteArray, ((ji53) ++ (⟨#[63]⟩ : ByteArray)) = j_ := ⟨_, rfl⟩
                                          replace H : (if (ji55).size + a5.size ≤ 9223372036854775807 then (if ((ji55) ++ a5).size + 1 ≤ 9223372036854775807 then ((whatwg_Parse.f kj28 (((ji55) ++ a5) ++ (⟨#[120]⟩ : ByteArray))).bind fun bt228 => (if 1 + a4.size ≤ 9223372036854775807 then (if (bt228.1 && (bt228.2.1.toList == a3.toList && (bt228.2.2.toList == (((⟨#[47]⟩ : ByteArray) ++ a4).toList)))) = true then ((shibbolethlaw18_awake.f kj28).bind fun t231 => (some t231)) else (some false)) else (none))) else (none)) else (none)) = some r := by first | (rw [hji55] at H; exact H) | (simp only [hji55] at H ⊢; exact H) | exact H
                                          by_cases c56 : (ji55).size + a5.size ≤ 9223372036854775807
                                          · rw [if_pos c56] at H
                                            have c56b0 := eq_true c56
                                            have c56b1 : decide ((ji55).size + a5.size ≤ 9223372036854775807) = true := decide_eq_true c56
                                            try have c56b2 : (9223372036854775807 < (ji55).size + a5.size) = False := eq_false (Nat.not_lt.2 c56)
                                            obtain ⟨ji57, hji57⟩ : ∃ j_ : ByteArray, ((ji55) ++ a5) = j_ := ⟨_, rfl⟩
                                            replace H : (if (ji57).size + 1 ≤ 9223372036854775807 then ((whatwg_Parse.f kj28 ((ji57) ++ (⟨#[120]⟩ : ByteArray))).bind fun bt228 => (if 1 + a4.size ≤ 9223372036854775807 then (if (bt228.1 && (bt228.2.1.toList == a3.toList && (bt228.2.2.toList == (((⟨#[47]⟩ : ByteArray) ++ a4).toList)))) = true then ((shibbolethlaw18_awake.f kj28).bind fun t231 => (some t231)) else (some false)) else (none))) else (none)) = some r := by first | (rw [hji57] at H; exact H) | (simp only [hji57] at H ⊢; exact H) | exact H
                                            by_cases c58 : (ji57).size + 1 ≤ 9223372036854775807
                                            · rw [if_pos c58] at H
                                              have c58b0 := eq_true c58
                                              have c58b1 : decide ((ji57).size + 1 ≤ 9223372036854775807) = true := decide_eq_true c58
                                              try have c58b2 : (9223372036854775807 < (ji57).size + 1) = False := eq_false (Nat.not_lt.2 c58)
                                              obtain ⟨ji59, hji59⟩ : ∃ j_ : ByteArray, ((ji57) ++ (⟨#[120]⟩ : ByteArray)) = j_ := ⟨_, rfl⟩
                                              replace H : ((whatwg_Parse.f kj28 (ji59)).bind fun bt228 => (if 1 + a4.size ≤ 9223372036854775807 then (if (bt228.1 && (bt228.2.1.toList == a3.toList && (bt228.2.2.toList == (((⟨#[47]⟩ : ByteArray) ++ a4).toList)))) = true then ((shibbolethlaw18_awake.f kj28).bind fun t231 => (some t231)) else (some false)) else (none))) = some r := by first | (rw [hji59] at H; exact H) | (simp only [hji59] at H ⊢; exact H) | exact H
                                              replace H := Option.bind_eq_some_iff.mp H
                                              obtain ⟨⟨t228, t229, t230⟩, A600, H⟩ := H
                                              replace H : (if 1 + a4.size ≤ 9223372036854775807 then (if (t228 && (t229.toList == a3.toList && (t230.toList == (((⟨#[47]⟩ : ByteArray) ++ a4).toList)))) = true then ((shibbolethlaw18_awake.f kj28).bind fun t231 => (some t231)) else (some false)) else (none)) = some r := H
                                              have A60 := Aside0.mk A600
                                              clear A600
                                              by_cases c61 : 1 + a4.size ≤ 9223372036854775807
                                              · rw [if_pos c61] at H
                                                have c61b0 := eq_true c61
                                                have c61b1 : decide (1 + a4.size ≤ 9223372036854775807) = true := decide_eq_true c61
                                                try have c61b2 : (9223372036854775807 < 1 + a4.size) = False := eq_false (Nat.not_lt.2 c61)
                                                obtain ⟨ji62, hji62⟩ : ∃ j_ : ByteArray, ((⟨#[47]⟩ : ByteArray) ++ a4) = j_ := ⟨_, rfl⟩
                                                replace H : (if (t228 && (t229.toList == a3.toList && (t230.toList == ((ji62).toList)))) = true then ((shibbolethlaw18_awake.f kj28).bind fun t231 => (some t231)) else (some false)) = some r := by first | (rw [hji62] at H; exact H) | (simp only [hji62] at H ⊢; exact H) | exact H
                                                (try rw [hji62] at A60)
                                                by_cases c63 : (t228 && (t229.toList == a3.toList && (t230.toList == ((ji62).toList)))) = true
                                                · rw [if_pos c63] at H
                                                  have c63b0 : (t228 && (t229.toList == a3.toList && (t230.toList == ((ji62).toList)))) = true := c63
                                                  clear c63
                                                  replace H := Option.bind_eq_some_iff.mp H
                                                  obtain ⟨t231, A640, H⟩ := H
                                                  replace H : (some t231) = some r := H
                                                  have A64 := Aside0.mk A640
                                                  clear A640
                                                  obtain rfl := Option.some.inj H
                                                  go_wp2_with (first | ((with_reducible refine gate_callee (f := 16) rfl ?_); refine goesL_ (some 99) rfl rfl Tryz.func16 (by kernel_rfl) rfl #[.string ji59] rfl (by (try simp only [List.map_toArray, List.map_cons, List.map_nil]); first | done | (simp only [hji59]; rfl) | rfl | (simp only [List.length_drop, List.length_take]; rfl)) ?_; (with_reducible refine (whatwg_Parse.calls kj28 ji59 t228 t229 t230 _ A60.out ?sideT).mono ?_); (case sideT => exact Utf8Tabs_below HU8_.out (by repeat (first | (with_reducible first | exact HB.out | apply below_alloc | apply pw_below_drewN | apply below_drew1) | exact HB.out))); rintro e w65 ⟨rfl, hb⟩; refine ⟨_, rfl, ?_⟩; have n0_ := Aside0.mk (below_step (by repeat (first | (with_reducible first | exact HB.out | apply below_alloc | apply pw_below_drewN | apply below_drew1) | exact HB.out)) hb); clear HB; have HB := n0_; clear n0_; (try clear hb); (try clear hb2); (try clear hk); (try clear hi)) | (go_at_call 21; (with_reducible refine (shibbolethlaw18_awake.calls kj28  t231 _ A64.out ?sideT).mono ?_); (case sideT => exact Utf8Tabs_below HU8_.out (by repeat (first | (with_reducible first | exact HB.out | apply below_alloc | apply pw_below_drewN | apply below_drew1) | exact HB.out))); rintro e w66 ⟨rfl, hb⟩; have n0_ := Aside0.mk (below_step (by repeat (first | (with_reducible first | exact HB.out | apply below_alloc | apply pw_below_drewN | apply below_drew1) | exact HB.out)) hb); clear HB; have HB := n0_; clear n0_; (try clear hb); (try clear hb2); (try clear hk); (try clear hi)))
                                                  go_ret
                                                  exact ⟨by first | rfl | (simp [errW_none, errW_some] <;> rfl) | (simp only [← hji16, ← hji20, ← hji42, ← hji44, ← hji46, ← hji49, ← hji51, ← hji53, ← hji55, ← hji57, ← hji59, ← hji62]; first | rfl | (simp [errW_none, errW_some] <;> rfl)) | (simp [*, errW_none, errW_some] <;> rfl), by repeat (first | (with_reducible first | exact HB.out | apply below_alloc | apply pw_below_drewN | apply below_drew1) | exact HB.out)⟩
                                                · rw [if_neg c63] at H
                                                  have c63b0 : (t228 && (t229.toList == a3.toList && (t230.toList == ((ji62).toList)))) = false := by simpa using c63
                                                  clear c63
                                                  obtain rfl := Option.some.inj H
                                                  go_wp2_with (first | ((with_reducible refine gate_callee (f := 16) rfl ?_); refine goesL_ (some 99) rfl rfl Tryz.func16 (by kernel_rfl) rfl #[.string ji59] rfl (by (try simp only [List.map_toArray, List.map_cons, List.map_nil]); first | done | (simp only [hji59]; rfl) | rfl | (simp only [List.length_drop, List.length_take]; rfl)) ?_; (with_reducible refine (whatwg_Parse.calls kj28 ji59 t228 t229 t230 _ A60.out ?sideT).mono ?_); (case sideT => exact Utf8Tabs_below HU8_.out (by repeat (first | (with_reducible first | exact HB.out | apply below_alloc | apply pw_below_drewN | apply below_drew1) | exact HB.out))); rintro e w67 ⟨rfl, hb⟩; refine ⟨_, rfl, ?_⟩; have n0_ := Aside0.mk (below_step (by repeat (first | (with_reducible first | exact HB.out | apply below_alloc | apply pw_below_drewN | apply below_drew1) | exact HB.out)) hb); clear HB; have HB := n0_; clear n0_; (try clear hb); (try clear hb2); (try clear hk); (try clear hi)))
                                                  go_ret
                                                  exact ⟨by first | rfl | (simp [errW_none, errW_some] <;> rfl) | (simp only [← hji16, ← hji20, ← hji42, ← hji44, ← hji46, ← hji49, ← hji51, ← hji53, ← hji55, ← hji57, ← hji59, ← hji62]; first | rfl | (simp [errW_none, errW_some] <;> rfl)) | (simp [*, errW_none, errW_some] <;> rfl), by repeat (first | (with_reducible first | exact HB.out | apply below_alloc | apply pw_below_drewN | apply below_drew1) | exact HB.out)⟩
                                              · rw [if_neg c61] at H
                                                exact absurd H (by simp)
                                            · rw [if_neg c58] at H
                                              exact absurd H (by simp)
                                          · rw [if_neg c56] at H
                                            exact absurd H (by simp)
                                        · rw [if_neg c54] at H
                                          exact absurd H (by simp)
                                      · rw [if_neg c52] at H
                                        exact absurd H (by simp)
                                    · rw [if_neg c50] at H
                                      exact absurd H (by simp)
                                  · rw [if_neg c48] at H
                                    exact absurd H (by simp)
                                · rw [if_neg c47] at H
                                  have c47b0 : ((Int.tmod a6 2) == 1) = false := beq_eq_false_iff_ne.mpr c47
                                  have c47b1 : ((Int.tmod a6 2) != 1) = true := bne_iff_ne.mpr c47
                                  by_cases c68 : (ji46).size + 1 ≤ 9223372036854775807
                                  · rw [if_pos c68] at H
                                    have c68b0 := eq_true c68
                                    have c68b1 : decide ((ji46).size + 1 ≤ 9223372036854775807) = true := decide_eq_true c68
                                    try have c68b2 : (9223372036854775807 < (ji46).size + 1) = False := eq_false (Nat.not_lt.2 c68)
                                    obtain ⟨ji69, hji69⟩ : ∃ j_ : ByteArray, ((ji46) ++ (⟨#[47]⟩ : ByteArray)) = j_ := ⟨_, rfl⟩
                                    replace H : (if (ji69).size + a4.size ≤ 9223372036854775807 then (if ((ji69) ++ a4).size + 1 ≤ 9223372036854775807 then (if (((ji69) ++ a4) ++ (⟨#[63]⟩ : ByteArray)).size + a5.size ≤ 9223372036854775807 then (if ((((ji69) ++ a4) ++ (⟨#[63]⟩ : ByteArray)) ++ a5).size + 1 ≤ 9223372036854775807 then ((whatwg_Parse.f kj28 (((((ji69) ++ a4) ++ (⟨#[63]⟩ : ByteArray)) ++ a5) ++ (⟨#[120]⟩ : ByteArray))).bind fun bt232 => (if 1 + a4.size ≤ 9223372036854775807 then (if (bt232.1 && (bt232.2.1.toList == a3.toList && (bt232.2.2.toList == (((⟨#[47]⟩ : ByteArray) ++ a4).toList)))) = true then ((shibbolethlaw18_awake.f kj28).bind fun t235 => (some t235)) else (some false)) else (none))) else (none)) else (none)) else (none)) else (none)) = some r := by first | (rw [hji69] at H; exact H) | (simp only [hji69] at H ⊢; exact H) | exact H
                                    by_cases c70 : (ji69).size + a4.size ≤ 9223372036854775807
                                    · rw [if_pos c70] at H
                                      have c70b0 := eq_true c70
                                      have c70b1 : decide ((ji69).size + a4.size ≤ 9223372036854775807) = true := decide_eq_true c70
                                      try have c70b2 : (9223372036854775807 < (ji69).size + a4.size) = False := eq_false (Nat.not_lt.2 c70)
                                      obtain ⟨ji71, hji71⟩ : ∃ j_ : ByteArray, ((ji69) ++ a4) = j_ := ⟨_, rfl⟩
                                      replace H : (if (ji71).size + 1 ≤ 9223372036854775807 then (if ((ji71) ++ (⟨#[63]⟩ : ByteArray)).size + a5.size ≤ 9223372036854775807 then (if (((ji71) ++ (⟨#[63]⟩ : ByteArray)) ++ a5).size + 1 ≤ 9223372036854775807 then ((whatwg_Parse.f kj28 ((((ji71) ++ (⟨#[63]⟩ : ByteArray)) ++ a5) ++ (⟨#[120]⟩ : ByteArray))).bind fun bt232 => (if 1 + a4.size ≤ 9223372036854775807 then (if (bt232.1 && (bt232.2.1.toList == a3.toList && (bt232.2.2.toList == (((⟨#[47]⟩ : ByteArray) ++ a4).toList)))) = true then ((shibbolethlaw18_awake.f kj28).bind fun t235 => (some t235)) else (some false)) else (none))) else (none)) else (none)) else (none)) = some r := by first | (rw [hji71] at H; exact H) | (simp only [hji71] at H ⊢; exact H) | exact H
                                      by_cases c72 : (ji71).size + 1 ≤ 9223372036854775807
                                      · rw [if_pos c72] at H
                                        have c72b0 := eq_true c72
                                        have c72b1 : decide ((ji71).size + 1 ≤ 9223372036854775807) = true := decide_eq_true c72
                                        try have c72b2 : (9223372036854775807 < (ji71).size + 1) = False := eq_false (Nat.not_lt.2 c72)
                                        obtain ⟨ji73, hji73⟩ : ∃ j_ : ByteArray, ((ji71) ++ (⟨#[63]⟩ : ByteArray)) = j_ := ⟨_, rfl⟩
                                        replace H : (if (ji73).size + a5.size ≤ 9223372036854775807 then (if ((ji73) ++ a5).size + 1 ≤ 9223372036854775807 then ((whatwg_Parse.f kj28 (((ji73) ++ a5) ++ (⟨#[120]⟩ : ByteArray))).bind fun bt232 => (if 1 + a4.size ≤ 9223372036854775807 then (if (bt232.1 && (bt232.2.1.toList == a3.toList && (bt232.2.2.toList == (((⟨#[47]⟩ : ByteArray) ++ a4).toList)))) = true then ((shibbolethlaw18_awake.f kj28).bind fun t235 => (some t235)) else (some false)) else (none))) else (none)) else (none)) = some r := by first | (rw [hji73] at H; exact H) | (simp only [hji73] at H ⊢; exact H) | exact H
                                        by_cases c74 : (ji73).size + a5.size ≤ 9223372036854775807
                                        · rw [if_pos c74] at H
                                          have c74b0 := eq_true c74
                                          have c74b1 : decide ((ji73).size + a5.size ≤ 9223372036854775807) = true := decide_eq_true c74
                                          try have c74b2 : (9223372036854775807 < (ji73).size + a5.size) = False := eq_false (Nat.not_lt.2 c74)
                                          obtain ⟨ji75, hji75⟩ : ∃ j_ : ByteArray, ((ji73) ++ a5) = j_ := ⟨_, rfl⟩
                                          replace H : (if (ji75).size + 1 ≤ 9223372036854775807 then ((whatwg_Parse.f kj28 ((ji75) ++ (⟨#[120]⟩ : ByteArray))).bind fun bt232 => (if 1 + a4.size ≤ 9223372036854775807 then (if (bt232.1 && (bt232.2.1.toList == a3.toList && (bt232.2.2.toList == (((⟨#[47]⟩ : ByteArray) ++ a4).toList)))) = true then ((shibbolethlaw18_awake.f kj28).bind fun t235 => (some t235)) else (some false)) else (none))) else (none)) = some r := by first | (rw [hji75] at H; exact H) | (simp only [hji75] at H ⊢; exact H) | exact H
                                          by_cases c76 : (ji75).size + 1 ≤ 9223372036854775807
                                          · rw [if_pos c76] at H
                                            have c76b0 := eq_true c76
                                            have c76b1 : decide ((ji75).size + 1 ≤ 9223372036854775807) = true := decide_eq_true c76
                                            try have c76b2 : (9223372036854775807 < (ji75).size + 1) = False := eq_false (Nat.not_lt.2 c76)
                                            obtain ⟨ji77, hji77⟩ : ∃ j_ : ByteArray, ((ji75) ++ (⟨#[120]⟩ : ByteArray)) = j_ := ⟨_, rfl⟩
                                            replace H : ((whatwg_Parse.f kj28 (ji77)).bind fun bt232 => (if 1 + a4.size ≤ 9223372036854775807 then (if (bt232.1 && (bt232.2.1.toList == a3.toList && (bt232.2.2.toList == (((⟨#[47]⟩ : ByteArray) ++ a4).toList)))) = true then ((shibbolethlaw18_awake.f kj28).bind fun t235 => (some t235)) else (some false)) else (none))) = some r := by first | (rw [hji77] at H; exact H) | (simp only [hji77] at H ⊢; exact H) | exact H
                                            replace H := Option.bind_eq_some_iff.mp H
                                            obtain ⟨⟨t232, t233, t234⟩, A780, H⟩ := H
                                            replace H : (if 1 + a4.size ≤ 9223372036854775807 then (if (t232 && (t233.toList == a3.toList && (t234.toList == (((⟨#[47]⟩ : ByteArray) ++ a4).toList)))) = true then ((shibbolethlaw18_awake.f kj28).bind fun t235 => (some t235)) else (some false)) else (none)) = some r := H
                                            have A78 := Aside0.mk A780
                                            clear A780
                                            by_cases c79 : 1 + a4.size ≤ 9223372036854775807
                                            · rw [if_pos c79] at H
                                              have c79b0 := eq_true c79
                                              have c79b1 : decide (1 + a4.size ≤ 9223372036854775807) = true := decide_eq_true c79
                                              try have c79b2 : (9223372036854775807 < 1 + a4.size) = False := eq_false (Nat.not_lt.2 c79)
                                              obtain ⟨ji80, hji80⟩ : ∃ j_ : ByteArray, ((⟨#[47]⟩ : ByteArray) ++ a4) = j_ := ⟨_, rfl⟩
                                              replace H : (if (t232 && (t233.toList == a3.toList && (t234.toList == ((ji80).toList)))) = true then ((shibbolethlaw18_awake.f kj28).bind fun t235 => (some t235)) else (some false)) = some r := by first | (rw [hji80] at H; exact H) | (simp only [hji80] at H ⊢; exact H) | exact H
                                              (try rw [hji80] at A78)
                                              by_cases c81 : (t232 && (t233.toList == a3.toList && (t234.toList == ((ji80).toList)))) = true
                                              · rw [if_pos c81] at H
                                                have c81b0 : (t232 && (t233.toList == a3.toList && (t234.toList == ((ji80).toList)))) = true := c81
                                                clear c81
                                                replace H := Option.bind_eq_some_iff.mp H
                                                obtain ⟨t235, A820, H⟩ := H
                                                replace H : (some t235) = some r := H
                                                have A82 := Aside0.mk A820
                                                clear A820
                                                obtain rfl := Option.some.inj H
                                                go_wp2_with (first | ((with_reducible refine gate_callee (f := 16) rfl ?_); refine goesL_ (some 99) rfl rfl Tryz.func16 (by kernel_rfl) rfl #[.string ji77] rfl (by (try simp only [List.map_toArray, List.map_cons, List.map_nil]); first | done | (simp only [hji77]; rfl) | rfl | (simp only [List.length_drop, List.length_take]; rfl)) ?_; (with_reducible refine (whatwg_Parse.calls kj28 ji77 t232 t233 t234 _ A78.out ?sideT).mono ?_); (case sideT => exact Utf8Tabs_below HU8_.out (by repeat (first | (with_reducible first | exact HB.out | apply below_alloc | apply pw_below_drewN | apply below_drew1) | exact HB.out))); rintro e w83 ⟨rfl, hb⟩; refine ⟨_, rfl, ?_⟩; have n0_ := Aside0.mk (below_step (by repeat (first | (with_reducible first | exact HB.out | apply below_alloc | apply pw_below_drewN | apply below_drew1) | exact HB.out)) hb); clear HB; have HB := n0_; clear n0_; (try clear hb); (try clear hb2); (try clear hk); (try clear hi)) | (go_at_call 21; (with_reducible refine (shibbolethlaw18_awake.calls kj28  t235 _ A82.out ?sideT).mono ?_); (case sideT => exact Utf8Tabs_below HU8_.out (by repeat (first | (with_reducible first | exact HB.out | apply below_alloc | apply pw_below_drewN | apply below_drew1) | exact HB.out))); rintro e w84 ⟨rfl, hb⟩; have n0_ := Aside0.mk (below_step (by repeat (first | (with_reducible first | exact HB.out | apply below_alloc | apply pw_below_drewN | apply below_drew1) | exact HB.out)) hb); clear HB; have HB := n0_; clear n0_; (try clear hb); (try clear hb2); (try clear hk); (try clear hi)))
                                                go_ret
                                                exact ⟨by first | rfl | (simp [errW_none, errW_some] <;> rfl) | (simp only [← hji16, ← hji20, ← hji42, ← hji44, ← hji46, ← hji69, ← hji71, ← hji73, ← hji75, ← hji77, ← hji80]; first | rfl | (simp [errW_none, errW_some] <;> rfl)) | (simp [*, errW_none, errW_some] <;> rfl), by repeat (first | (with_reducible first | exact HB.out | apply below_alloc | apply pw_below_drewN | apply below_drew1) | exact HB.out)⟩
                                              · rw [if_neg c81] at H
                                                have c81b0 : (t232 && (t233.toList == a3.toList && (t234.toList == ((ji80).toList)))) = false := by simpa using c81
                                                clear c81
                                                obtain rfl := Option.some.inj H
                                                go_wp2_with (first | ((with_reducible refine gate_callee (f := 16) rfl ?_); refine goesL_ (some 99) rfl rfl Tryz.func16 (by kernel_rfl) rfl #[.string ji77] rfl (by (try simp only [List.map_toArray, List.map_cons, List.map_nil]); first | done | (simp only [hji77]; rfl) | rfl | (simp only [List.length_drop, List.length_take]; rfl)) ?_; (with_reducible refine (whatwg_Parse.calls kj28 ji77 t232 t233 t234 _ A78.out ?sideT).mono ?_); (case sideT => exact Utf8Tabs_below HU8_.out (by repeat (first | (with_reducible first | exact HB.out | apply below_alloc | apply pw_below_drewN | apply below_drew1) | exact HB.out))); rintro e w85 ⟨rfl, hb⟩; refine ⟨_, rfl, ?_⟩; have n0_ := Aside0.mk (below_step (by repeat (first | (with_reducible first | exact HB.out | apply below_alloc | apply pw_below_drewN | apply below_drew1) | exact HB.out)) hb); clear HB; have HB := n0_; clear n0_; (try clear hb); (try clear hb2); (try clear hk); (try clear hi)))
                                                go_ret
                                                exact ⟨by first | rfl | (simp [errW_none, errW_some] <;> rfl) | (simp only [← hji16, ← hji20, ← hji42, ← hji44, ← hji46, ← hji69, ← hji71, ← hji73, ← hji75, ← hji77, ← hji80]; first | rfl | (simp [errW_none, errW_some] <;> rfl)) | (simp [*, errW_none, errW_some] <;> rfl), by repeat (first | (with_reducible first | exact HB.out | apply below_alloc | apply pw_below_drewN | apply below_drew1) | exact HB.out)⟩
                                            · rw [if_neg c79] at H
                                              exact absurd H (by simp)
                                          · rw [if_neg c76] at H
                                            exact absurd H (by simp)
                                        · rw [if_neg c74] at H
                                          exact absurd H (by simp)
                                      · rw [if_neg c72] at H
                                        exact absurd H (by simp)
                                    · rw [if_neg c70] at H
                                      exact absurd H (by simp)
                                  · rw [if_neg c68] at H
                                    exact absurd H (by simp)
                              · rw [if_neg c45] at H
                                exact absurd H (by simp)
                            · rw [if_neg c43] at H
                              exact absurd H (by simp)
                          · rw [if_neg c41] at H
                            exact absurd H (by simp)
            · rw [if_neg c19] at H
              exact absurd H (by simp)
          · rw [if_neg c18] at H
            exact absurd H (by simp)
        · rw [if_neg c17] at H
          exact absurd H (by simp)

/-- THE ONE PURE STATEMENT of shibbolethlaw18_WhatwgParts. -/
def shibbolethlaw18_WhatwgParts.Pure : Prop := ∀ (a0 : Int) (l1 : List Bool) (a2 a3 a4 a5 : ByteArray) (a6 : Int), (Lit.int .u8 a0).wf = true → a2.size ≤ 140737488351232 → a3.size ≤ 140737488351232 → a4.size ≤ 140737488351232 → a5.size ≤ 140737488351232 → (Lit.int .u16 a6).wf = true → ∃ k, shibbolethlaw18_WhatwgParts.f k a0 l1 a2 a3 a4 a5 a6 = some true
theorem shibbolethlaw18_WhatwgParts.walk (P : shibbolethlaw18_WhatwgParts.Pure) (a0 : Int) (A1 : Option Addr) (len1 cap1 : Nat) (a2 a3 a4 a5 : ByteArray) (a6 : Int) (w : World) (w0 : (Lit.int .u8 a0).wf = true) (w2 : a2.size ≤ 140737488351232) (w3 : a3.size ≤ 140737488351232) (w4 : a4.size ≤ 140737488351232) (w5 : a5.size ≤ 140737488351232) (w6 : (Lit.int .u16 a6).wf = true)
    (w1 : ∃ l1 : List Bool, len1 = l1.length ∧ ReadsOf Value.bool false w A1 l1.length l1 ∧ l1.length ≤ cap1) (hT_ : Lib.Utf8Tabs (sh_lays230_ren.g 3) (sh_lays230_ren.g 4) w) :
    Calls Tryz.prog 8 #[.int .u8 a0, .slice A1 len1 cap1, .string a2, .string a3, .string a4, .string a5, .int .u16 a6] w fun e w' => e = .returned (.bool true) ∧ Below w.heap.size w w' := by
  obtain ⟨l1, rfl, hr1, hc1⟩ := w1
  obtain ⟨k, h⟩ := P a0 l1 a2 a3 a4 a5 a6 w0 w2 w3 w4 w5 w6
  refine (shibbolethlaw18_WhatwgParts.calls k a0 A1 cap1 l1 a2 a3 a4 a5 a6 true w (Kd.C_of_reads (d := false) (h1 := fun _ => rfl) hr1) hc1 h hT_).mono ?_
  rintro e w' ⟨rfl, hd⟩
  exact ⟨rfl, hd⟩

end Go.Proofs.YtiihgddpejmehaaGreatDoor.ZA

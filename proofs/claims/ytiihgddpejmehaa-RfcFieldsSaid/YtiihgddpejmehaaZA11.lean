/- My own print (tools/mp.py) of functions of this seat: each function as a plain Lean function, and the proof that the code does what that function says. -/
import Derived.Test.YtiihgddpejmehaaZA0
import Derived.Test.YtiihgddpejmehaaZA4
import Derived.Test.YtiihgddpejmehaaZA10
namespace Go.Proofs.Ytiihgddpejmehaa.ZA
open Go.RowKit Go.Proofs.YtiihgddpejmehaaW.PrintWords Go.Proofs.YtiihgddpejmehaaW.PrintLast Go.Proofs.YtiihgddpejmehaaW.PrintMore
attribute [local go_sem] max2_int min2_int max_two min_two max_three min_three max_four min_four   -- for this text's walks alone
set_option linter.unusedVariables false
set_option linter.unusedSimpArgs false
theorem ne_nil_isEmpty (l : List UInt8) : (l != ([] : List UInt8)) = !l.isEmpty := by cases l <;> rfl

/-! ### shibbolethlaw19_RfcSplits: function 5 -/
mutual
def shibbolethlaw19_RfcSplits.j0 : Nat → ByteArray → ByteArray → ByteArray → ByteArray → ByteArray → ByteArray → ByteArray → Bool → Bool → Bool → Bool → Option (Bool)
  | 0, _, _, _, _, _, _, _, _, _, _, _ => none
  | k + 1, x0, x3, x4, x5, x6, x7, x9, x309000, x309001, x309002, x309003 => if x309001 = true then (if x9.size + 2 ≤ 9223372036854775807 then (if (x9 ++ (⟨#[47, 47]⟩ : ByteArray)).size + x4.size ≤ 9223372036854775807 then (shibbolethlaw19_RfcSplits.j1 k x0 x3 x4 x5 x6 x7 ((x9 ++ (⟨#[47, 47]⟩ : ByteArray)) ++ x4) x309000 x309001 x309002 x309003) else (none)) else (none)) else (shibbolethlaw19_RfcSplits.j1 k x0 x3 x4 x5 x6 x7 x9 x309000 x309001 x309002 x309003)
def shibbolethlaw19_RfcSplits.j1 : Nat → ByteArray → ByteArray → ByteArray → ByteArray → ByteArray → ByteArray → ByteArray → Bool → Bool → Bool → Bool → Option (Bool)
  | 0, _, _, _, _, _, _, _, _, _, _, _ => none
  | k + 1, x0, x3, x4, x5, x6, x7, x9, x309000, x309001, x309002, x309003 => if x9.size + x5.size ≤ 9223372036854775807 then (if x309002 = true then (if (x9 ++ x5).size + 1 ≤ 9223372036854775807 then (if ((x9 ++ x5) ++ (⟨#[63]⟩ : ByteArray)).size + x6.size ≤ 9223372036854775807 then (shibbolethlaw19_RfcSplits.j2 k x0 x3 x4 x5 x6 x7 (((x9 ++ x5) ++ (⟨#[63]⟩ : ByteArray)) ++ x6) x309000 x309001 x309002 x309003) else (none)) else (none)) else (shibbolethlaw19_RfcSplits.j2 k x0 x3 x4 x5 x6 x7 (x9 ++ x5) x309000 x309001 x309002 x309003)) else (none)
def shibbolethlaw19_RfcSplits.j2 : Nat → ByteArray → ByteArray → ByteArray → ByteArray → ByteArray → ByteArray → ByteArray → Bool → Bool → Bool → Bool → Option (Bool)
  | 0, _, _, _, _, _, _, _, _, _, _, _ => none
  | k + 1, x0, x3, x4, x5, x6, x7, x9, x309000, x309001, x309002, x309003 => if x309003 = true then (if x9.size + 1 ≤ 9223372036854775807 then (if (x9 ++ (⟨#[35]⟩ : ByteArray)).size + x7.size ≤ 9223372036854775807 then (shibbolethlaw19_RfcSplits.j3 k x0 x3 x4 x5 x6 x7 ((x9 ++ (⟨#[35]⟩ : ByteArray)) ++ x7) x309000 x309001 x309002 x309003) else (none)) else (none)) else (shibbolethlaw19_RfcSplits.j3 k x0 x3 x4 x5 x6 x7 x9 x309000 x309001 x309002 x309003)
def shibbolethlaw19_RfcSplits.j3 : Nat → ByteArray → ByteArray → ByteArray → ByteArray → ByteArray → ByteArray → ByteArray → Bool → Bool → Bool → Bool → Option (Bool)
  | 0, _, _, _, _, _, _, _, _, _, _, _ => none
  | k + 1, x0, x3, x4, x5, x6, x7, x9, x309000, x309001, x309002, x309003 => if x9.toList = x0.toList then (if (x309000 != (x3.toList != ([] : List UInt8))) = true then (shibbolethlaw19_RfcSplits.j4 k x3 x4 x5 x6 true x309000 x309001 x309002 x309003) else (if x309001 = true then (if x309002 = true then (if x309003 = true then (shibbolethlaw19_RfcSplits.j4 k x3 x4 x5 x6 false x309000 x309001 x309002 x309003) else (shibbolethlaw19_RfcSplits.j4 k x3 x4 x5 x6 (x7.toList != ([] : List UInt8)) x309000 x309001 x309002 x309003)) else (if x6.toList = ([] : List UInt8) then (if x309003 = true then (shibbolethlaw19_RfcSplits.j4 k x3 x4 x5 x6 false x309000 x309001 x309002 x309003) else (shibbolethlaw19_RfcSplits.j4 k x3 x4 x5 x6 (x7.toList != ([] : List UInt8)) x309000 x309001 x309002 x309003)) else (shibbolethlaw19_RfcSplits.j4 k x3 x4 x5 x6 true x309000 x309001 x309002 x309003))) else (if x4.toList = ([] : List UInt8) then (if x309002 = true then (if x309003 = true then (shibbolethlaw19_RfcSplits.j4 k x3 x4 x5 x6 false x309000 x309001 x309002 x309003) else (shibbolethlaw19_RfcSplits.j4 k x3 x4 x5 x6 (x7.toList != ([] : List UInt8)) x309000 x309001 x309002 x309003)) else (if x6.toList = ([] : List UInt8) then (if x309003 = true then (shibbolethlaw19_RfcSplits.j4 k x3 x4 x5 x6 false x309000 x309001 x309002 x309003) else (shibbolethlaw19_RfcSplits.j4 k x3 x4 x5 x6 (x7.toList != ([] : List UInt8)) x309000 x309001 x309002 x309003)) else (shibbolethlaw19_RfcSplits.j4 k x3 x4 x5 x6 true x309000 x309001 x309002 x309003))) else (shibbolethlaw19_RfcSplits.j4 k x3 x4 x5 x6 true x309000 x309001 x309002 x309003)))) else (shibbolethlaw19_RfcSplits.j4 k x3 x4 x5 x6 true x309000 x309001 x309002 x309003)
def shibbolethlaw19_RfcSplits.j4 : Nat → ByteArray → ByteArray → ByteArray → ByteArray → Bool → Bool → Bool → Bool → Bool → Option (Bool)
  | 0, _, _, _, _, _, _, _, _, _ => none
  | k + 1, x3, x4, x5, x6, x82, x309000, x309001, x309002, x309003 => if x82 = true then (some false) else ((shibbolethlaw19_has.f k x3 (⟨#[58, 47, 63, 35]⟩ : ByteArray)).bind fun t309 => (if t309 = true then (some false) else ((shibbolethlaw19_has.f k x4 (⟨#[47, 63, 35]⟩ : ByteArray)).bind fun t310 => (if t310 = true then (some false) else ((shibbolethlaw19_has.f k x5 (⟨#[63, 35]⟩ : ByteArray)).bind fun t311 => (if t311 = true then (some false) else ((shibbolethlaw19_has.f k x6 (⟨#[35]⟩ : ByteArray)).bind fun t312 => (if t312 = true then (some false) else (if x309001 = true then (if x5.toList = ([] : List UInt8) then ((shibbolethlaw19_awake.f k).bind fun t313 => (some t313)) else (if 0 < (x5.size : Int) then (if (bt x5 0) = 47 then ((shibbolethlaw19_awake.f k).bind fun t314 => (some t314)) else (some false)) else (none))) else (if (x5.size : Int) < 2 then ((shibbolethlaw19_awake.f k).bind fun t315 => (some t315)) else (if 0 ≤ 2 then (if 2 ≤ (x5.size : Int) then (if (x5.extract 0 2).toList = ([47, 47] : List UInt8) then (some false) else ((shibbolethlaw19_awake.f k).bind fun t316 => (some t316))) else (none)) else (none))))))))))))
end
def shibbolethlaw19_RfcSplits.f (k : Nat) (a0 : ByteArray) : Option (Bool) := (shibbolethlaw19_Short.f a0).bind fun t298 => ((rfc_Split.f k t298).bind fun bt299 => (if bt299.2.2.2.2.2.1 = true then (if bt299.1.size + 1 ≤ 9223372036854775807 then (shibbolethlaw19_RfcSplits.j0 k t298 bt299.1 bt299.2.1 bt299.2.2.1 bt299.2.2.2.1 bt299.2.2.2.2.1 (bt299.1 ++ (⟨#[58]⟩ : ByteArray)) bt299.2.2.2.2.2.1 bt299.2.2.2.2.2.2.1 bt299.2.2.2.2.2.2.2.1 bt299.2.2.2.2.2.2.2.2) else (none)) else (shibbolethlaw19_RfcSplits.j0 k t298 bt299.1 bt299.2.1 bt299.2.2.1 bt299.2.2.2.1 bt299.2.2.2.2.1 (⟨#[]⟩ : ByteArray) bt299.2.2.2.2.2.1 bt299.2.2.2.2.2.2.1 bt299.2.2.2.2.2.2.2.1 bt299.2.2.2.2.2.2.2.2)))
theorem shibbolethlaw19_RfcSplits.mono_l : ∀ k, (∀ y0 y1 y2 y3 y4 y5 y6 y7 y8 y9 y10, LeO (shibbolethlaw19_RfcSplits.j0 k y0 y1 y2 y3 y4 y5 y6 y7 y8 y9 y10) (shibbolethlaw19_RfcSplits.j0 (k + 1) y0 y1 y2 y3 y4 y5 y6 y7 y8 y9 y10)) ∧ (∀ y0 y1 y2 y3 y4 y5 y6 y7 y8 y9 y10, LeO (shibbolethlaw19_RfcSplits.j1 k y0 y1 y2 y3 y4 y5 y6 y7 y8 y9 y10) (shibbolethlaw19_RfcSplits.j1 (k + 1) y0 y1 y2 y3 y4 y5 y6 y7 y8 y9 y10)) ∧ (∀ y0 y1 y2 y3 y4 y5 y6 y7 y8 y9 y10, LeO (shibbolethlaw19_RfcSplits.j2 k y0 y1 y2 y3 y4 y5 y6 y7 y8 y9 y10) (shibbolethlaw19_RfcSplits.j2 (k + 1) y0 y1 y2 y3 y4 y5 y6 y7 y8 y9 y10)) ∧ (∀ y0 y1 y2 y3 y4 y5 y6 y7 y8 y9 y10, LeO (shibbolethlaw19_RfcSplits.j3 k y0 y1 y2 y3 y4 y5 y6 y7 y8 y9 y10) (shibbolethlaw19_RfcSplits.j3 (k + 1) y0 y1 y2 y3 y4 y5 y6 y7 y8 y9 y10)) ∧ (∀ y0 y1 y2 y3 y4 y5 y6 y7 y8, LeO (shibbolethlaw19_RfcSplits.j4 k y0 y1 y2 y3 y4 y5 y6 y7 y8) (shibbolethlaw19_RfcSplits.j4 (k + 1) y0 y1 y2 y3 y4 y5 y6 y7 y8))
  | 0 => ⟨fun _ _ _ _ _ _ _ _ _ _ _ r h => by simp [shibbolethlaw19_RfcSplits.j0] at h, fun _ _ _ _ _ _ _ _ _ _ _ r h => by simp [shibbolethlaw19_RfcSplits.j1] at h, fun _ _ _ _ _ _ _ _ _ _ _ r h => by simp [shibbolethlaw19_RfcSplits.j2] at h, fun _ _ _ _ _ _ _ _ _ _ _ r h => by simp [shibbolethlaw19_RfcSplits.j3] at h, fun _ _ _ _ _ _ _ _ _ r h => by simp [shibbolethlaw19_RfcSplits.j4] at h⟩
  | k + 1 => by
    obtain ⟨ih0, ih1, ih2, ih3, ih4⟩ := shibbolethlaw19_RfcSplits.mono_l k
    refine ⟨?_, ?_, ?_, ?_, ?_⟩
    · intro y0 y1 y2 y3 y4 y5 y6 y7 y8 y9 y10
      unfold shibbolethlaw19_RfcSplits.j0
      repeat' first
      | (with_reducible exact ih0 _ _ _ _ _ _ _ _ _ _ _)
      | (with_reducible exact ih1 _ _ _ _ _ _ _ _ _ _ _)
      | (with_reducible exact ih2 _ _ _ _ _ _ _ _ _ _ _)
      | (with_reducible exact ih3 _ _ _ _ _ _ _ _ _ _ _)
      | (with_reducible exact ih4 _ _ _ _ _ _ _ _ _)
      | (with_reducible exact rfc_Split.mono _ _)
      | (with_reducible exact shibbolethlaw19_awake.mono _)
      | (with_reducible exact shibbolethlaw19_has.mono _ _ _)
      | (with_reducible exact LeO.refl _)
      | (with_reducible exact LeO.none _)
      | (with_reducible refine LeO.ite ?_ ?_)
      | (with_reducible refine LeO.bind ?_ (fun _ => ?_))
      | exact ih0 _ _ _ _ _ _ _ _ _ _ _
      | exact ih1 _ _ _ _ _ _ _ _ _ _ _
      | exact ih2 _ _ _ _ _ _ _ _ _ _ _
      | exact ih3 _ _ _ _ _ _ _ _ _ _ _
      | exact ih4 _ _ _ _ _ _ _ _ _
      | exact rfc_Split.mono _ _
      | exact shibbolethlaw19_awake.mono _
      | exact shibbolethlaw19_has.mono _ _ _
      | exact LeO.none _
      | refine LeO.ite ?_ ?_
      | refine LeO.bind ?_ (fun _ => ?_)
    · intro y0 y1 y2 y3 y4 y5 y6 y7 y8 y9 y10
      unfold shibbolethlaw19_RfcSplits.j1
      repeat' first
      | (with_reducible exact ih0 _ _ _ _ _ _ _ _ _ _ _)
      | (with_reducible exact ih1 _ _ _ _ _ _ _ _ _ _ _)
      | (with_reducible exact ih2 _ _ _ _ _ _ _ _ _ _ _)
      | (with_reducible exact ih3 _ _ _ _ _ _ _ _ _ _ _)
      | (with_reducible exact ih4 _ _ _ _ _ _ _ _ _)
      | (with_reducible exact rfc_Split.mono _ _)
      | (with_reducible exact shibbolethlaw19_awake.mono _)
      | (with_reducible exact shibbolethlaw19_has.mono _ _ _)
      | (with_reducible exact LeO.refl _)
      | (with_reducible exact LeO.none _)
      | (with_reducible refine LeO.ite ?_ ?_)
      | (with_reducible refine LeO.bind ?_ (fun _ => ?_))
      | exact ih0 _ _ _ _ _ _ _ _ _ _ _
      | exact ih1 _ _ _ _ _ _ _ _ _ _ _
      | exact ih2 _ _ _ _ _ _ _ _ _ _ _
      | exact ih3 _ _ _ _ _ _ _ _ _ _ _
      | exact ih4 _ _ _ _ _ _ _ _ _
      | exact rfc_Split.mono _ _
      | exact shibbolethlaw19_awake.mono _
      | exact shibbolethlaw19_has.mono _ _ _
      | exact LeO.none _
      | refine LeO.ite ?_ ?_
      | refine LeO.bind ?_ (fun _ => ?_)
    · intro y0 y1 y2 y3 y4 y5 y6 y7 y8 y9 y10
      unfold shibbolethlaw19_RfcSplits.j2
      repeat' first
      | (with_reducible exact ih0 _ _ _ _ _ _ _ _ _ _ _)
      | (with_reducible exact ih1 _ _ _ _ _ _ _ _ _ _ _)
      | (with_reducible exact ih2 _ _ _ _ _ _ _ _ _ _ _)
      | (with_reducible exact ih3 _ _ _ _ _ _ _ _ _ _ _)
      | (with_reducible exact ih4 _ _ _ _ _ _ _ _ _)
      | (with_reducible exact rfc_Split.mono _ _)
      | (with_reducible exact shibbolethlaw19_awake.mono _)
      | (with_reducible exact shibbolethlaw19_has.mono _ _ _)
      | (with_reducible exact LeO.refl _)
      | (with_reducible exact LeO.none _)
      | (with_reducible refine LeO.ite ?_ ?_)
      | (with_reducible refine LeO.bind ?_ (fun _ => ?_))
      | exact ih0 _ _ _ _ _ _ _ _ _ _ _
      | exact ih1 _ _ _ _ _ _ _ _ _ _ _
      | exact ih2 _ _ _ _ _ _ _ _ _ _ _
      | exact ih3 _ _ _ _ _ _ _ _ _ _ _
      | exact ih4 _ _ _ _ _ _ _ _ _
      | exact rfc_Split.mono _ _
      | exact shibbolethlaw19_awake.mono _
      | exact shibbolethlaw19_has.mono _ _ _
      | exact LeO.none _
      | refine LeO.ite ?_ ?_
      | refine LeO.bind ?_ (fun _ => ?_)
    · intro y0 y1 y2 y3 y4 y5 y6 y7 y8 y9 y10
      unfold shibbolethlaw19_RfcSplits.j3
      repeat' first
      | (with_reducible exact ih0 _ _ _ _ _ _ _ _ _ _ _)
      | (with_reducible exact ih1 _ _ _ _ _ _ _ _ _ _ _)
      | (with_reducible exact ih2 _ _ _ _ _ _ _ _ _ _ _)
      | (with_reducible exact ih3 _ _ _ _ _ _ _ _ _ _ _)
      | (with_reducible exact ih4 _ _ _ _ _ _ _ _ _)
      | (with_reducible exact rfc_Split.mono _ _)
      | (with_reducible exact shibbolethlaw19_awake.mono _)
      | (with_reducible exact shibbolethlaw19_has.mono _ _ _)
      | (with_reducible exact LeO.refl _)
      | (with_reducible exact LeO.none _)
      | (with_reducible refine LeO.ite ?_ ?_)
      | (with_reducible refine LeO.bind ?_ (fun _ => ?_))
      | exact ih0 _ _ _ _ _ _ _ _ _ _ _
      | exact ih1 _ _ _ _ _ _ _ _ _ _ _
      | exact ih2 _ _ _ _ _ _ _ _ _ _ _
      | exact ih3 _ _ _ _ _ _ _ _ _ _ _
      | exact ih4 _ _ _ _ _ _ _ _ _
      | exact rfc_Split.mono _ _
      | exact shibbolethlaw19_awake.mono _
      | exact shibbolethlaw19_has.mono _ _ _
      | exact LeO.none _
      | refine LeO.ite ?_ ?_
      | refine LeO.bind ?_ (fun _ => ?_)
    · intro y0 y1 y2 y3 y4 y5 y6 y7 y8
      unfold shibbolethlaw19_RfcSplits.j4
      repeat' first
      | (with_reducible exact ih0 _ _ _ _ _ _ _ _ _ _ _)
      | (with_reducible exact ih1 _ _ _ _ _ _ _ _ _ _ _)
      | (with_reducible exact ih2 _ _ _ _ _ _ _ _ _ _ _)
      | (with_reducible exact ih3 _ _ _ _ _ _ _ _ _ _ _)
      | (with_reducible exact ih4 _ _ _ _ _ _ _ _ _)
      | (with_reducible exact rfc_Split.mono _ _)
      | (with_reducible exact shibbolethlaw19_awake.mono _)
      | (with_reducible exact shibbolethlaw19_has.mono _ _ _)
      | (with_reducible exact LeO.refl _)
      | (with_reducible exact LeO.none _)
      | (with_reducible refine LeO.ite ?_ ?_)
      | (with_reducible refine LeO.bind ?_ (fun _ => ?_))
      | exact ih0 _ _ _ _ _ _ _ _ _ _ _
      | exact ih1 _ _ _ _ _ _ _ _ _ _ _
      | exact ih2 _ _ _ _ _ _ _ _ _ _ _
      | exact ih3 _ _ _ _ _ _ _ _ _ _ _
      | exact ih4 _ _ _ _ _ _ _ _ _
      | exact rfc_Split.mono _ _
      | exact shibbolethlaw19_awake.mono _
      | exact shibbolethlaw19_has.mono _ _ _
      | exact LeO.none _
      | refine LeO.ite ?_ ?_
      | refine LeO.bind ?_ (fun _ => ?_)
theorem shibbolethlaw19_RfcSplits.mono : ∀ a0 k, LeO (shibbolethlaw19_RfcSplits.f k a0) (shibbolethlaw19_RfcSplits.f (k + 1) a0) := by
  intro a0 k
  obtain ⟨ih0, ih1, ih2, ih3, ih4⟩ := shibbolethlaw19_RfcSplits.mono_l k
  unfold shibbolethlaw19_RfcSplits.f
  repeat' first
      | (with_reducible exact ih0 _ _ _ _ _ _ _ _ _ _ _)
      | (with_reducible exact ih1 _ _ _ _ _ _ _ _ _ _ _)
      | (with_reducible exact ih2 _ _ _ _ _ _ _ _ _ _ _)
      | (with_reducible exact ih3 _ _ _ _ _ _ _ _ _ _ _)
      | (with_reducible exact ih4 _ _ _ _ _ _ _ _ _)
      | (with_reducible exact rfc_Split.mono _ _)
      | (with_reducible exact shibbolethlaw19_awake.mono _)
      | (with_reducible exact shibbolethlaw19_has.mono _ _ _)
      | (with_reducible exact LeO.refl _)
      | (with_reducible exact LeO.none _)
      | (with_reducible refine LeO.ite ?_ ?_)
      | (with_reducible refine LeO.bind ?_ (fun _ => ?_))
      | exact ih0 _ _ _ _ _ _ _ _ _ _ _
      | exact ih1 _ _ _ _ _ _ _ _ _ _ _
      | exact ih2 _ _ _ _ _ _ _ _ _ _ _
      | exact ih3 _ _ _ _ _ _ _ _ _ _ _
      | exact ih4 _ _ _ _ _ _ _ _ _
      | exact rfc_Split.mono _ _
      | exact shibbolethlaw19_awake.mono _
      | exact shibbolethlaw19_has.mono _ _ _
      | exact LeO.none _
      | refine LeO.ite ?_ ?_
      | refine LeO.bind ?_ (fun _ => ?_)
set_option maxHeartbeats 8000000 in
set_option maxRecDepth 100000 in
theorem shibbolethlaw19_RfcSplits.calls (k : Nat) (a0 : ByteArray) (r : Bool) (w : World) (h : shibbolethlaw19_RfcSplits.f k a0 = some r) :
    Calls Try.prog 5 #[.string a0] w fun e w' => e = .returned (.bool r) ∧ Below w.heap.size w w' := by
  have hu28 := Try.underlying28
  have HB := Aside0.mk (Below.refl w.heap.size w)
  have H : ((shibbolethlaw19_Short.f a0).bind fun t298 => ((rfc_Split.f k t298).bind fun bt299 => (if bt299.2.2.2.2.2.1 = true then (if bt299.1.size + 1 ≤ 9223372036854775807 then (shibbolethlaw19_RfcSplits.j0 k t298 bt299.1 bt299.2.1 bt299.2.2.1 bt299.2.2.2.1 bt299.2.2.2.2.1 (bt299.1 ++ (⟨#[58]⟩ : ByteArray)) bt299.2.2.2.2.2.1 bt299.2.2.2.2.2.2.1 bt299.2.2.2.2.2.2.2.1 bt299.2.2.2.2.2.2.2.2) else (none)) else (shibbolethlaw19_RfcSplits.j0 k t298 bt299.1 bt299.2.1 bt299.2.2.1 bt299.2.2.2.1 bt299.2.2.2.2.1 (⟨#[]⟩ : ByteArray) bt299.2.2.2.2.2.1 bt299.2.2.2.2.2.2.1 bt299.2.2.2.2.2.2.2.1 bt299.2.2.2.2.2.2.2.2)))) = some r := h
  clear h
  replace H := Option.bind_eq_some_iff.mp H
  obtain ⟨t298, A20, H⟩ := H
  replace H : ((rfc_Split.f k t298).bind fun bt299 => (if bt299.2.2.2.2.2.1 = true then (if bt299.1.size + 1 ≤ 9223372036854775807 then (shibbolethlaw19_RfcSplits.j0 k t298 bt299.1 bt299.2.1 bt299.2.2.1 bt299.2.2.2.1 bt299.2.2.2.2.1 (bt299.1 ++ (⟨#[58]⟩ : ByteArray)) bt299.2.2.2.2.2.1 bt299.2.2.2.2.2.2.1 bt299.2.2.2.2.2.2.2.1 bt299.2.2.2.2.2.2.2.2) else (none)) else (shibbolethlaw19_RfcSplits.j0 k t298 bt299.1 bt299.2.1 bt299.2.2.1 bt299.2.2.2.1 bt299.2.2.2.2.1 (⟨#[]⟩ : ByteArray) bt299.2.2.2.2.2.1 bt299.2.2.2.2.2.2.1 bt299.2.2.2.2.2.2.2.1 bt299.2.2.2.2.2.2.2.2))) = some r := H
  have A2 := Aside0.mk A20
  clear A20
  replace H := Option.bind_eq_some_iff.mp H
  obtain ⟨⟨t299, t300, t301, t302, t303, t304, t305, t306, t307⟩, A30, H⟩ := H
  replace H : (if t304 = true then (if t299.size + 1 ≤ 9223372036854775807 then (shibbolethlaw19_RfcSplits.j0 k t298 t299 t300 t301 t302 t303 (t299 ++ (⟨#[58]⟩ : ByteArray)) t304 t305 t306 t307) else (none)) else (shibbolethlaw19_RfcSplits.j0 k t298 t299 t300 t301 t302 t303 (⟨#[]⟩ : ByteArray) t304 t305 t306 t307)) = some r := H
  have A3 := Aside0.mk A30
  clear A30
  have HC4 := Aside0.mk H
  clear H
  go_enter Try.func5, Try.ntmps5
  go_upto_if 22 with (first | ((with_reducible refine gate_callee (f := 13) rfl ?_); refine goesL_ (some 11) rfl rfl Try.func13 (by kernel_rfl) rfl #[.string a0] rfl (by (try simp only [List.map_toArray, List.map_cons, List.map_nil]); first | done | rfl | (simp only [List.length_drop, List.length_take]; rfl)) ?_; (with_reducible refine (shibbolethlaw19_Short.calls a0 t298 _ A2.out).mono ?_); rintro e w' ⟨rfl, ⟨nd, rfl⟩⟩; refine ⟨_, rfl, ?_⟩) | ((with_reducible refine gate_callee (f := 10) rfl ?_); refine goesL_ (some 14) rfl rfl Try.func10 (by kernel_rfl) rfl #[.string t298] rfl (by (try simp only [List.map_toArray, List.map_cons, List.map_nil]); first | done | rfl | (simp only [List.length_drop, List.length_take]; rfl)) ?_; (with_reducible refine (rfc_Split.calls k t298 t299 t300 t301 t302 t303 t304 t305 t306 t307 _ A3.out).mono ?_); rintro e w5 ⟨rfl, hb⟩; refine ⟨_, rfl, ?_⟩; have n0_ := Aside0.mk (below_step (by repeat (first | (with_reducible first | exact HB.out | apply below_alloc | apply pw_below_drewN | apply below_drew1) | exact HB.out)) hb); clear HB; have HB := n0_; clear n0_; (try clear hb); (try clear hb2); (try clear hk); (try clear hi)) | ((with_reducible refine gate_dst (N := 8) rfl ?_); (try (refine gate_guard (by rfl) ?_; dsimp only)); refine box_event ?hg (N := 8) ?hd (cs := #[.bool false, .bool false, .bool false, .bool false]) (t := 28) ?hr ?_; (case hd => rfl); (case hg => rfl); (case hr => first | (go_simp; done) | (go_simp; rfl)); intro gb308 hg w6 hbox hb; have n0_ := Aside0.mk (below_step (by repeat (first | (with_reducible first | exact HB.out | apply below_alloc | apply pw_below_drewN | apply below_drew1) | exact HB.out)) hb); have n1_ := Aside0.mk (hbox); have n2_ := Aside0.mk ((by rw [hg]; exact (below_size (by repeat (first | (with_reducible first | exact HB.out | apply below_alloc | apply pw_below_drewN | apply below_drew1) | exact HB.out))) : w.heap.size ≤ gb308)); have n3_ := Aside0.mk ((by rw [hg]; exact (below_size (by repeat (first | (with_reducible first | exact HB.out | apply below_alloc | apply pw_below_drewN | apply below_drew1) | exact HB.out))) : w.heap.size ≤ gb308)); clear HB; have HB := n0_; have BK308 := n1_; have GW308 := n2_; have GE308 := n3_; clear n0_ n1_ n2_ n3_; clear hb hbox hg; have hcz7_0 : w6.cell? ⟨gb308, 0, none⟩ = some (.bool false) := (blk_cell BK308.out 0).trans rfl; have hcz7_1 : w6.cell? ⟨gb308, 1, none⟩ = some (.bool false) := (blk_cell BK308.out 1).trans rfl; have hcz7_2 : w6.cell? ⟨gb308, 2, none⟩ = some (.bool false) := (blk_cell BK308.out 2).trans rfl; have hcz7_3 : w6.cell? ⟨gb308, 3, none⟩ = some (.bool false) := (blk_cell BK308.out 3).trans rfl; have hfz7_0 := blk_frozen BK308.out 0; have hfz7_1 := blk_frozen BK308.out 1; have hfz7_2 := blk_frozen BK308.out 2; have hfz7_3 := blk_frozen BK308.out 3))
  (try simp only [Act.put, List.setIfInBounds_toArray, List.set_cons_zero, List.set_cons_succ])
  go_cut [9] (fun v9 wc => ∃ (kq : Nat) (x9_3 : ByteArray), v9 = .string x9_3 ∧ Aside0 (shibbolethlaw19_RfcSplits.j0 kq t298 t299 t300 t301 t302 t303 x9_3 t304 t305 t306 t307 = some r) ∧ Aside0 (kq ≤ k) ∧ Aside0 (wc.heap[gb308]? = some (.cells #[.bool t304, .bool t305, .bool t306, .bool t307] 28 (0, 0))) ∧ Aside0 (Below w.heap.size w wc))
  case first =>
    have H := HC4.out
    clear HC4
    by_cases c8 : t304 = true
    · subst c8
      have H1 : (if t299.size + 1 ≤ 9223372036854775807 then (shibbolethlaw19_RfcSplits.j0 k t298 t299 t300 t301 t302 t303 (t299 ++ (⟨#[58]⟩ : ByteArray)) true t305 t306 t307) else (none)) = some r := by rw [if_pos rfl] at H; exact H
      clear H
      have H := H1
      clear H1
      by_cases c9 : t299.size + 1 ≤ 9223372036854775807
      · rw [if_pos c9] at H
        have c9b0 := eq_true c9
        have c9b1 : decide (t299.size + 1 ≤ 9223372036854775807) = true := decide_eq_true c9
        try have c9b2 : (9223372036854775807 < t299.size + 1) = False := eq_false (Nat.not_lt.2 c9)
        obtain ⟨ji10, hji10⟩ : ∃ j_ : ByteArray, (t299 ++ (⟨#[58]⟩ : ByteArray)) = j_ := ⟨_, rfl⟩
        replace H : (shibbolethlaw19_RfcSplits.j0 k t298 t299 t300 t301 t302 t303 ji10 true t305 t306 t307) = some r := by first | (rw [hji10] at H; exact H) | (simp only [hji10] at H ⊢; exact H) | exact H
        have H' := Aside0.mk H
        clear H
        go_wp2
        go_meet
        case rel => exact ⟨_, (ji10), (by first | rfl | (simp; done) | (simp only [← hji10] <;> (first | rfl | simp)) | (simp [*]; done) | (simp [ne_nil_isEmpty, of_eq_true c36b9]; done)), H', ⟨by first | omega | exact Nat.le_refl _⟩, ⟨by (with_reducible repeat (first | refine blk_drewN ?_ _ | refine blk_drew ?_ | refine blk_alloc ?_ _)); refine blk_put (cs := #[.bool true, .bool t305, .bool t306, .bool false]) ?_ 3 _ rfl; (with_reducible repeat (first | refine blk_drewN ?_ _ | refine blk_drew ?_ | refine blk_alloc ?_ _)); refine blk_put (cs := #[.bool true, .bool t305, .bool false, .bool false]) ?_ 2 _ rfl; (with_reducible repeat (first | refine blk_drewN ?_ _ | refine blk_drew ?_ | refine blk_alloc ?_ _)); refine blk_put (cs := #[.bool true, .bool false, .bool false, .bool false]) ?_ 1 _ rfl; (with_reducible repeat (first | refine blk_drewN ?_ _ | refine blk_drew ?_ | refine blk_alloc ?_ _)); refine blk_put (cs := #[.bool false, .bool false, .bool false, .bool false]) ?_ 0 _ rfl; (with_reducible repeat (first | refine blk_drewN ?_ _ | refine blk_drew ?_ | refine blk_alloc ?_ _)); exact BK308.out⟩, ⟨by repeat (first | (with_reducible first | exact HB.out | apply below_alloc | apply pw_below_drewN | apply below_drew1 | refine below_set ?_ GE308.out) | exact HB.out)⟩⟩
      · rw [if_neg c9] at H
        exact absurd H (by simp)
    · replace c8 := Bool.eq_false_iff.mpr c8
      subst c8
      have H1 : (shibbolethlaw19_RfcSplits.j0 k t298 t299 t300 t301 t302 t303 (⟨#[]⟩ : ByteArray) false t305 t306 t307) = some r := by rw [if_neg (show ¬ (false = true) by decide)] at H; exact H
      clear H
      have H := H1
      clear H1
      have H' := Aside0.mk H
      clear H
      go_wp2
      go_meet
      case rel => exact ⟨_, ((⟨#[]⟩ : ByteArray)), (by first | rfl | (simp; done) | (simp [*]; done) | (simp [ne_nil_isEmpty, of_eq_true c36b9]; done)), H', ⟨by first | omega | exact Nat.le_refl _⟩, ⟨by (with_reducible repeat (first | refine blk_drewN ?_ _ | refine blk_drew ?_ | refine blk_alloc ?_ _)); refine blk_put (cs := #[.bool false, .bool t305, .bool t306, .bool false]) ?_ 3 _ rfl; (with_reducible repeat (first | refine blk_drewN ?_ _ | refine blk_drew ?_ | refine blk_alloc ?_ _)); refine blk_put (cs := #[.bool false, .bool t305, .bool false, .bool false]) ?_ 2 _ rfl; (with_reducible repeat (first | refine blk_drewN ?_ _ | refine blk_drew ?_ | refine blk_alloc ?_ _)); refine blk_put (cs := #[.bool false, .bool false, .bool false, .bool false]) ?_ 1 _ rfl; (with_reducible repeat (first | refine blk_drewN ?_ _ | refine blk_drew ?_ | refine blk_alloc ?_ _)); refine blk_put (cs := #[.bool false, .bool false, .bool false, .bool false]) ?_ 0 _ rfl; (with_reducible repeat (first | refine blk_drewN ?_ _ | refine blk_drew ?_ | refine blk_alloc ?_ _)); exact BK308.out⟩, ⟨by repeat (first | (with_reducible first | exact HB.out | apply below_alloc | apply pw_below_drewN | apply below_drew1 | refine below_set ?_ GE308.out) | exact HB.out)⟩⟩
  case rest =>
    clear HC4
    try clear c1
    try clear p2
    try clear c5
    try clear c8
    try clear c9
    try clear c9b0
    try clear c9b1
    try clear c9b2
    try clear c10
    try clear hcz7_0
    try clear hcz7_1
    try clear hcz7_2
    try clear hcz7_3
    try clear hfz7_0
    try clear hfz7_1
    try clear hfz7_2
    try clear hfz7_3
    obtain ⟨kq, x9_3, rfl, HA, HJ3, BK308, HB⟩ := hcut
    cases kq with
    | zero => exact absurd HA.out (by simp [shibbolethlaw19_RfcSplits.j0])
    | succ kj3 =>
      have H := HA.out
      clear HA
      simp only [shibbolethlaw19_RfcSplits.j0] at H
      have HC11 := Aside0.mk H
      clear H
      have hcz12_0 : wc.cell? ⟨gb308, 0, none⟩ = some (.bool t304) := (blk_cell BK308.out 0).trans rfl
      have hcz12_1 : wc.cell? ⟨gb308, 1, none⟩ = some (.bool t305) := (blk_cell BK308.out 1).trans rfl
      have hcz12_2 : wc.cell? ⟨gb308, 2, none⟩ = some (.bool t306) := (blk_cell BK308.out 2).trans rfl
      have hcz12_3 : wc.cell? ⟨gb308, 3, none⟩ = some (.bool t307) := (blk_cell BK308.out 3).trans rfl
      have hfz12_0 := blk_frozen BK308.out 0
      have hfz12_1 := blk_frozen BK308.out 1
      have hfz12_2 := blk_frozen BK308.out 2
      have hfz12_3 := blk_frozen BK308.out 3
      go_upto_if 26 with (fail)
      go_cut [9] (fun v9 wc => ∃ (kq : Nat) (x9_10 : ByteArray), v9 = .string x9_10 ∧ Aside0 (shibbolethlaw19_RfcSplits.j1 kq t298 t299 t300 t301 t302 t303 x9_10 t304 t305 t306 t307 = some r) ∧ Aside0 (kq ≤ kj3) ∧ Aside0 (wc.heap[gb308]? = some (.cells #[.bool t304, .bool t305, .bool t306, .bool t307] 28 (0, 0))) ∧ Aside0 (Below w.heap.size w wc))
      case first =>
        have H := HC11.out
        clear HC11
        by_cases c13 : t305 = true
        · subst c13
          have H1 : (if x9_3.size + 2 ≤ 9223372036854775807 then (if (x9_3 ++ (⟨#[47, 47]⟩ : ByteArray)).size + t300.size ≤ 9223372036854775807 then (shibbolethlaw19_RfcSplits.j1 kj3 t298 t299 t300 t301 t302 t303 ((x9_3 ++ (⟨#[47, 47]⟩ : ByteArray)) ++ t300) t304 true t306 t307) else (none)) else (none)) = some r := by rw [if_pos rfl] at H; exact H
          clear H
          have H := H1
          clear H1
          by_cases c14 : x9_3.size + 2 ≤ 9223372036854775807
          · rw [if_pos c14] at H
            have c14b0 := eq_true c14
            have c14b1 : decide (x9_3.size + 2 ≤ 9223372036854775807) = true := decide_eq_true c14
            try have c14b2 : (9223372036854775807 < x9_3.size + 2) = False := eq_false (Nat.not_lt.2 c14)
            obtain ⟨ji15, hji15⟩ : ∃ j_ : ByteArray, (x9_3 ++ (⟨#[47, 47]⟩ : ByteArray)) = j_ := ⟨_, rfl⟩
            replace H : (if (ji15).size + t300.size ≤ 9223372036854775807 then (shibbolethlaw19_RfcSplits.j1 kj3 t298 t299 t300 t301 t302 t303 ((ji15) ++ t300) t304 true t306 t307) else (none)) = some r := by first | (rw [hji15] at H; exact H) | (simp only [hji15] at H ⊢; exact H) | exact H
            by_cases c16 : (ji15).size + t300.size ≤ 9223372036854775807
            · rw [if_pos c16] at H
              have c16b0 := eq_true c16
              have c16b1 : decide ((ji15).size + t300.size ≤ 9223372036854775807) = true := decide_eq_true c16
              try have c16b2 : (9223372036854775807 < (ji15).size + t300.size) = False := eq_false (Nat.not_lt.2 c16)
              obtain ⟨ji17, hji17⟩ : ∃ j_ : ByteArray, ((ji15) ++ t300) = j_ := ⟨_, rfl⟩
              replace H : (shibbolethlaw19_RfcSplits.j1 kj3 t298 t299 t300 t301 t302 t303 ji17 t304 true t306 t307) = some r := by first | (rw [hji17] at H; exact H) | (simp only [hji17] at H ⊢; exact H) | exact H
              have H' := Aside0.mk H
              clear H
              go_wp2
              go_meet
              case rel => exact ⟨_, (ji17), (by first | rfl | (simp; done) | (simp only [← hji17] <;> (first | rfl | simp)) | (simp [*]; done) | (simp [ne_nil_isEmpty, of_eq_true c36b9]; done)), H', ⟨by have := HJ3.out; first | omega | exact Nat.le_refl _⟩, ⟨by (with_reducible repeat (first | refine blk_drewN ?_ _ | refine blk_drew ?_ | refine blk_alloc ?_ _)); exact BK308.out⟩, ⟨by repeat (first | (with_reducible first | exact HB.out | apply below_alloc | apply pw_below_drewN | apply below_drew1 | refine below_set ?_ GE308.out) | exact HB.out)⟩⟩
            · rw [if_neg c16] at H
              exact absurd H (by simp)
          · rw [if_neg c14] at H
            exact absurd H (by simp)
        · replace c13 := Bool.eq_false_iff.mpr c13
          subst c13
          have H1 : (shibbolethlaw19_RfcSplits.j1 kj3 t298 t299 t300 t301 t302 t303 x9_3 t304 false t306 t307) = some r := by rw [if_neg (show ¬ (false = true) by decide)] at H; exact H
          clear H
          have H := H1
          clear H1
          have H' := Aside0.mk H
          clear H
          go_wp2
          go_meet
          case rel => exact ⟨_, (x9_3), (by first | rfl | (simp; done) | (simp [*]; done) | (simp [ne_nil_isEmpty, of_eq_true c36b9]; done)), H', ⟨by have := HJ3.out; first | omega | exact Nat.le_refl _⟩, ⟨by (with_reducible repeat (first | refine blk_drewN ?_ _ | refine blk_drew ?_ | refine blk_alloc ?_ _)); exact BK308.out⟩, ⟨by repeat (first | (with_reducible first | exact HB.out | apply below_alloc | apply pw_below_drewN | apply below_drew1 | refine below_set ?_ GE308.out) | exact HB.out)⟩⟩
      case rest =>
        clear HC11
        try clear c1
        try clear p2
        try clear c5
        try clear c8
        try clear c9
        try clear c9b0
        try clear c9b1
        try clear c9b2
        try clear c10
        try clear c13
        try clear c14
        try clear c14b0
        try clear c14b1
        try clear c14b2
        try clear c16
        try clear c16b0
        try clear c16b1
        try clear c16b2
        try clear hcz12_0
        try clear hcz12_1
        try clear hcz12_2
        try clear hcz12_3
        try clear hcz7_0
        try clear hcz7_1
        try clear hcz7_2
        try clear hcz7_3
        try clear hfz12_0
        try clear hfz12_1
        try clear hfz12_2
        try clear hfz12_3
        try clear hfz7_0
        try clear hfz7_1
        try clear hfz7_2
        try clear hfz7_3
        try clear p2
        obtain ⟨kq, x9_10, rfl, HA, HJ10, BK308, HB⟩ := hcut
        cases kq with
        | zero => exact absurd HA.out (by simp [shibbolethlaw19_RfcSplits.j1])
        | succ kj10 =>
          have H := HA.out
          clear HA
          simp only [shibbolethlaw19_RfcSplits.j1] at H
          by_cases c18 : x9_10.size + t301.size ≤ 9223372036854775807
          · rw [if_pos c18] at H
            have c18b0 := eq_true c18
            have c18b1 : decide (x9_10.size + t301.size ≤ 9223372036854775807) = true := decide_eq_true c18
            try have c18b2 : (9223372036854775807 < x9_10.size + t301.size) = False := eq_false (Nat.not_lt.2 c18)
            obtain ⟨ji19, hji19⟩ : ∃ j_ : ByteArray, (x9_10 ++ t301) = j_ := ⟨_, rfl⟩
            replace H : (if t306 = true then (if (ji19).size + 1 ≤ 9223372036854775807 then (if ((ji19) ++ (⟨#[63]⟩ : ByteArray)).size + t302.size ≤ 9223372036854775807 then (shibbolethlaw19_RfcSplits.j2 kj10 t298 t299 t300 t301 t302 t303 (((ji19) ++ (⟨#[63]⟩ : ByteArray)) ++ t302) t304 t305 t306 t307) else (none)) else (none)) else (shibbolethlaw19_RfcSplits.j2 kj10 t298 t299 t300 t301 t302 t303 ji19 t304 t305 t306 t307)) = some r := by first | (rw [hji19] at H; exact H) | (simp only [hji19] at H ⊢; exact H) | exact H
            have HC20 := Aside0.mk H
            clear H
            have hcz21_0 : wc.cell? ⟨gb308, 0, none⟩ = some (.bool t304) := (blk_cell BK308.out 0).trans rfl
            have hcz21_1 : wc.cell? ⟨gb308, 1, none⟩ = some (.bool t305) := (blk_cell BK308.out 1).trans rfl
            have hcz21_2 : wc.cell? ⟨gb308, 2, none⟩ = some (.bool t306) := (blk_cell BK308.out 2).trans rfl
            have hcz21_3 : wc.cell? ⟨gb308, 3, none⟩ = some (.bool t307) := (blk_cell BK308.out 3).trans rfl
            have hfz21_0 := blk_frozen BK308.out 0
            have hfz21_1 := blk_frozen BK308.out 1
            have hfz21_2 := blk_frozen BK308.out 2
            have hfz21_3 := blk_frozen BK308.out 3
            go_upto_if 35 with (fail)
            go_cut [9] (fun v9 wc => ∃ (kq : Nat) (x9_19 : ByteArray), v9 = .string x9_19 ∧ Aside0 (shibbolethlaw19_RfcSplits.j2 kq t298 t299 t300 t301 t302 t303 x9_19 t304 t305 t306 t307 = some r) ∧ Aside0 (kq ≤ kj10) ∧ Aside0 (wc.heap[gb308]? = some (.cells #[.bool t304, .bool t305, .bool t306, .bool t307] 28 (0, 0))) ∧ Aside0 (Below w.heap.size w wc))
            case first =>
              have H := HC20.out
              clear HC20
              by_cases c22 : t306 = true
              · subst c22
                have H1 : (if (ji19).size + 1 ≤ 9223372036854775807 then (if ((ji19) ++ (⟨#[63]⟩ : ByteArray)).size + t302.size ≤ 9223372036854775807 then (shibbolethlaw19_RfcSplits.j2 kj10 t298 t299 t300 t301 t302 t303 (((ji19) ++ (⟨#[63]⟩ : ByteArray)) ++ t302) t304 t305 true t307) else (none)) else (none)) = some r := by rw [if_pos rfl] at H; exact H
                clear H
                have H := H1
                clear H1
                by_cases c23 : (ji19).size + 1 ≤ 9223372036854775807
                · rw [if_pos c23] at H
                  have c23b0 := eq_true c23
                  have c23b1 : decide ((ji19).size + 1 ≤ 9223372036854775807) = true := decide_eq_true c23
                  try have c23b2 : (9223372036854775807 < (ji19).size + 1) = False := eq_false (Nat.not_lt.2 c23)
                  obtain ⟨ji24, hji24⟩ : ∃ j_ : ByteArray, ((ji19) ++ (⟨#[63]⟩ : ByteArray)) = j_ := ⟨_, rfl⟩
                  replace H : (if (ji24).size + t302.size ≤ 9223372036854775807 then (shibbolethlaw19_RfcSplits.j2 kj10 t298 t299 t300 t301 t302 t303 ((ji24) ++ t302) t304 t305 true t307) else (none)) = some r := by first | (rw [hji24] at H; exact H) | (simp only [hji24] at H ⊢; exact H) | exact H
                  by_cases c25 : (ji24).size + t302.size ≤ 9223372036854775807
                  · rw [if_pos c25] at H
                    have c25b0 := eq_true c25
                    have c25b1 : decide ((ji24).size + t302.size ≤ 9223372036854775807) = true := decide_eq_true c25
                    try have c25b2 : (9223372036854775807 < (ji24).size + t302.size) = False := eq_false (Nat.not_lt.2 c25)
                    obtain ⟨ji26, hji26⟩ : ∃ j_ : ByteArray, ((ji24) ++ t302) = j_ := ⟨_, rfl⟩
                    replace H : (shibbolethlaw19_RfcSplits.j2 kj10 t298 t299 t300 t301 t302 t303 ji26 t304 t305 true t307) = some r := by first | (rw [hji26] at H; exact H) | (simp only [hji26] at H ⊢; exact H) | exact H
                    have H' := Aside0.mk H
                    clear H
                    go_wp2
                    go_meet
                    case rel => exact ⟨_, (ji26), (by first | rfl | (simp; done) | (simp only [← hji26] <;> (first | rfl | simp)) | (simp [*]; done) | (simp [ne_nil_isEmpty, of_eq_true c36b9]; done)), H', ⟨by have := HJ3.out; have := HJ10.out; first | omega | exact Nat.le_refl _⟩, ⟨by (with_reducible repeat (first | refine blk_drewN ?_ _ | refine blk_drew ?_ | refine blk_alloc ?_ _)); exact BK308.out⟩, ⟨by repeat (first | (with_reducible first | exact HB.out | apply below_alloc | apply pw_below_drewN | apply below_drew1 | refine below_set ?_ GE308.out) | exact HB.out)⟩⟩
                  · rw [if_neg c25] at H
                    exact absurd H (by simp)
                · rw [if_neg c23] at H
                  exact absurd H (by simp)
              · replace c22 := Bool.eq_false_iff.mpr c22
                subst c22
                have H1 : (shibbolethlaw19_RfcSplits.j2 kj10 t298 t299 t300 t301 t302 t303 ji19 t304 t305 false t307) = some r := by rw [if_neg (show ¬ (false = true) by decide)] at H; exact H
                clear H
                have H := H1
                clear H1
                have H' := Aside0.mk H
                clear H
                go_wp2
                go_meet
                case rel => exact ⟨_, (ji19), (by first | rfl | (simp; done) | (simp only [← hji19] <;> (first | rfl | simp)) | (simp [*]; done) | (simp [ne_nil_isEmpty, of_eq_true c36b9]; done)), H', ⟨by have := HJ3.out; have := HJ10.out; first | omega | exact Nat.le_refl _⟩, ⟨by (with_reducible repeat (first | refine blk_drewN ?_ _ | refine blk_drew ?_ | refine blk_alloc ?_ _)); exact BK308.out⟩, ⟨by repeat (first | (with_reducible first | exact HB.out | apply below_alloc | apply pw_below_drewN | apply below_drew1 | refine below_set ?_ GE308.out) | exact HB.out)⟩⟩
            case rest =>
              clear HC20
              try clear c1
              try clear c2
              try clear p2
              try clear c5
              try clear c8
              try clear c9
              try clear c9b0
              try clear c9b1
              try clear c9b2
              try clear c10
              try clear c13
              try clear c14
              try clear c14b0
              try clear c14b1
              try clear c14b2
              try clear c16
              try clear c16b0
              try clear c16b1
              try clear c16b2
              try clear c18
              try clear c18b0
              try clear c18b1
              try clear c18b2
              try clear c22
              try clear c23
              try clear c23b0
              try clear c23b1
              try clear c23b2
              try clear c25
              try clear c25b0
              try clear c25b1
              try clear c25b2
              try clear hcz12_0
              try clear hcz12_1
              try clear hcz12_2
              try clear hcz12_3
              try clear hcz21_0
              try clear hcz21_1
              try clear hcz21_2
              try clear hcz21_3
              try clear hcz7_0
              try clear hcz7_1
              try clear hcz7_2
              try clear hcz7_3
              try clear hfz12_0
              try clear hfz12_1
              try clear hfz12_2
              try clear hfz12_3
              try clear hfz21_0
              try clear hfz21_1
              try clear hfz21_2
              try clear hfz21_3
              try clear hfz7_0
              try clear hfz7_1
              try clear hfz7_2
              try clear hfz7_3
              try clear p2
              obtain ⟨kq, x9_19, rfl, HA, HJ19, BK308, HB⟩ := hcut
              cases kq with
              | zero => exact absurd HA.out (by simp [shibbolethlaw19_RfcSplits.j2])
              | succ kj19 =>
                have H := HA.out
                clear HA
                simp only [shibbolethlaw19_RfcSplits.j2] at H
                have HC27 := Aside0.mk H
                clear H
                have hcz28_0 : wc.cell? ⟨gb308, 0, none⟩ = some (.bool t304) := (blk_cell BK308.out 0).trans rfl
                have hcz28_1 : wc.cell? ⟨gb308, 1, none⟩ = some (.bool t305) := (blk_cell BK308.out 1).trans rfl
                have hcz28_2 : wc.cell? ⟨gb308, 2, none⟩ = some (.bool t306) := (blk_cell BK308.out 2).trans rfl
                have hcz28_3 : wc.cell? ⟨gb308, 3, none⟩ = some (.bool t307) := (blk_cell BK308.out 3).trans rfl
                have hfz28_0 := blk_frozen BK308.out 0
                have hfz28_1 := blk_frozen BK308.out 1
                have hfz28_2 := blk_frozen BK308.out 2
                have hfz28_3 := blk_frozen BK308.out 3
                go_upto_if 41 with (fail)
                go_cut [9] (fun v9 wc => ∃ (kq : Nat) (x9_26 : ByteArray), v9 = .string x9_26 ∧ Aside0 (shibbolethlaw19_RfcSplits.j3 kq t298 t299 t300 t301 t302 t303 x9_26 t304 t305 t306 t307 = some r) ∧ Aside0 (kq ≤ kj19) ∧ Aside0 (wc.heap[gb308]? = some (.cells #[.bool t304, .bool t305, .bool t306, .bool t307] 28 (0, 0))) ∧ Aside0 (Below w.heap.size w wc))
                case first =>
                  have H := HC27.out
                  clear HC27
                  by_cases c29 : t307 = true
                  · subst c29
                    have H1 : (if x9_19.size + 1 ≤ 9223372036854775807 then (if (x9_19 ++ (⟨#[35]⟩ : ByteArray)).size + t303.size ≤ 9223372036854775807 then (shibbolethlaw19_RfcSplits.j3 kj19 t298 t299 t300 t301 t302 t303 ((x9_19 ++ (⟨#[35]⟩ : ByteArray)) ++ t303) t304 t305 t306 true) else (none)) else (none)) = some r := by rw [if_pos rfl] at H; exact H
                    clear H
                    have H := H1
                    clear H1
                    by_cases c30 : x9_19.size + 1 ≤ 9223372036854775807
                    · rw [if_pos c30] at H
                      have c30b0 := eq_true c30
                      have c30b1 : decide (x9_19.size + 1 ≤ 9223372036854775807) = true := decide_eq_true c30
                      try have c30b2 : (9223372036854775807 < x9_19.size + 1) = False := eq_false (Nat.not_lt.2 c30)
                      obtain ⟨ji31, hji31⟩ : ∃ j_ : ByteArray, (x9_19 ++ (⟨#[35]⟩ : ByteArray)) = j_ := ⟨_, rfl⟩
                      replace H : (if (ji31).size + t303.size ≤ 9223372036854775807 then (shibbolethlaw19_RfcSplits.j3 kj19 t298 t299 t300 t301 t302 t303 ((ji31) ++ t303) t304 t305 t306 true) else (none)) = some r := by first | (rw [hji31] at H; exact H) | (simp only [hji31] at H ⊢; exact H) | exact H
                      by_cases c32 : (ji31).size + t303.size ≤ 9223372036854775807
                      · rw [if_pos c32] at H
                        have c32b0 := eq_true c32
                        have c32b1 : decide ((ji31).size + t303.size ≤ 9223372036854775807) = true := decide_eq_true c32
                        try have c32b2 : (9223372036854775807 < (ji31).size + t303.size) = False := eq_false (Nat.not_lt.2 c32)
                        obtain ⟨ji33, hji33⟩ : ∃ j_ : ByteArray, ((ji31) ++ t303) = j_ := ⟨_, rfl⟩
                        replace H : (shibbolethlaw19_RfcSplits.j3 kj19 t298 t299 t300 t301 t302 t303 ji33 t304 t305 t306 true) = some r := by first | (rw [hji33] at H; exact H) | (simp only [hji33] at H ⊢; exact H) | exact H
                        have H' := Aside0.mk H
                        clear H
                        go_wp2
                        go_meet
                        case rel => exact ⟨_, (ji33), (by first | rfl | (simp; done) | (simp only [← hji33] <;> (first | rfl | simp)) | (simp [*]; done) | (simp [ne_nil_isEmpty, of_eq_true c36b9]; done)), H', ⟨by have := HJ3.out; have := HJ10.out; have := HJ19.out; first | omega | exact Nat.le_refl _⟩, ⟨by (with_reducible repeat (first | refine blk_drewN ?_ _ | refine blk_drew ?_ | refine blk_alloc ?_ _)); exact BK308.out⟩, ⟨by repeat (first | (with_reducible first | exact HB.out | apply below_alloc | apply pw_below_drewN | apply below_drew1 | refine below_set ?_ GE308.out) | exact HB.out)⟩⟩
                      · rw [if_neg c32] at H
                        exact absurd H (by simp)
                    · rw [if_neg c30] at H
                      exact absurd H (by simp)
                  · replace c29 := Bool.eq_false_iff.mpr c29
                    subst c29
                    have H1 : (shibbolethlaw19_RfcSplits.j3 kj19 t298 t299 t300 t301 t302 t303 x9_19 t304 t305 t306 false) = some r := by rw [if_neg (show ¬ (false = true) by decide)] at H; exact H
                    clear H
                    have H := H1
                    clear H1
                    have H' := Aside0.mk H
                    clear H
                    go_wp2
                    go_meet
                    case rel => exact ⟨_, (x9_19), (by first | rfl | (simp; done) | (simp [*]; done) | (simp [ne_nil_isEmpty, of_eq_true c36b9]; done)), H', ⟨by have := HJ3.out; have := HJ10.out; have := HJ19.out; first | omega | exact Nat.le_refl _⟩, ⟨by (with_reducible repeat (first | refine blk_drewN ?_ _ | refine blk_drew ?_ | refine blk_alloc ?_ _)); exact BK308.out⟩, ⟨by repeat (first | (with_reducible first | exact HB.out | apply below_alloc | apply pw_below_drewN | apply below_drew1 | refine below_set ?_ GE308.out) | exact HB.out)⟩⟩
                case rest =>
                  clear HC27
                  try clear c1
                  try clear c2
                  try clear p2
                  try clear c3
                  try clear c5
                  try clear c8
                  try clear c9
                  try clear c9b0
                  try clear c9b1
                  try clear c9b2
                  try clear c10
                  try clear c13
                  try clear c14
                  try clear c14b0
                  try clear c14b1
                  try clear c14b2
                  try clear c16
                  try clear c16b0
                  try clear c16b1
                  try clear c16b2
                  try clear c18
                  try clear c18b0
                  try clear c18b1
                  try clear c18b2
                  try clear c22
                  try clear c23
                  try clear c23b0
                  try clear c23b1
                  try clear c23b2
                  try clear c25
                  try clear c25b0
                  try clear c25b1
                  try clear c25b2
                  try clear c29
                  try clear c30
                  try clear c30b0
                  try clear c30b1
                  try clear c30b2
                  try clear c32
                  try clear c32b0
                  try clear c32b1
                  try clear c32b2
                  try clear hcz12_0
                  try clear hcz12_1
                  try clear hcz12_2
                  try clear hcz12_3
                  try clear hcz21_0
                  try clear hcz21_1
                  try clear hcz21_2
                  try clear hcz21_3
                  try clear hcz28_0
                  try clear hcz28_1
                  try clear hcz28_2
                  try clear hcz28_3
                  try clear hcz7_0
                  try clear hcz7_1
                  try clear hcz7_2
                  try clear hcz7_3
                  try clear hfz12_0
                  try clear hfz12_1
                  try clear hfz12_2
                  try clear hfz12_3
                  try clear hfz21_0
                  try clear hfz21_1
                  try clear hfz21_2
                  try clear hfz21_3
                  try clear hfz28_0
                  try clear hfz28_1
                  try clear hfz28_2
                  try clear hfz28_3
                  try clear hfz7_0
                  try clear hfz7_1
                  try clear hfz7_2
                  try clear hfz7_3
                  try clear p2
                  obtain ⟨kq, x9_26, rfl, HA, HJ26, BK308, HB⟩ := hcut
                  cases kq with
                  | zero => exact absurd HA.out (by simp [shibbolethlaw19_RfcSplits.j3])
                  | succ kj26 =>
                    have H := HA.out
                    clear HA
                    simp only [shibbolethlaw19_RfcSplits.j3] at H
                    have HC34 := Aside0.mk H
                    clear H
                    go_upto_region 13 with (fail)
                    go_cut [82] (fun v82 wc => ∃ (kq : Nat) (x82_33 : Bool), v82 = .bool x82_33 ∧ Aside0 (shibbolethlaw19_RfcSplits.j4 kq t299 t300 t301 t302 x82_33 t304 t305 t306 t307 = some r) ∧ Aside0 (kq ≤ kj26) ∧ Aside0 (wc.heap[gb308]? = some (.cells #[.bool t304, .bool t305, .bool t306, .bool t307] 28 (0, 0))) ∧ Aside0 (Below w.heap.size w wc))
                    case first =>
                      have H := HC34.out
                      clear HC34
                      by_cases c35 : x9_26.toList = t298.toList
                      · rw [if_pos c35] at H
                        have c35b0 : (x9_26.toList == t298.toList) = true := beq_iff_eq.mpr c35
                        have c35b1 : (x9_26.toList != t298.toList) = false := bne_eq_false_iff_eq.mpr c35
                        clear c35
                        (first | rw [c35b0] | (simp only [i64_w, i32_w]; rw [c35b0]) | skip)
                        by_cases c36 : (t304 != (t299.toList != ([] : List UInt8))) = true
                        · rw [if_pos c36] at H
                          have c36b0 : (t304 != (t299.toList != ([] : List UInt8))) = true := c36
                          (try (have c36b1 : decide (t304 = (t299.toList != ([] : List UInt8))) = false := by simpa using c36))
                          (try (have c36b9 : (t304 = !t299.toList.isEmpty) = False := by first | exact eq_true ((bne_eq_false_iff_eq.1 (Bool.eq_false_iff.2 c36)).trans (ne_nil_isEmpty _)) | (have h_ := c36; rw [ne_nil_isEmpty] at h_; simpa using h_)))
                          (try (have c36b2 : (t304 == (t299.toList != ([] : List UInt8))) = false := by simpa using c36))
                          (try (have c36b3 : ¬ (t304 = (t299.toList != ([] : List UInt8))) := by simpa using c36))
                          clear c36
                          have H' := Aside0.mk H
                          clear H
                          have hcz37_0 : wc.cell? ⟨gb308, 0, none⟩ = some (.bool t304) := (blk_cell BK308.out 0).trans rfl
                          have hcz37_1 : wc.cell? ⟨gb308, 1, none⟩ = some (.bool t305) := (blk_cell BK308.out 1).trans rfl
                          have hcz37_2 : wc.cell? ⟨gb308, 2, none⟩ = some (.bool t306) := (blk_cell BK308.out 2).trans rfl
                          have hcz37_3 : wc.cell? ⟨gb308, 3, none⟩ = some (.bool t307) := (blk_cell BK308.out 3).trans rfl
                          have hfz37_0 := blk_frozen BK308.out 0
                          have hfz37_1 := blk_frozen BK308.out 1
                          have hfz37_2 := blk_frozen BK308.out 2
                          have hfz37_3 := blk_frozen BK308.out 3
                          go_wp2
                          go_meet
                          case rel => exact ⟨_, (true), (by first | rfl | (simp; done) | (simp [*]; done) | (simp [ne_nil_isEmpty, of_eq_true c36b9]; done)), H', ⟨by have := HJ3.out; have := HJ10.out; have := HJ19.out; have := HJ26.out; first | omega | exact Nat.le_refl _⟩, ⟨by (with_reducible repeat (first | refine blk_drewN ?_ _ | refine blk_drew ?_ | refine blk_alloc ?_ _)); exact BK308.out⟩, ⟨by repeat (first | (with_reducible first | exact HB.out | apply below_alloc | apply pw_below_drewN | apply below_drew1 | refine below_set ?_ GE308.out) | exact HB.out)⟩⟩
                        · rw [if_neg c36] at H
                          have c36b0 : (t304 != (t299.toList != ([] : List UInt8))) = false := by simpa using c36
                          (try (have c36b1 : decide (t304 = (t299.toList != ([] : List UInt8))) = true := by simpa using c36))
                          (try (have c36b9 : (t304 = !t299.toList.isEmpty) = True := by first | exact eq_true ((bne_eq_false_iff_eq.1 (Bool.eq_false_iff.2 c36)).trans (ne_nil_isEmpty _)) | (have h_ := c36; rw [ne_nil_isEmpty] at h_; simpa using h_)))
                          (try (have c36b2 : (t304 == (t299.toList != ([] : List UInt8))) = true := by simpa using c36))
                          clear c36
                          by_cases c38 : t305 = true
                          · subst c38
                            have H1 : (if t306 = true then (if t307 = true then (shibbolethlaw19_RfcSplits.j4 kj26 t299 t300 t301 t302 false t304 true t306 t307) else (shibbolethlaw19_RfcSplits.j4 kj26 t299 t300 t301 t302 (t303.toList != ([] : List UInt8)) t304 true t306 t307)) else (if t302.toList = ([] : List UInt8) then (if t307 = true then (shibbolethlaw19_RfcSplits.j4 kj26 t299 t300 t301 t302 false t304 true t306 t307) else (shibbolethlaw19_RfcSplits.j4 kj26 t299 t300 t301 t302 (t303.toList != ([] : List UInt8)) t304 true t306 t307)) else (shibbolethlaw19_RfcSplits.j4 kj26 t299 t300 t301 t302 true t304 true t306 t307))) = some r := by rw [if_pos rfl] at H; exact H
                            clear H
                            have H := H1
                            clear H1
                            by_cases c39 : t306 = true
                            · subst c39
                              have H1 : (if t307 = true then (shibbolethlaw19_RfcSplits.j4 kj26 t299 t300 t301 t302 false t304 true true t307) else (shibbolethlaw19_RfcSplits.j4 kj26 t299 t300 t301 t302 (t303.toList != ([] : List UInt8)) t304 true true t307)) = some r := by rw [if_pos rfl] at H; exact H
                              clear H
                              have H := H1
                              clear H1
                              by_cases c40 : t307 = true
                              · subst c40
                                have H1 : (shibbolethlaw19_RfcSplits.j4 kj26 t299 t300 t301 t302 false t304 true true true) = some r := by rw [if_pos rfl] at H; exact H
                                clear H
                                have H := H1
                                clear H1
                                have H' := Aside0.mk H
                                clear H
                                have hcz41_0 : wc.cell? ⟨gb308, 0, none⟩ = some (.bool t304) := (blk_cell BK308.out 0).trans rfl
                                have hcz41_1 : wc.cell? ⟨gb308, 1, none⟩ = some (.bool true) := (blk_cell BK308.out 1).trans rfl
                                have hcz41_2 : wc.cell? ⟨gb308, 2, none⟩ = some (.bool true) := (blk_cell BK308.out 2).trans rfl
                                have hcz41_3 : wc.cell? ⟨gb308, 3, none⟩ = some (.bool true) := (blk_cell BK308.out 3).trans rfl
                                have hfz41_0 := blk_frozen BK308.out 0
                                have hfz41_1 := blk_frozen BK308.out 1
                                have hfz41_2 := blk_frozen BK308.out 2
                                have hfz41_3 := blk_frozen BK308.out 3
                                go_wp2
                                go_meet
                                case rel => exact ⟨_, (false), (by first | rfl | (simp; done) | (simp [*]; done) | (simp [ne_nil_isEmpty, of_eq_true c36b9]; done)), H', ⟨by have := HJ3.out; have := HJ10.out; have := HJ19.out; have := HJ26.out; first | omega | exact Nat.le_refl _⟩, ⟨by (with_reducible repeat (first | refine blk_drewN ?_ _ | refine blk_drew ?_ | refine blk_alloc ?_ _)); exact BK308.out⟩, ⟨by repeat (first | (with_reducible first | exact HB.out | apply below_alloc | apply pw_below_drewN | apply below_drew1 | refine below_set ?_ GE308.out) | exact HB.out)⟩⟩
                              · replace c40 := Bool.eq_false_iff.mpr c40
                                subst c40
                                have H1 : (shibbolethlaw19_RfcSplits.j4 kj26 t299 t300 t301 t302 (t303.toList != ([] : List UInt8)) t304 true true false) = some r := by rw [if_neg (show ¬ (false = true) by decide)] at H; exact H
                                clear H
                                have H := H1
                                clear H1
                                have H' := Aside0.mk H
                                clear H
                                have hcz42_0 : wc.cell? ⟨gb308, 0, none⟩ = some (.bool t304) := (blk_cell BK308.out 0).trans rfl
                                have hcz42_1 : wc.cell? ⟨gb308, 1, none⟩ = some (.bool true) := (blk_cell BK308.out 1).trans rfl
                                have hcz42_2 : wc.cell? ⟨gb308, 2, none⟩ = some (.bool true) := (blk_cell BK308.out 2).trans rfl
                                have hcz42_3 : wc.cell? ⟨gb308, 3, none⟩ = some (.bool false) := (blk_cell BK308.out 3).trans rfl
                                have hfz42_0 := blk_frozen BK308.out 0
                                have hfz42_1 := blk_frozen BK308.out 1
                                have hfz42_2 := blk_frozen BK308.out 2
                                have hfz42_3 := blk_frozen BK308.out 3
                                go_wp2
                                go_meet
                                case rel => exact ⟨_, ((t303.toList != ([] : List UInt8))), (by first | rfl | (simp; done) | (simp [*]; done) | (simp [ne_nil_isEmpty, of_eq_true c36b9]; done)), H', ⟨by have := HJ3.out; have := HJ10.out; have := HJ19.out; have := HJ26.out; first | omega | exact Nat.le_refl _⟩, ⟨by (with_reducible repeat (first | refine blk_drewN ?_ _ | refine blk_drew ?_ | refine blk_alloc ?_ _)); exact BK308.out⟩, ⟨by repeat (first | (with_reducible first | exact HB.out | apply below_alloc | apply pw_below_drewN | apply below_drew1 | refine below_set ?_ GE308.out) | exact HB.out)⟩⟩
                            · replace c39 := Bool.eq_false_iff.mpr c39
                              subst c39
                              have H1 : (if t302.toList = ([] : List UInt8) then (if t307 = true then (shibbolethlaw19_RfcSplits.j4 kj26 t299 t300 t301 t302 false t304 true false t307) else (shibbolethlaw19_RfcSplits.j4 kj26 t299 t300 t301 t302 (t303.toList != ([] : List UInt8)) t304 true false t307)) else (shibbolethlaw19_RfcSplits.j4 kj26 t299 t300 t301 t302 true t304 true false t307)) = some r := by rw [if_neg (show ¬ (false = true) by decide)] at H; exact H
                              clear H
                              have H := H1
                              clear H1
                              by_cases c43 : t302.toList = ([] : List UInt8)
                              · rw [if_pos c43] at H
                                have c43b0 : (t302.toList == ([] : List UInt8)) = true := beq_iff_eq.mpr c43
                                have c43b1 : (t302.toList != ([] : List UInt8)) = false := bne_eq_false_iff_eq.mpr c43
                                clear c43
                                by_cases c44 : t307 = true
                                · subst c44
                                  have H1 : (shibbolethlaw19_RfcSplits.j4 kj26 t299 t300 t301 t302 false t304 true false true) = some r := by rw [if_pos rfl] at H; exact H
                                  clear H
                                  have H := H1
                                  clear H1
                                  have H' := Aside0.mk H
                                  clear H
                                  have hcz45_0 : wc.cell? ⟨gb308, 0, none⟩ = some (.bool t304) := (blk_cell BK308.out 0).trans rfl
                                  have hcz45_1 : wc.cell? ⟨gb308, 1, none⟩ = some (.bool true) := (blk_cell BK308.out 1).trans rfl
                                  have hcz45_2 : wc.cell? ⟨gb308, 2, none⟩ = some (.bool false) := (blk_cell BK308.out 2).trans rfl
                                  have hcz45_3 : wc.cell? ⟨gb308, 3, none⟩ = some (.bool true) := (blk_cell BK308.out 3).trans rfl
                                  have hfz45_0 := blk_frozen BK308.out 0
                                  have hfz45_1 := blk_frozen BK308.out 1
                                  have hfz45_2 := blk_frozen BK308.out 2
                                  have hfz45_3 := blk_frozen BK308.out 3
                                  go_wp2
                                  go_meet
                                  case rel => exact ⟨_, (false), (by first | rfl | (simp; done) | (simp [*]; done) | (simp [ne_nil_isEmpty, of_eq_true c36b9]; done)), H', ⟨by have := HJ3.out; have := HJ10.out; have := HJ19.out; have := HJ26.out; first | omega | exact Nat.le_refl _⟩, ⟨by (with_reducible repeat (first | refine blk_drewN ?_ _ | refine blk_drew ?_ | refine blk_alloc ?_ _)); exact BK308.out⟩, ⟨by repeat (first | (with_reducible first | exact HB.out | apply below_alloc | apply pw_below_drewN | apply below_drew1 | refine below_set ?_ GE308.out) | exact HB.out)⟩⟩
                                · replace c44 := Bool.eq_false_iff.mpr c44
                                  subst c44
                                  have H1 : (shibbolethlaw19_RfcSplits.j4 kj26 t299 t300 t301 t302 (t303.toList != ([] : List UInt8)) t304 true false false) = some r := by rw [if_neg (show ¬ (false = true) by decide)] at H; exact H
                                  clear H
                                  have H := H1
                                  clear H1
                                  have H' := Aside0.mk H
                                  clear H
                                  have hcz46_0 : wc.cell? ⟨gb308, 0, none⟩ = some (.bool t304) := (blk_cell BK308.out 0).trans rfl
                                  have hcz46_1 : wc.cell? ⟨gb308, 1, none⟩ = some (.bool true) := (blk_cell BK308.out 1).trans rfl
                                  have hcz46_2 : wc.cell? ⟨gb308, 2, none⟩ = some (.bool false) := (blk_cell BK308.out 2).trans rfl
                                  have hcz46_3 : wc.cell? ⟨gb308, 3, none⟩ = some (.bool false) := (blk_cell BK308.out 3).trans rfl
                                  have hfz46_0 := blk_frozen BK308.out 0
                                  have hfz46_1 := blk_frozen BK308.out 1
                                  have hfz46_2 := blk_frozen BK308.out 2
                                  have hfz46_3 := blk_frozen BK308.out 3
                                  go_wp2
                                  go_meet
                                  case rel => exact ⟨_, ((t303.toList != ([] : List UInt8))), (by first | rfl | (simp; done) | (simp [*]; done) | (simp [ne_nil_isEmpty, of_eq_true c36b9]; done)), H', ⟨by have := HJ3.out; have := HJ10.out; have := HJ19.out; have := HJ26.out; first | omega | exact Nat.le_refl _⟩, ⟨by (with_reducible repeat (first | refine blk_drewN ?_ _ | refine blk_drew ?_ | refine blk_alloc ?_ _)); exact BK308.out⟩, ⟨by repeat (first | (with_reducible first | exact HB.out | apply below_alloc | apply pw_below_drewN | apply below_drew1 | refine below_set ?_ GE308.out) | exact HB.out)⟩⟩
                              · rw [if_neg c43] at H
                                have c43b0 : (t302.toList == ([] : List UInt8)) = false := beq_eq_false_iff_ne.mpr c43
                                have c43b1 : (t302.toList != ([] : List UInt8)) = true := bne_iff_ne.mpr c43
                                have H' := Aside0.mk H
                                clear H
                                have hcz47_0 : wc.cell? ⟨gb308, 0, none⟩ = some (.bool t304) := (blk_cell BK308.out 0).trans rfl
                                have hcz47_1 : wc.cell? ⟨gb308, 1, none⟩ = some (.bool true) := (blk_cell BK308.out 1).trans rfl
                                have hcz47_2 : wc.cell? ⟨gb308, 2, none⟩ = some (.bool false) := (blk_cell BK308.out 2).trans rfl
                                have hcz47_3 : wc.cell? ⟨gb308, 3, none⟩ = some (.bool t307) := (blk_cell BK308.out 3).trans rfl
                                have hfz47_0 := blk_frozen BK308.out 0
                                have hfz47_1 := blk_frozen BK308.out 1
                                have hfz47_2 := blk_frozen BK308.out 2
                                have hfz47_3 := blk_frozen BK308.out 3
                                go_wp2
                                go_meet
                                case rel => exact ⟨_, (true), (by first | rfl | (simp; done) | (simp [*]; done) | (simp [ne_nil_isEmpty, of_eq_true c36b9]; done)), H', ⟨by have := HJ3.out; have := HJ10.out; have := HJ19.out; have := HJ26.out; first | omega | exact Nat.le_refl _⟩, ⟨by (with_reducible repeat (first | refine blk_drewN ?_ _ | refine blk_drew ?_ | refine blk_alloc ?_ _)); exact BK308.out⟩, ⟨by repeat (first | (with_reducible first | exact HB.out | apply below_alloc | apply pw_below_drewN | apply below_drew1 | refine below_set ?_ GE308.out) | exact HB.out)⟩⟩
                          · replace c38 := Bool.eq_false_iff.mpr c38
                            subst c38
                            have H1 : (if t300.toList = ([] : List UInt8) then (if t306 = true then (if t307 = true then (shibbolethlaw19_RfcSplits.j4 kj26 t299 t300 t301 t302 false t304 false t306 t307) else (shibbolethlaw19_RfcSplits.j4 kj26 t299 t300 t301 t302 (t303.toList != ([] : List UInt8)) t304 false t306 t307)) else (if t302.toList = ([] : List UInt8) then (if t307 = true then (shibbolethlaw19_RfcSplits.j4 kj26 t299 t300 t301 t302 false t304 false t306 t307) else (shibbolethlaw19_RfcSplits.j4 kj26 t299 t300 t301 t302 (t303.toList != ([] : List UInt8)) t304 false t306 t307)) else (shibbolethlaw19_RfcSplits.j4 kj26 t299 t300 t301 t302 true t304 false t306 t307))) else (shibbolethlaw19_RfcSplits.j4 kj26 t299 t300 t301 t302 true t304 false t306 t307)) = some r := by rw [if_neg (show ¬ (false = true) by decide)] at H; exact H
                            clear H
                            have H := H1
                            clear H1
                            by_cases c48 : t300.toList = ([] : List UInt8)
                            · rw [if_pos c48] at H
                              have c48b0 : (t300.toList == ([] : List UInt8)) = true := beq_iff_eq.mpr c48
                              have c48b1 : (t300.toList != ([] : List UInt8)) = false := bne_eq_false_iff_eq.mpr c48
                              clear c48
                              by_cases c49 : t306 = true
                              · subst c49
                                have H1 : (if t307 = true then (shibbolethlaw19_RfcSplits.j4 kj26 t299 t300 t301 t302 false t304 false true t307) else (shibbolethlaw19_RfcSplits.j4 kj26 t299 t300 t301 t302 (t303.toList != ([] : List UInt8)) t304 false true t307)) = some r := by rw [if_pos rfl] at H; exact H
                                clear H
                                have H := H1
                                clear H1
                                by_cases c50 : t307 = true
                                · subst c50
                                  have H1 : (shibbolethlaw19_RfcSplits.j4 kj26 t299 t300 t301 t302 false t304 false true true) = some r := by rw [if_pos rfl] at H; exact H
                                  clear H
                                  have H := H1
                                  clear H1
                                  have H' := Aside0.mk H
                                  clear H
                                  have hcz51_0 : wc.cell? ⟨gb308, 0, none⟩ = some (.bool t304) := (blk_cell BK308.out 0).trans rfl
                                  have hcz51_1 : wc.cell? ⟨gb308, 1, none⟩ = some (.bool false) := (blk_cell BK308.out 1).trans rfl
                                  have hcz51_2 : wc.cell? ⟨gb308, 2, none⟩ = some (.bool true) := (blk_cell BK308.out 2).trans rfl
                                  have hcz51_3 : wc.cell? ⟨gb308, 3, none⟩ = some (.bool true) := (blk_cell BK308.out 3).trans rfl
                                  have hfz51_0 := blk_frozen BK308.out 0
                                  have hfz51_1 := blk_frozen BK308.out 1
                                  have hfz51_2 := blk_frozen BK308.out 2
                                  have hfz51_3 := blk_frozen BK308.out 3
                                  go_wp2
                                  go_meet
                                  case rel => exact ⟨_, (false), (by first | rfl | (simp; done) | (simp [*]; done) | (simp [ne_nil_isEmpty, of_eq_true c36b9]; done)), H', ⟨by have := HJ3.out; have := HJ10.out; have := HJ19.out; have := HJ26.out; first | omega | exact Nat.le_refl _⟩, ⟨by (with_reducible repeat (first | refine blk_drewN ?_ _ | refine blk_drew ?_ | refine blk_alloc ?_ _)); exact BK308.out⟩, ⟨by repeat (first | (with_reducible first | exact HB.out | apply below_alloc | apply pw_below_drewN | apply below_drew1 | refine below_set ?_ GE308.out) | exact HB.out)⟩⟩
                                · replace c50 := Bool.eq_false_iff.mpr c50
                                  subst c50
                                  have H1 : (shibbolethlaw19_RfcSplits.j4 kj26 t299 t300 t301 t302 (t303.toList != ([] : List UInt8)) t304 false true false) = some r := by rw [if_neg (show ¬ (false = true) by decide)] at H; exact H
                                  clear H
                                  have H := H1
                                  clear H1
                                  have H' := Aside0.mk H
                                  clear H
                                  have hcz52_0 : wc.cell? ⟨gb308, 0, none⟩ = some (.bool t304) := (blk_cell BK308.out 0).trans rfl
                                  have hcz52_1 : wc.cell? ⟨gb308, 1, none⟩ = some (.bool false) := (blk_cell BK308.out 1).trans rfl
                                  have hcz52_2 : wc.cell? ⟨gb308, 2, none⟩ = some (.bool true) := (blk_cell BK308.out 2).trans rfl
                                  have hcz52_3 : wc.cell? ⟨gb308, 3, none⟩ = some (.bool false) := (blk_cell BK308.out 3).trans rfl
                                  have hfz52_0 := blk_frozen BK308.out 0
                                  have hfz52_1 := blk_frozen BK308.out 1
                                  have hfz52_2 := blk_frozen BK308.out 2
                                  have hfz52_3 := blk_frozen BK308.out 3
                                  go_wp2
                                  go_meet
                                  case rel => exact ⟨_, ((t303.toList != ([] : List UInt8))), (by first | rfl | (simp; done) | (simp [*]; done) | (simp [ne_nil_isEmpty, of_eq_true c36b9]; done)), H', ⟨by have := HJ3.out; have := HJ10.out; have := HJ19.out; have := HJ26.out; first | omega | exact Nat.le_refl _⟩, ⟨by (with_reducible repeat (first | refine blk_drewN ?_ _ | refine blk_drew ?_ | refine blk_alloc ?_ _)); exact BK308.out⟩, ⟨by repeat (first | (with_reducible first | exact HB.out | apply below_alloc | apply pw_below_drewN | apply below_drew1 | refine below_set ?_ GE308.out) | exact HB.out)⟩⟩
                              · replace c49 := Bool.eq_false_iff.mpr c49
                                subst c49
                                have H1 : (if t302.toList = ([] : List UInt8) then (if t307 = true then (shibbolethlaw19_RfcSplits.j4 kj26 t299 t300 t301 t302 false t304 false false t307) else (shibbolethlaw19_RfcSplits.j4 kj26 t299 t300 t301 t302 (t303.toList != ([] : List UInt8)) t304 false false t307)) else (shibbolethlaw19_RfcSplits.j4 kj26 t299 t300 t301 t302 true t304 false false t307)) = some r := by rw [if_neg (show ¬ (false = true) by decide)] at H; exact H
                                clear H
                                have H := H1
                                clear H1
                                by_cases c53 : t302.toList = ([] : List UInt8)
                                · rw [if_pos c53] at H
                                  have c53b0 : (t302.toList == ([] : List UInt8)) = true := beq_iff_eq.mpr c53
                                  have c53b1 : (t302.toList != ([] : List UInt8)) = false := bne_eq_false_iff_eq.mpr c53
                                  clear c53
                                  by_cases c54 : t307 = true
                                  · subst c54
                                    have H1 : (shibbolethlaw19_RfcSplits.j4 kj26 t299 t300 t301 t302 false t304 false false true) = some r := by rw [if_pos rfl] at H; exact H
                                    clear H
                                    have H := H1
                                    clear H1
                                    have H' := Aside0.mk H
                                    clear H
                                    have hcz55_0 : wc.cell? ⟨gb308, 0, none⟩ = some (.bool t304) := (blk_cell BK308.out 0).trans rfl
                                    have hcz55_1 : wc.cell? ⟨gb308, 1, none⟩ = some (.bool false) := (blk_cell BK308.out 1).trans rfl
                                    have hcz55_2 : wc.cell? ⟨gb308, 2, none⟩ = some (.bool false) := (blk_cell BK308.out 2).trans rfl
                                    have hcz55_3 : wc.cell? ⟨gb308, 3, none⟩ = some (.bool true) := (blk_cell BK308.out 3).trans rfl
                                    have hfz55_0 := blk_frozen BK308.out 0
                                    have hfz55_1 := blk_frozen BK308.out 1
                                    have hfz55_2 := blk_frozen BK308.out 2
                                    have hfz55_3 := blk_frozen BK308.out 3
                                    go_wp2
                                    go_meet
                                    case rel => exact ⟨_, (false), (by first | rfl | (simp; done) | (simp [*]; done) | (simp [ne_nil_isEmpty, of_eq_true c36b9]; done)), H', ⟨by have := HJ3.out; have := HJ10.out; have := HJ19.out; have := HJ26.out; first | omega | exact Nat.le_refl _⟩, ⟨by (with_reducible repeat (first | refine blk_drewN ?_ _ | refine blk_drew ?_ | refine blk_alloc ?_ _)); exact BK308.out⟩, ⟨by repeat (first | (with_reducible first | exact HB.out | apply below_alloc | apply pw_below_drewN | apply below_drew1 | refine below_set ?_ GE308.out) | exact HB.out)⟩⟩
                                  · replace c54 := Bool.eq_false_iff.mpr c54
                                    subst c54
                                    have H1 : (shibbolethlaw19_RfcSplits.j4 kj26 t299 t300 t301 t302 (t303.toList != ([] : List UInt8)) t304 false false false) = some r := by rw [if_neg (show ¬ (false = true) by decide)] at H; exact H
                                    clear H
                                    have H := H1
                                    clear H1
                                    have H' := Aside0.mk H
                                    clear H
                                    have hcz56_0 : wc.cell? ⟨gb308, 0, none⟩ = some (.bool t304) := (blk_cell BK308.out 0).trans rfl
                                    have hcz56_1 : wc.cell? ⟨gb308, 1, none⟩ = some (.bool false) := (blk_cell BK308.out 1).trans rfl
                                    have hcz56_2 : wc.cell? ⟨gb308, 2, none⟩ = some (.bool false) := (blk_cell BK308.out 2).trans rfl
                                    have hcz56_3 : wc.cell? ⟨gb308, 3, none⟩ = some (.bool false) := (blk_cell BK308.out 3).trans rfl
                                    have hfz56_0 := blk_frozen BK308.out 0
                                    have hfz56_1 := blk_frozen BK308.out 1
                                    have hfz56_2 := blk_frozen BK308.out 2
                                    have hfz56_3 := blk_frozen BK308.out 3
                                    go_wp2
                                    go_meet
                                    case rel => exact ⟨_, ((t303.toList != ([] : List UInt8))), (by first | rfl | (simp; done) | (simp [*]; done) | (simp [ne_nil_isEmpty, of_eq_true c36b9]; done)), H', ⟨by have := HJ3.out; have := HJ10.out; have := HJ19.out; have := HJ26.out; first | omega | exact Nat.le_refl _⟩, ⟨by (with_reducible repeat (first | refine blk_drewN ?_ _ | refine blk_drew ?_ | refine blk_alloc ?_ _)); exact BK308.out⟩, ⟨by repeat (first | (with_reducible first | exact HB.out | apply below_alloc | apply pw_below_drewN | apply below_drew1 | refine below_set ?_ GE308.out) | exact HB.out)⟩⟩
                                · rw [if_neg c53] at H
                                  have c53b0 : (t302.toList == ([] : List UInt8)) = false := beq_eq_false_iff_ne.mpr c53
                                  have c53b1 : (t302.toList != ([] : List UInt8)) = true := bne_iff_ne.mpr c53
                                  have H' := Aside0.mk H
                                  clear H
                                  have hcz57_0 : wc.cell? ⟨gb308, 0, none⟩ = some (.bool t304) := (blk_cell BK308.out 0).trans rfl
                                  have hcz57_1 : wc.cell? ⟨gb308, 1, none⟩ = some (.bool false) := (blk_cell BK308.out 1).trans rfl
                                  have hcz57_2 : wc.cell? ⟨gb308, 2, none⟩ = some (.bool false) := (blk_cell BK308.out 2).trans rfl
                                  have hcz57_3 : wc.cell? ⟨gb308, 3, none⟩ = some (.bool t307) := (blk_cell BK308.out 3).trans rfl
                                  have hfz57_0 := blk_frozen BK308.out 0
                                  have hfz57_1 := blk_frozen BK308.out 1
                                  have hfz57_2 := blk_frozen BK308.out 2
                                  have hfz57_3 := blk_frozen BK308.out 3
                                  go_wp2
                                  go_meet
                                  case rel => exact ⟨_, (true), (by first | rfl | (simp; done) | (simp [*]; done) | (simp [ne_nil_isEmpty, of_eq_true c36b9]; done)), H', ⟨by have := HJ3.out; have := HJ10.out; have := HJ19.out; have := HJ26.out; first | omega | exact Nat.le_refl _⟩, ⟨by (with_reducible repeat (first | refine blk_drewN ?_ _ | refine blk_drew ?_ | refine blk_alloc ?_ _)); exact BK308.out⟩, ⟨by repeat (first | (with_reducible first | exact HB.out | apply below_alloc | apply pw_below_drewN | apply below_drew1 | refine below_set ?_ GE308.out) | exact HB.out)⟩⟩
                            · rw [if_neg c48] at H
                              have c48b0 : (t300.toList == ([] : List UInt8)) = false := beq_eq_false_iff_ne.mpr c48
                              have c48b1 : (t300.toList != ([] : List UInt8)) = true := bne_iff_ne.mpr c48
                              have H' := Aside0.mk H
                              clear H
                              have hcz58_0 : wc.cell? ⟨gb308, 0, none⟩ = some (.bool t304) := (blk_cell BK308.out 0).trans rfl
                              have hcz58_1 : wc.cell? ⟨gb308, 1, none⟩ = some (.bool false) := (blk_cell BK308.out 1).trans rfl
                              have hcz58_2 : wc.cell? ⟨gb308, 2, none⟩ = some (.bool t306) := (blk_cell BK308.out 2).trans rfl
                              have hcz58_3 : wc.cell? ⟨gb308, 3, none⟩ = some (.bool t307) := (blk_cell BK308.out 3).trans rfl
                              have hfz58_0 := blk_frozen BK308.out 0
                              have hfz58_1 := blk_frozen BK308.out 1
                              have hfz58_2 := blk_frozen BK308.out 2
                              have hfz58_3 := blk_frozen BK308.out 3
                              go_wp2
                              go_meet
                              case rel => exact ⟨_, (true), (by first | rfl | (simp; done) | (simp [*]; done) | (simp [ne_nil_isEmpty, of_eq_true c36b9]; done)), H', ⟨by have := HJ3.out; have := HJ10.out; have := HJ19.out; have := HJ26.out; first | omega | exact Nat.le_refl _⟩, ⟨by (with_reducible repeat (first | refine blk_drewN ?_ _ | refine blk_drew ?_ | refine blk_alloc ?_ _)); exact BK308.out⟩, ⟨by repeat (first | (with_reducible first | exact HB.out | apply below_alloc | apply pw_below_drewN | apply below_drew1 | refine below_set ?_ GE308.out) | exact HB.out)⟩⟩
                      · rw [if_neg c35] at H
                        have c35b0 : (x9_26.toList == t298.toList) = false := beq_eq_false_iff_ne.mpr c35
                        have c35b1 : (x9_26.toList != t298.toList) = true := bne_iff_ne.mpr c35
                        (first | rw [c35b0] | (simp only [i64_w, i32_w]; rw [c35b0]) | skip)
                        have H' := Aside0.mk H
                        clear H
                        go_wp2
                        go_meet
                        case rel => exact ⟨_, (true), (by first | rfl | (simp; done) | (simp [*]; done) | (simp [ne_nil_isEmpty, of_eq_true c36b9]; done)), H', ⟨by have := HJ3.out; have := HJ10.out; have := HJ19.out; have := HJ26.out; first | omega | exact Nat.le_refl _⟩, ⟨by (with_reducible repeat (first | refine blk_drewN ?_ _ | refine blk_drew ?_ | refine blk_alloc ?_ _)); exact BK308.out⟩, ⟨by repeat (first | (with_reducible first | exact HB.out | apply below_alloc | apply pw_below_drewN | apply below_drew1 | refine below_set ?_ GE308.out) | exact HB.out)⟩⟩
                    case rest =>
                      clear HC34
                      try clear c1
                      try clear c2
                      try clear p2
                      try clear c3
                      try clear c4
                      try clear c5
                      try clear c8
                      try clear c9
                      try clear c9b0
                      try clear c9b1
                      try clear c9b2
                      try clear c10
                      try clear c13
                      try clear c14
                      try clear c14b0
                      try clear c14b1
                      try clear c14b2
                      try clear c16
                      try clear c16b0
                      try clear c16b1
                      try clear c16b2
                      try clear c18
                      try clear c18b0
                      try clear c18b1
                      try clear c18b2
                      try clear c22
                      try clear c23
                      try clear c23b0
                      try clear c23b1
                      try clear c23b2
                      try clear c25
                      try clear c25b0
                      try clear c25b1
                      try clear c25b2
                      try clear c29
                      try clear c30
                      try clear c30b0
                      try clear c30b1
                      try clear c30b2
                      try clear c32
                      try clear c32b0
                      try clear c32b1
                      try clear c32b2
                      try clear c35
                      try clear c35b0
                      try clear c35b1
                      try clear c36
                      try clear c36b0
                      try clear c36b1
                      try clear c36b2
                      try clear c38
                      try clear c39
                      try clear c40
                      try clear c43
                      try clear c43b0
                      try clear c43b1
                      try clear c44
                      try clear c48
                      try clear c48b0
                      try clear c48b1
                      try clear c49
                      try clear c50
                      try clear c53
                      try clear c53b0
                      try clear c53b1
                      try clear c54
                      try clear hcz12_0
                      try clear hcz12_1
                      try clear hcz12_2
                      try clear hcz12_3
                      try clear hcz21_0
                      try clear hcz21_1
                      try clear hcz21_2
                      try clear hcz21_3
                      try clear hcz28_0
                      try clear hcz28_1
                      try clear hcz28_2
                      try clear hcz28_3
                      try clear hcz37_0
                      try clear hcz37_1
                      try clear hcz37_2
                      try clear hcz37_3
                      try clear hcz41_0
                      try clear hcz41_1
                      try clear hcz41_2
                      try clear hcz41_3
                      try clear hcz42_0
                      try clear hcz42_1
                      try clear hcz42_2
                      try clear hcz42_3
                      try clear hcz45_0
                      try clear hcz45_1
                      try clear hcz45_2
                      try clear hcz45_3
                      try clear hcz46_0
                      try clear hcz46_1
                      try clear hcz46_2
                      try clear hcz46_3
                      try clear hcz47_0
                      try clear hcz47_1
                      try clear hcz47_2
                      try clear hcz47_3
                      try clear hcz51_0
                      try clear hcz51_1
                      try clear hcz51_2
                      try clear hcz51_3
                      try clear hcz52_0
                      try clear hcz52_1
                      try clear hcz52_2
                      try clear hcz52_3
                      try clear hcz55_0
                      try clear hcz55_1
                      try clear hcz55_2
                      try clear hcz55_3
                      try clear hcz56_0
                      try clear hcz56_1
                      try clear hcz56_2
                      try clear hcz56_3
                      try clear hcz57_0
                      try clear hcz57_1
                      try clear hcz57_2
                      try clear hcz57_3
                      try clear hcz58_0
                      try clear hcz58_1
                      try clear hcz58_2
                      try clear hcz58_3
                      try clear hcz7_0
                      try clear hcz7_1
                      try clear hcz7_2
                      try clear hcz7_3
                      try clear hfz12_0
                      try clear hfz12_1
                      try clear hfz12_2
                      try clear hfz12_3
                      try clear hfz21_0
                      try clear hfz21_1
                      try clear hfz21_2
                      try clear hfz21_3
                      try clear hfz28_0
                      try clear hfz28_1
                      try clear hfz28_2
                      try clear hfz28_3
                      try clear hfz37_0
                      try clear hfz37_1
                      try clear hfz37_2
                      try clear hfz37_3
                      try clear hfz41_0
                      try clear hfz41_1
                      try clear hfz41_2
                      try clear hfz41_3
                      try clear hfz42_0
                      try clear hfz42_1
                      try clear hfz42_2
                      try clear hfz42_3
                      try clear hfz45_0
                      try clear hfz45_1
                      try clear hfz45_2
                      try clear hfz45_3
                      try clear hfz46_0
                      try clear hfz46_1
                      try clear hfz46_2
                      try clear hfz46_3
                      try clear hfz47_0
                      try clear hfz47_1
                      try clear hfz47_2
                      try clear hfz47_3
                      try clear hfz51_0
                      try clear hfz51_1
                      try clear hfz51_2
                      try clear hfz51_3
                      try clear hfz52_0
                      try clear hfz52_1
                      try clear hfz52_2
                      try clear hfz52_3
                      try clear hfz55_0
                      try clear hfz55_1
                      try clear hfz55_2
                      try clear hfz55_3
                      try clear hfz56_0
                      try clear hfz56_1
                      try clear hfz56_2
                      try clear hfz56_3
                      try clear hfz57_0
                      try clear hfz57_1
                      try clear hfz57_2
                      try clear hfz57_3
                      try clear hfz58_0
                      try clear hfz58_1
                      try clear hfz58_2
                      try clear hfz58_3
                      try clear hfz7_0
                      try clear hfz7_1
                      try clear hfz7_2
                      try clear hfz7_3
                      try clear p2
                      obtain ⟨kq, x82_33, rfl, HA, HJ33, BK308, HB⟩ := hcut
                      cases kq with
                      | zero => exact absurd HA.out (by simp [shibbolethlaw19_RfcSplits.j4])
                      | succ kj33 =>
                        have H := HA.out
                        clear HA
                        simp only [shibbolethlaw19_RfcSplits.j4] at H
                        by_cases c59 : x82_33 = true
                        · subst c59
                          have H1 : (some false) = some r := by rw [if_pos rfl] at H; exact H
                          clear H
                          have H := H1
                          clear H1
                          obtain rfl := Option.some.inj H
                          go_wp2
                          go_ret
                          exact ⟨by first | rfl | (simp [errW_none, errW_some] <;> rfl) | (simp only [← hji19]; first | rfl | (simp [errW_none, errW_some] <;> rfl)) | (simp [*, errW_none, errW_some] <;> rfl), by repeat (first | (with_reducible first | exact HB.out | apply below_alloc | apply pw_below_drewN | apply below_drew1 | refine below_set ?_ GE308.out) | exact HB.out)⟩
                        · replace c59 := Bool.eq_false_iff.mpr c59
                          subst c59
                          have H1 : ((shibbolethlaw19_has.f kj33 t299 (⟨#[58, 47, 63, 35]⟩ : ByteArray)).bind fun t309 => (if t309 = true then (some false) else ((shibbolethlaw19_has.f kj33 t300 (⟨#[47, 63, 35]⟩ : ByteArray)).bind fun t310 => (if t310 = true then (some false) else ((shibbolethlaw19_has.f kj33 t301 (⟨#[63, 35]⟩ : ByteArray)).bind fun t311 => (if t311 = true then (some false) else ((shibbolethlaw19_has.f kj33 t302 (⟨#[35]⟩ : ByteArray)).bind fun t312 => (if t312 = true then (some false) else (if t305 = true then (if t301.toList = ([] : List UInt8) then ((shibbolethlaw19_awake.f kj33).bind fun t313 => (some t313)) else (if 0 < (t301.size : Int) then (if (bt t301 0) = 47 then ((shibbolethlaw19_awake.f kj33).bind fun t314 => (some t314)) else (some false)) else (none))) else (if (t301.size : Int) < 2 then ((shibbolethlaw19_awake.f kj33).bind fun t315 => (some t315)) else (if 0 ≤ 2 then (if 2 ≤ (t301.size : Int) then (if (t301.extract 0 2).toList = ([47, 47] : List UInt8) then (some false) else ((shibbolethlaw19_awake.f kj33).bind fun t316 => (some t316))) else (none)) else (none)))))))))))) = some r := by rw [if_neg (show ¬ (false = true) by decide)] at H; exact H
                          clear H
                          have H := H1
                          clear H1
                          replace H := Option.bind_eq_some_iff.mp H
                          obtain ⟨t309, A600, H⟩ := H
                          replace H : (if t309 = true then (some false) else ((shibbolethlaw19_has.f kj33 t300 (⟨#[47, 63, 35]⟩ : ByteArray)).bind fun t310 => (if t310 = true then (some false) else ((shibbolethlaw19_has.f kj33 t301 (⟨#[63, 35]⟩ : ByteArray)).bind fun t311 => (if t311 = true then (some false) else ((shibbolethlaw19_has.f kj33 t302 (⟨#[35]⟩ : ByteArray)).bind fun t312 => (if t312 = true then (some false) else (if t305 = true then (if t301.toList = ([] : List UInt8) then ((shibbolethlaw19_awake.f kj33).bind fun t313 => (some t313)) else (if 0 < (t301.size : Int) then (if (bt t301 0) = 47 then ((shibbolethlaw19_awake.f kj33).bind fun t314 => (some t314)) else (some false)) else (none))) else (if (t301.size : Int) < 2 then ((shibbolethlaw19_awake.f kj33).bind fun t315 => (some t315)) else (if 0 ≤ 2 then (if 2 ≤ (t301.size : Int) then (if (t301.extract 0 2).toList = ([47, 47] : List UInt8) then (some false) else ((shibbolethlaw19_awake.f kj33).bind fun t316 => (some t316))) else (none)) else (none))))))))))) = some r := H
                          have A60 := Aside0.mk A600
                          clear A600
                          by_cases c61 : t309 = true
                          · subst c61
                            have H1 : (some false) = some r := by rw [if_pos rfl] at H; exact H
                            clear H
                            have H := H1
                            clear H1
                            obtain rfl := Option.some.inj H
                            go_wp2_with (first | ((with_reducible refine gate_callee (f := 14) rfl ?_); refine goesL_ (some 84) rfl rfl Try.func14 (by kernel_rfl) rfl #[.string t299, .string (⟨#[58, 47, 63, 35]⟩ : ByteArray)] rfl (by (try simp only [List.map_toArray, List.map_cons, List.map_nil]); first | done | rfl | (simp only [List.length_drop, List.length_take]; rfl)) ?_; (with_reducible refine (shibbolethlaw19_has.calls kj33 t299 (⟨#[58, 47, 63, 35]⟩ : ByteArray) true _ A60.out).mono ?_); rintro e w' ⟨rfl, ⟨nd, rfl⟩⟩; refine ⟨_, rfl, ?_⟩))
                            go_ret
                            exact ⟨by first | rfl | (simp [errW_none, errW_some] <;> rfl) | (simp only [← hji19]; first | rfl | (simp [errW_none, errW_some] <;> rfl)) | (simp [*, errW_none, errW_some] <;> rfl), by repeat (first | (with_reducible first | exact HB.out | apply below_alloc | apply pw_below_drewN | apply below_drew1 | refine below_set ?_ GE308.out) | exact HB.out)⟩
                          · replace c61 := Bool.eq_false_iff.mpr c61
                            subst c61
                            have H1 : ((shibbolethlaw19_has.f kj33 t300 (⟨#[47, 63, 35]⟩ : ByteArray)).bind fun t310 => (if t310 = true then (some false) else ((shibbolethlaw19_has.f kj33 t301 (⟨#[63, 35]⟩ : ByteArray)).bind fun t311 => (if t311 = true then (some false) else ((shibbolethlaw19_has.f kj33 t302 (⟨#[35]⟩ : ByteArray)).bind fun t312 => (if t312 = true then (some false) else (if t305 = true then (if t301.toList = ([] : List UInt8) then ((shibbolethlaw19_awake.f kj33).bind fun t313 => (some t313)) else (if 0 < (t301.size : Int) then (if (bt t301 0) = 47 then ((shibbolethlaw19_awake.f kj33).bind fun t314 => (some t314)) else (some false)) else (none))) else (if (t301.size : Int) < 2 then ((shibbolethlaw19_awake.f kj33).bind fun t315 => (some t315)) else (if 0 ≤ 2 then (if 2 ≤ (t301.size : Int) then (if (t301.extract 0 2).toList = ([47, 47] : List UInt8) then (some false) else ((shibbolethlaw19_awake.f kj33).bind fun t316 => (some t316))) else (none)) else (none)))))))))) = some r := by rw [if_neg (show ¬ (false = true) by decide)] at H; exact H
                            clear H
                            have H := H1
                            clear H1
                            replace H := Option.bind_eq_some_iff.mp H
                            obtain ⟨t310, A620, H⟩ := H
                            replace H : (if t310 = true then (some false) else ((shibbolethlaw19_has.f kj33 t301 (⟨#[63, 35]⟩ : ByteArray)).bind fun t311 => (if t311 = true then (some false) else ((shibbolethlaw19_has.f kj33 t302 (⟨#[35]⟩ : ByteArray)).bind fun t312 => (if t312 = true then (some false) else (if t305 = true then (if t301.toList = ([] : List UInt8) then ((shibbolethlaw19_awake.f kj33).bind fun t313 => (some t313)) else (if 0 < (t301.size : Int) then (if (bt t301 0) = 47 then ((shibbolethlaw19_awake.f kj33).bind fun t314 => (some t314)) else (some false)) else (none))) else (if (t301.size : Int) < 2 then ((shibbolethlaw19_awake.f kj33).bind fun t315 => (some t315)) else (if 0 ≤ 2 then (if 2 ≤ (t301.size : Int) then (if (t301.extract 0 2).toList = ([47, 47] : List UInt8) then (some false) else ((shibbolethlaw19_awake.f kj33).bind fun t316 => (some t316))) else (none)) else (none))))))))) = some r := H
                            have A62 := Aside0.mk A620
                            clear A620
                            by_cases c63 : t310 = true
                            · subst c63
                              have H1 : (some false) = some r := by rw [if_pos rfl] at H; exact H
                              clear H
                              have H := H1
                              clear H1
                              obtain rfl := Option.some.inj H
                              go_wp2_with (first | ((with_reducible refine gate_callee (f := 14) rfl ?_); refine goesL_ (some 84) rfl rfl Try.func14 (by kernel_rfl) rfl #[.string t299, .string (⟨#[58, 47, 63, 35]⟩ : ByteArray)] rfl (by (try simp only [List.map_toArray, List.map_cons, List.map_nil]); first | done | rfl | (simp only [List.length_drop, List.length_take]; rfl)) ?_; (with_reducible refine (shibbolethlaw19_has.calls kj33 t299 (⟨#[58, 47, 63, 35]⟩ : ByteArray) false _ A60.out).mono ?_); rintro e w' ⟨rfl, ⟨nd, rfl⟩⟩; refine ⟨_, rfl, ?_⟩) | (go_at_call 14; (with_reducible refine (shibbolethlaw19_has.calls kj33 t300 (⟨#[47, 63, 35]⟩ : ByteArray) true _ A62.out).mono ?_); rintro e w' ⟨rfl, ⟨nd, rfl⟩⟩))
                              go_ret
                              exact ⟨by first | rfl | (simp [errW_none, errW_some] <;> rfl) | (simp only [← hji19]; first | rfl | (simp [errW_none, errW_some] <;> rfl)) | (simp [*, errW_none, errW_some] <;> rfl), by repeat (first | (with_reducible first | exact HB.out | apply below_alloc | apply pw_below_drewN | apply below_drew1 | refine below_set ?_ GE308.out) | exact HB.out)⟩
                            · replace c63 := Bool.eq_false_iff.mpr c63
                              subst c63
                              have H1 : ((shibbolethlaw19_has.f kj33 t301 (⟨#[63, 35]⟩ : ByteArray)).bind fun t311 => (if t311 = true then (some false) else ((shibbolethlaw19_has.f kj33 t302 (⟨#[35]⟩ : ByteArray)).bind fun t312 => (if t312 = true then (some false) else (if t305 = true then (if t301.toList = ([] : List UInt8) then ((shibbolethlaw19_awake.f kj33).bind fun t313 => (some t313)) else (if 0 < (t301.size : Int) then (if (bt t301 0) = 47 then ((shibbolethlaw19_awake.f kj33).bind fun t314 => (some t314)) else (some false)) else (none))) else (if (t301.size : Int) < 2 then ((shibbolethlaw19_awake.f kj33).bind fun t315 => (some t315)) else (if 0 ≤ 2 then (if 2 ≤ (t301.size : Int) then (if (t301.extract 0 2).toList = ([47, 47] : List UInt8) then (some false) else ((shibbolethlaw19_awake.f kj33).bind fun t316 => (some t316))) else (none)) else (none)))))))) = some r := by rw [if_neg (show ¬ (false = true) by decide)] at H; exact H
                              clear H
                              have H := H1
                              clear H1
                              replace H := Option.bind_eq_some_iff.mp H
                              obtain ⟨t311, A640, H⟩ := H
                              replace H : (if t311 = true then (some false) else ((shibbolethlaw19_has.f kj33 t302 (⟨#[35]⟩ : ByteArray)).bind fun t312 => (if t312 = true then (some false) else (if t305 = true then (if t301.toList = ([] : List UInt8) then ((shibbolethlaw19_awake.f kj33).bind fun t313 => (some t313)) else (if 0 < (t301.size : Int) then (if (bt t301 0) = 47 then ((shibbolethlaw19_awake.f kj33).bind fun t314 => (some t314)) else (some false)) else (none))) else (if (t301.size : Int) < 2 then ((shibbolethlaw19_awake.f kj33).bind fun t315 => (some t315)) else (if 0 ≤ 2 then (if 2 ≤ (t301.size : Int) then (if (t301.extract 0 2).toList = ([47, 47] : List UInt8) then (some false) else ((shibbolethlaw19_awake.f kj33).bind fun t316 => (some t316))) else (none)) else (none))))))) = some r := H
                              have A64 := Aside0.mk A640
                              clear A640
                              by_cases c65 : t311 = true
                              · subst c65
                                have H1 : (some false) = some r := by rw [if_pos rfl] at H; exact H
                                clear H
                                have H := H1
                                clear H1
                                obtain rfl := Option.some.inj H
                                go_wp2_with (first | ((with_reducible refine gate_callee (f := 14) rfl ?_); refine goesL_ (some 84) rfl rfl Try.func14 (by kernel_rfl) rfl #[.string t299, .string (⟨#[58, 47, 63, 35]⟩ : ByteArray)] rfl (by (try simp only [List.map_toArray, List.map_cons, List.map_nil]); first | done | rfl | (simp only [List.length_drop, List.length_take]; rfl)) ?_; (with_reducible refine (shibbolethlaw19_has.calls kj33 t299 (⟨#[58, 47, 63, 35]⟩ : ByteArray) false _ A60.out).mono ?_); rintro e w' ⟨rfl, ⟨nd, rfl⟩⟩; refine ⟨_, rfl, ?_⟩) | (go_at_call 14; (with_reducible refine (shibbolethlaw19_has.calls kj33 t300 (⟨#[47, 63, 35]⟩ : ByteArray) false _ A62.out).mono ?_); rintro e w' ⟨rfl, ⟨nd, rfl⟩⟩) | (go_at_call 14; (with_reducible refine (shibbolethlaw19_has.calls kj33 t301 (⟨#[63, 35]⟩ : ByteArray) true _ A64.out).mono ?_); rintro e w' ⟨rfl, ⟨nd, rfl⟩⟩))
                                go_ret
                                exact ⟨by first | rfl | (simp [errW_none, errW_some] <;> rfl) | (simp only [← hji19]; first | rfl | (simp [errW_none, errW_some] <;> rfl)) | (simp [*, errW_none, errW_some] <;> rfl), by repeat (first | (with_reducible first | exact HB.out | apply below_alloc | apply pw_below_drewN | apply below_drew1 | refine below_set ?_ GE308.out) | exact HB.out)⟩
                              · replace c65 := Bool.eq_false_iff.mpr c65
                                subst c65
                                have H1 : ((shibbolethlaw19_has.f kj33 t302 (⟨#[35]⟩ : ByteArray)).bind fun t312 => (if t312 = true then (some false) else (if t305 = true then (if t301.toList = ([] : List UInt8) then ((shibbolethlaw19_awake.f kj33).bind fun t313 => (some t313)) else (if 0 < (t301.size : Int) then (if (bt t301 0) = 47 then ((shibbolethlaw19_awake.f kj33).bind fun t314 => (some t314)) else (some false)) else (none))) else (if (t301.size : Int) < 2 then ((shibbolethlaw19_awake.f kj33).bind fun t315 => (some t315)) else (if 0 ≤ 2 then (if 2 ≤ (t301.size : Int) then (if (t301.extract 0 2).toList = ([47, 47] : List UInt8) then (some false) else ((shibbolethlaw19_awake.f kj33).bind fun t316 => (some t316))) else (none)) else (none)))))) = some r := by rw [if_neg (show ¬ (false = true) by decide)] at H; exact H
                                clear H
                                have H := H1
                                clear H1
                                replace H := Option.bind_eq_some_iff.mp H
                                obtain ⟨t312, A660, H⟩ := H
                                replace H : (if t312 = true then (some false) else (if t305 = true then (if t301.toList = ([] : List UInt8) then ((shibbolethlaw19_awake.f kj33).bind fun t313 => (some t313)) else (if 0 < (t301.size : Int) then (if (bt t301 0) = 47 then ((shibbolethlaw19_awake.f kj33).bind fun t314 => (some t314)) else (some false)) else (none))) else (if (t301.size : Int) < 2 then ((shibbolethlaw19_awake.f kj33).bind fun t315 => (some t315)) else (if 0 ≤ 2 then (if 2 ≤ (t301.size : Int) then (if (t301.extract 0 2).toList = ([47, 47] : List UInt8) then (some false) else ((shibbolethlaw19_awake.f kj33).bind fun t316 => (some t316))) else (none)) else (none))))) = some r := H
                                have A66 := Aside0.mk A660
                                clear A660
                                by_cases c67 : t312 = true
                                · subst c67
                                  have H1 : (some false) = some r := by rw [if_pos rfl] at H; exact H
                                  clear H
                                  have H := H1
                                  clear H1
                                  obtain rfl := Option.some.inj H
                                  go_wp2_with (first | ((with_reducible refine gate_callee (f := 14) rfl ?_); refine goesL_ (some 84) rfl rfl Try.func14 (by kernel_rfl) rfl #[.string t299, .string (⟨#[58, 47, 63, 35]⟩ : ByteArray)] rfl (by (try simp only [List.map_toArray, List.map_cons, List.map_nil]); first | done | rfl | (simp only [List.length_drop, List.length_take]; rfl)) ?_; (with_reducible refine (shibbolethlaw19_has.calls kj33 t299 (⟨#[58, 47, 63, 35]⟩ : ByteArray) false _ A60.out).mono ?_); rintro e w' ⟨rfl, ⟨nd, rfl⟩⟩; refine ⟨_, rfl, ?_⟩) | (go_at_call 14; (with_reducible refine (shibbolethlaw19_has.calls kj33 t300 (⟨#[47, 63, 35]⟩ : ByteArray) false _ A62.out).mono ?_); rintro e w' ⟨rfl, ⟨nd, rfl⟩⟩) | (go_at_call 14; (with_reducible refine (shibbolethlaw19_has.calls kj33 t301 (⟨#[63, 35]⟩ : ByteArray) false _ A64.out).mono ?_); rintro e w' ⟨rfl, ⟨nd, rfl⟩⟩) | (go_at_call 14; (with_reducible refine (shibbolethlaw19_has.calls kj33 t302 (⟨#[35]⟩ : ByteArray) true _ A66.out).mono ?_); rintro e w' ⟨rfl, ⟨nd, rfl⟩⟩))
                                  go_ret
                                  exact ⟨by first | rfl | (simp [errW_none, errW_some] <;> rfl) | (simp only [← hji19]; first | rfl | (simp [errW_none, errW_some] <;> rfl)) | (simp [*, errW_none, errW_some] <;> rfl), by repeat (first | (with_reducible first | exact HB.out | apply below_alloc | apply pw_below_drewN | apply below_drew1 | refine below_set ?_ GE308.out) | exact HB.out)⟩
                                · replace c67 := Bool.eq_false_iff.mpr c67
                                  subst c67
                                  have H1 : (if t305 = true then (if t301.toList = ([] : List UInt8) then ((shibbolethlaw19_awake.f kj33).bind fun t313 => (some t313)) else (if 0 < (t301.size : Int) then (if (bt t301 0) = 47 then ((shibbolethlaw19_awake.f kj33).bind fun t314 => (some t314)) else (some false)) else (none))) else (if (t301.size : Int) < 2 then ((shibbolethlaw19_awake.f kj33).bind fun t315 => (some t315)) else (if 0 ≤ 2 then (if 2 ≤ (t301.size : Int) then (if (t301.extract 0 2).toList = ([47, 47] : List UInt8) then (some false) else ((shibbolethlaw19_awake.f kj33).bind fun t316 => (some t316))) else (none)) else (none)))) = some r := by rw [if_neg (show ¬ (false = true) by decide)] at H; exact H
                                  clear H
                                  have H := H1
                                  clear H1
                                  by_cases c68 : t305 = true
                                  · subst c68
                                    have H1 : (if t301.toList = ([] : List UInt8) then ((shibbolethlaw19_awake.f kj33).bind fun t313 => (some t313)) else (if 0 < (t301.size : Int) then (if (bt t301 0) = 47 then ((shibbolethlaw19_awake.f kj33).bind fun t314 => (some t314)) else (some false)) else (none))) = some r := by rw [if_pos rfl] at H; exact H
                                    clear H
                                    have H := H1
                                    clear H1
                                    by_cases c69 : t301.toList = ([] : List UInt8)
                                    · rw [if_pos c69] at H
                                      have c69b0 : (t301.toList == ([] : List UInt8)) = true := beq_iff_eq.mpr c69
                                      have c69b1 : (t301.toList != ([] : List UInt8)) = false := bne_eq_false_iff_eq.mpr c69
                                      clear c69
                                      replace H := Option.bind_eq_some_iff.mp H
                                      obtain ⟨t313, A700, H⟩ := H
                                      replace H : (some t313) = some r := H
                                      have A70 := Aside0.mk A700
                                      clear A700
                                      obtain rfl := Option.some.inj H
                                      go_wp2_with (first | ((with_reducible refine gate_callee (f := 14) rfl ?_); refine goesL_ (some 84) rfl rfl Try.func14 (by kernel_rfl) rfl #[.string t299, .string (⟨#[58, 47, 63, 35]⟩ : ByteArray)] rfl (by (try simp only [List.map_toArray, List.map_cons, List.map_nil]); first | done | rfl | (simp only [List.length_drop, List.length_take]; rfl)) ?_; (with_reducible refine (shibbolethlaw19_has.calls kj33 t299 (⟨#[58, 47, 63, 35]⟩ : ByteArray) false _ A60.out).mono ?_); rintro e w' ⟨rfl, ⟨nd, rfl⟩⟩; refine ⟨_, rfl, ?_⟩) | (go_at_call 14; (with_reducible refine (shibbolethlaw19_has.calls kj33 t300 (⟨#[47, 63, 35]⟩ : ByteArray) false _ A62.out).mono ?_); rintro e w' ⟨rfl, ⟨nd, rfl⟩⟩) | (go_at_call 14; (with_reducible refine (shibbolethlaw19_has.calls kj33 t301 (⟨#[63, 35]⟩ : ByteArray) false _ A64.out).mono ?_); rintro e w' ⟨rfl, ⟨nd, rfl⟩⟩) | (go_at_call 14; (with_reducible refine (shibbolethlaw19_has.calls kj33 t302 (⟨#[35]⟩ : ByteArray) false _ A66.out).mono ?_); rintro e w' ⟨rfl, ⟨nd, rfl⟩⟩; have hcz71_0 : wc.cell? ⟨gb308, 0, none⟩ = some (.bool t304) := (blk_cell BK308.out 0).trans rfl; have hcz71_1 : wc.cell? ⟨gb308, 1, none⟩ = some (.bool true) := (blk_cell BK308.out 1).trans rfl; have hcz71_2 : wc.cell? ⟨gb308, 2, none⟩ = some (.bool t306) := (blk_cell BK308.out 2).trans rfl; have hcz71_3 : wc.cell? ⟨gb308, 3, none⟩ = some (.bool t307) := (blk_cell BK308.out 3).trans rfl; have hfz71_0 := blk_frozen BK308.out 0; have hfz71_1 := blk_frozen BK308.out 1; have hfz71_2 := blk_frozen BK308.out 2; have hfz71_3 := blk_frozen BK308.out 3) | (go_at_call 11; (with_reducible refine (shibbolethlaw19_awake.calls kj33  t313 _ A70.out).mono ?_); rintro e w72 ⟨rfl, hb⟩; have n0_ := Aside0.mk (blk_below (g := gb308) (o := .cells #[.bool t304, .bool true, .bool t306, .bool t307] 28 (0, 0)) (by (with_reducible repeat (first | refine blk_drewN ?_ _ | refine blk_drew ?_ | refine blk_alloc ?_ _)); exact BK308.out) hb); have n1_ := Aside0.mk (below_step (by repeat (first | (with_reducible first | exact HB.out | apply below_alloc | apply pw_below_drewN | apply below_drew1 | refine below_set ?_ GE308.out) | exact HB.out)) hb); clear BK308; clear HB; have BK308 := n0_; have HB := n1_; clear n0_ n1_; (try clear hb); (try clear hb2); (try clear hk); (try clear hi)))
                                      go_ret
                                      exact ⟨by first | rfl | (simp [errW_none, errW_some] <;> rfl) | (simp only [← hji19]; first | rfl | (simp [errW_none, errW_some] <;> rfl)) | (simp [*, errW_none, errW_some] <;> rfl), by repeat (first | (with_reducible first | exact HB.out | apply below_alloc | apply pw_below_drewN | apply below_drew1 | refine below_set ?_ GE308.out) | exact HB.out)⟩
                                    · rw [if_neg c69] at H
                                      have c69b0 : (t301.toList == ([] : List UInt8)) = false := beq_eq_false_iff_ne.mpr c69
                                      have c69b1 : (t301.toList != ([] : List UInt8)) = true := bne_iff_ne.mpr c69
                                      by_cases c73 : 0 < (t301.size : Int)
                                      · rw [if_pos c73] at H
                                        have c73b0 : decide (0 < (t301.size : Int)) = true := decide_eq_true c73
                                        have c73b1 : decide (0 < t301.size) = true := decide_eq_true (by omega)
                                        clear c73
                                        by_cases c75 : (bt t301 0) = 47
                                        · rw [if_pos c75] at H
                                          have c75b0 : ((bt t301 0) == 47) = true := beq_iff_eq.mpr c75
                                          have c75b1 : ((bt t301 0) != 47) = false := bne_eq_false_iff_eq.mpr c75
                                          clear c75
                                          replace H := Option.bind_eq_some_iff.mp H
                                          obtain ⟨t314, A760, H⟩ := H
                                          replace H : (some t314) = some r := H
                                          have A76 := Aside0.mk A760
                                          clear A760
                                          obtain rfl := Option.some.inj H
                                          go_wp2_with (first | ((with_reducible refine gate_callee (f := 14) rfl ?_); refine goesL_ (some 84) rfl rfl Try.func14 (by kernel_rfl) rfl #[.string t299, .string (⟨#[58, 47, 63, 35]⟩ : ByteArray)] rfl (by (try simp only [List.map_toArray, List.map_cons, List.map_nil]); first | done | rfl | (simp only [List.length_drop, List.length_take]; rfl)) ?_; (with_reducible refine (shibbolethlaw19_has.calls kj33 t299 (⟨#[58, 47, 63, 35]⟩ : ByteArray) false _ A60.out).mono ?_); rintro e w' ⟨rfl, ⟨nd, rfl⟩⟩; refine ⟨_, rfl, ?_⟩) | (go_at_call 14; (with_reducible refine (shibbolethlaw19_has.calls kj33 t300 (⟨#[47, 63, 35]⟩ : ByteArray) false _ A62.out).mono ?_); rintro e w' ⟨rfl, ⟨nd, rfl⟩⟩) | (go_at_call 14; (with_reducible refine (shibbolethlaw19_has.calls kj33 t301 (⟨#[63, 35]⟩ : ByteArray) false _ A64.out).mono ?_); rintro e w' ⟨rfl, ⟨nd, rfl⟩⟩) | (go_at_call 14; (with_reducible refine (shibbolethlaw19_has.calls kj33 t302 (⟨#[35]⟩ : ByteArray) false _ A66.out).mono ?_); rintro e w' ⟨rfl, ⟨nd, rfl⟩⟩; have hcz77_0 : wc.cell? ⟨gb308, 0, none⟩ = some (.bool t304) := (blk_cell BK308.out 0).trans rfl; have hcz77_1 : wc.cell? ⟨gb308, 1, none⟩ = some (.bool true) := (blk_cell BK308.out 1).trans rfl; have hcz77_2 : wc.cell? ⟨gb308, 2, none⟩ = some (.bool t306) := (blk_cell BK308.out 2).trans rfl; have hcz77_3 : wc.cell? ⟨gb308, 3, none⟩ = some (.bool t307) := (blk_cell BK308.out 3).trans rfl; have hfz77_0 := blk_frozen BK308.out 0; have hfz77_1 := blk_frozen BK308.out 1; have hfz77_2 := blk_frozen BK308.out 2; have hfz77_3 := blk_frozen BK308.out 3; have p74 : 0 ≤ (0 : Int) := (by omega); have q74 : 0 < t301.size := (by have : (0 : Int) < (t301.size : Int) := of_decide_eq_true (by first | (with_reducible assumption) | assumption); omega); have hx74 : ∀ h : 0 < t301.size, ((t301[0]'h).toNat : Int) = bt t301 0 := bt_at t301 0; clear p74; have qi74 : (0 < (t301.size : Int)) = True := eq_true (of_decide_eq_true (by first | (with_reducible assumption) | assumption)); replace q74 := eq_true q74) | (go_at_call 11; (with_reducible refine (shibbolethlaw19_awake.calls kj33  t314 _ A76.out).mono ?_); rintro e w78 ⟨rfl, hb⟩; have n0_ := Aside0.mk (blk_below (g := gb308) (o := .cells #[.bool t304, .bool true, .bool t306, .bool t307] 28 (0, 0)) (by (with_reducible repeat (first | refine blk_drewN ?_ _ | refine blk_drew ?_ | refine blk_alloc ?_ _)); exact BK308.out) hb); have n1_ := Aside0.mk (below_step (by repeat (first | (with_reducible first | exact HB.out | apply below_alloc | apply pw_below_drewN | apply below_drew1 | refine below_set ?_ GE308.out) | exact HB.out)) hb); clear BK308; clear HB; have BK308 := n0_; have HB := n1_; clear n0_ n1_; (try clear hb); (try clear hb2); (try clear hk); (try clear hi)))
                                          go_ret
                                          exact ⟨by first | rfl | (simp [errW_none, errW_some] <;> rfl) | (simp only [← hji19]; first | rfl | (simp [errW_none, errW_some] <;> rfl)) | (simp [*, errW_none, errW_some] <;> rfl), by repeat (first | (with_reducible first | exact HB.out | apply below_alloc | apply pw_below_drewN | apply below_drew1 | refine below_set ?_ GE308.out) | exact HB.out)⟩
                                        · rw [if_neg c75] at H
                                          have c75b0 : ((bt t301 0) == 47) = false := beq_eq_false_iff_ne.mpr c75
                                          have c75b1 : ((bt t301 0) != 47) = true := bne_iff_ne.mpr c75
                                          obtain rfl := Option.some.inj H
                                          go_wp2_with (first | ((with_reducible refine gate_callee (f := 14) rfl ?_); refine goesL_ (some 84) rfl rfl Try.func14 (by kernel_rfl) rfl #[.string t299, .string (⟨#[58, 47, 63, 35]⟩ : ByteArray)] rfl (by (try simp only [List.map_toArray, List.map_cons, List.map_nil]); first | done | rfl | (simp only [List.length_drop, List.length_take]; rfl)) ?_; (with_reducible refine (shibbolethlaw19_has.calls kj33 t299 (⟨#[58, 47, 63, 35]⟩ : ByteArray) false _ A60.out).mono ?_); rintro e w' ⟨rfl, ⟨nd, rfl⟩⟩; refine ⟨_, rfl, ?_⟩) | (go_at_call 14; (with_reducible refine (shibbolethlaw19_has.calls kj33 t300 (⟨#[47, 63, 35]⟩ : ByteArray) false _ A62.out).mono ?_); rintro e w' ⟨rfl, ⟨nd, rfl⟩⟩) | (go_at_call 14; (with_reducible refine (shibbolethlaw19_has.calls kj33 t301 (⟨#[63, 35]⟩ : ByteArray) false _ A64.out).mono ?_); rintro e w' ⟨rfl, ⟨nd, rfl⟩⟩) | (go_at_call 14; (with_reducible refine (shibbolethlaw19_has.calls kj33 t302 (⟨#[35]⟩ : ByteArray) false _ A66.out).mono ?_); rintro e w' ⟨rfl, ⟨nd, rfl⟩⟩; have hcz79_0 : wc.cell? ⟨gb308, 0, none⟩ = some (.bool t304) := (blk_cell BK308.out 0).trans rfl; have hcz79_1 : wc.cell? ⟨gb308, 1, none⟩ = some (.bool true) := (blk_cell BK308.out 1).trans rfl; have hcz79_2 : wc.cell? ⟨gb308, 2, none⟩ = some (.bool t306) := (blk_cell BK308.out 2).trans rfl; have hcz79_3 : wc.cell? ⟨gb308, 3, none⟩ = some (.bool t307) := (blk_cell BK308.out 3).trans rfl; have hfz79_0 := blk_frozen BK308.out 0; have hfz79_1 := blk_frozen BK308.out 1; have hfz79_2 := blk_frozen BK308.out 2; have hfz79_3 := blk_frozen BK308.out 3; have p74 : 0 ≤ (0 : Int) := (by omega); have q74 : 0 < t301.size := (by have : (0 : Int) < (t301.size : Int) := of_decide_eq_true (by first | (with_reducible assumption) | assumption); omega); have hx74 : ∀ h : 0 < t301.size, ((t301[0]'h).toNat : Int) = bt t301 0 := bt_at t301 0; clear p74; have qi74 : (0 < (t301.size : Int)) = True := eq_true (of_decide_eq_true (by first | (with_reducible assumption) | assumption)); replace q74 := eq_true q74))
                                          go_ret
                                          exact ⟨by first | rfl | (simp [errW_none, errW_some] <;> rfl) | (simp only [← hji19]; first | rfl | (simp [errW_none, errW_some] <;> rfl)) | (simp [*, errW_none, errW_some] <;> rfl), by repeat (first | (with_reducible first | exact HB.out | apply below_alloc | apply pw_below_drewN | apply below_drew1 | refine below_set ?_ GE308.out) | exact HB.out)⟩
                                      · rw [if_neg c73] at H
                                        exact absurd H (by simp)
                                  · replace c68 := Bool.eq_false_iff.mpr c68
                                    subst c68
                                    have H1 : (if (t301.size : Int) < 2 then ((shibbolethlaw19_awake.f kj33).bind fun t315 => (some t315)) else (if 0 ≤ 2 then (if 2 ≤ (t301.size : Int) then (if (t301.extract 0 2).toList = ([47, 47] : List UInt8) then (some false) else ((shibbolethlaw19_awake.f kj33).bind fun t316 => (some t316))) else (none)) else (none))) = some r := by rw [if_neg (show ¬ (false = true) by decide)] at H; exact H
                                    clear H
                                    have H := H1
                                    clear H1
                                    by_cases c80 : (t301.size : Int) < 2
                                    · rw [if_pos c80] at H
                                      have c80b0 : decide ((t301.size : Int) < 2) = true := decide_eq_true c80
                                      have c80b1 : decide (t301.size < 2) = true := decide_eq_true (by omega)
                                      clear c80
                                      replace H := Option.bind_eq_some_iff.mp H
                                      obtain ⟨t315, A810, H⟩ := H
                                      replace H : (some t315) = some r := H
                                      have A81 := Aside0.mk A810
                                      clear A810
                                      obtain rfl := Option.some.inj H
                                      go_wp2_with (first | ((with_reducible refine gate_callee (f := 14) rfl ?_); refine goesL_ (some 84) rfl rfl Try.func14 (by kernel_rfl) rfl #[.string t299, .string (⟨#[58, 47, 63, 35]⟩ : ByteArray)] rfl (by (try simp only [List.map_toArray, List.map_cons, List.map_nil]); first | done | rfl | (simp only [List.length_drop, List.length_take]; rfl)) ?_; (with_reducible refine (shibbolethlaw19_has.calls kj33 t299 (⟨#[58, 47, 63, 35]⟩ : ByteArray) false _ A60.out).mono ?_); rintro e w' ⟨rfl, ⟨nd, rfl⟩⟩; refine ⟨_, rfl, ?_⟩) | (go_at_call 14; (with_reducible refine (shibbolethlaw19_has.calls kj33 t300 (⟨#[47, 63, 35]⟩ : ByteArray) false _ A62.out).mono ?_); rintro e w' ⟨rfl, ⟨nd, rfl⟩⟩) | (go_at_call 14; (with_reducible refine (shibbolethlaw19_has.calls kj33 t301 (⟨#[63, 35]⟩ : ByteArray) false _ A64.out).mono ?_); rintro e w' ⟨rfl, ⟨nd, rfl⟩⟩) | (go_at_call 14; (with_reducible refine (shibbolethlaw19_has.calls kj33 t302 (⟨#[35]⟩ : ByteArray) false _ A66.out).mono ?_); rintro e w' ⟨rfl, ⟨nd, rfl⟩⟩; have hcz82_0 : wc.cell? ⟨gb308, 0, none⟩ = some (.bool t304) := (blk_cell BK308.out 0).trans rfl; have hcz82_1 : wc.cell? ⟨gb308, 1, none⟩ = some (.bool false) := (blk_cell BK308.out 1).trans rfl; have hcz82_2 : wc.cell? ⟨gb308, 2, none⟩ = some (.bool t306) := (blk_cell BK308.out 2).trans rfl; have hcz82_3 : wc.cell? ⟨gb308, 3, none⟩ = some (.bool t307) := (blk_cell BK308.out 3).trans rfl; have hfz82_0 := blk_frozen BK308.out 0; have hfz82_1 := blk_frozen BK308.out 1; have hfz82_2 := blk_frozen BK308.out 2; have hfz82_3 := blk_frozen BK308.out 3) | (go_at_call 11; (with_reducible refine (shibbolethlaw19_awake.calls kj33  t315 _ A81.out).mono ?_); rintro e w83 ⟨rfl, hb⟩; have n0_ := Aside0.mk (blk_below (g := gb308) (o := .cells #[.bool t304, .bool false, .bool t306, .bool t307] 28 (0, 0)) (by (with_reducible repeat (first | refine blk_drewN ?_ _ | refine blk_drew ?_ | refine blk_alloc ?_ _)); exact BK308.out) hb); have n1_ := Aside0.mk (below_step (by repeat (first | (with_reducible first | exact HB.out | apply below_alloc | apply pw_below_drewN | apply below_drew1 | refine below_set ?_ GE308.out) | exact HB.out)) hb); clear BK308; clear HB; have BK308 := n0_; have HB := n1_; clear n0_ n1_; (try clear hb); (try clear hb2); (try clear hk); (try clear hi)))
                                      go_ret
                                      exact ⟨by first | rfl | (simp [errW_none, errW_some] <;> rfl) | (simp only [← hji19]; first | rfl | (simp [errW_none, errW_some] <;> rfl)) | (simp [*, errW_none, errW_some] <;> rfl), by repeat (first | (with_reducible first | exact HB.out | apply below_alloc | apply pw_below_drewN | apply below_drew1 | refine below_set ?_ GE308.out) | exact HB.out)⟩
                                    · rw [if_neg c80] at H
                                      have c80b0 : decide ((t301.size : Int) < 2) = false := decide_eq_false c80
                                      have c80b1 : decide (t301.size < 2) = false := decide_eq_false (by omega)
                                      clear c80
                                      by_cases c84 : 0 ≤ 2
                                      · rw [if_pos c84] at H
                                        have c84b0 := eq_true c84
                                        have c84b1 : decide (0 ≤ 2) = true := decide_eq_true c84
                                        clear c84
                                        by_cases c85 : 2 ≤ (t301.size : Int)
                                        · rw [if_pos c85] at H
                                          have c85b0 := eq_true c85
                                          have c85b1 : decide (2 ≤ (t301.size : Int)) = true := decide_eq_true c85
                                          clear c85
                                          by_cases c86 : (t301.extract 0 2).toList = ([47, 47] : List UInt8)
                                          · rw [if_pos c86] at H
                                            have c86b0 : ((t301.extract 0 2).toList == ([47, 47] : List UInt8)) = true := beq_iff_eq.mpr c86
                                            have c86b1 : ((t301.extract 0 2).toList != ([47, 47] : List UInt8)) = false := bne_eq_false_iff_eq.mpr c86
                                            clear c86
                                            obtain rfl := Option.some.inj H
                                            go_wp2_with (first | ((with_reducible refine gate_callee (f := 14) rfl ?_); refine goesL_ (some 84) rfl rfl Try.func14 (by kernel_rfl) rfl #[.string t299, .string (⟨#[58, 47, 63, 35]⟩ : ByteArray)] rfl (by (try simp only [List.map_toArray, List.map_cons, List.map_nil]); first | done | rfl | (simp only [List.length_drop, List.length_take]; rfl)) ?_; (with_reducible refine (shibbolethlaw19_has.calls kj33 t299 (⟨#[58, 47, 63, 35]⟩ : ByteArray) false _ A60.out).mono ?_); rintro e w' ⟨rfl, ⟨nd, rfl⟩⟩; refine ⟨_, rfl, ?_⟩) | (go_at_call 14; (with_reducible refine (shibbolethlaw19_has.calls kj33 t300 (⟨#[47, 63, 35]⟩ : ByteArray) false _ A62.out).mono ?_); rintro e w' ⟨rfl, ⟨nd, rfl⟩⟩) | (go_at_call 14; (with_reducible refine (shibbolethlaw19_has.calls kj33 t301 (⟨#[63, 35]⟩ : ByteArray) false _ A64.out).mono ?_); rintro e w' ⟨rfl, ⟨nd, rfl⟩⟩) | (go_at_call 14; (with_reducible refine (shibbolethlaw19_has.calls kj33 t302 (⟨#[35]⟩ : ByteArray) false _ A66.out).mono ?_); rintro e w' ⟨rfl, ⟨nd, rfl⟩⟩; have hcz87_0 : wc.cell? ⟨gb308, 0, none⟩ = some (.bool t304) := (blk_cell BK308.out 0).trans rfl; have hcz87_1 : wc.cell? ⟨gb308, 1, none⟩ = some (.bool false) := (blk_cell BK308.out 1).trans rfl; have hcz87_2 : wc.cell? ⟨gb308, 2, none⟩ = some (.bool t306) := (blk_cell BK308.out 2).trans rfl; have hcz87_3 : wc.cell? ⟨gb308, 3, none⟩ = some (.bool t307) := (blk_cell BK308.out 3).trans rfl; have hfz87_0 := blk_frozen BK308.out 0; have hfz87_1 := blk_frozen BK308.out 1; have hfz87_2 := blk_frozen BK308.out 2; have hfz87_3 := blk_frozen BK308.out 3))
                                            go_ret
                                            exact ⟨by first | rfl | (simp [errW_none, errW_some] <;> rfl) | (simp only [← hji19]; first | rfl | (simp [errW_none, errW_some] <;> rfl)) | (simp [*, errW_none, errW_some] <;> rfl), by repeat (first | (with_reducible first | exact HB.out | apply below_alloc | apply pw_below_drewN | apply below_drew1 | refine below_set ?_ GE308.out) | exact HB.out)⟩
                                          · rw [if_neg c86] at H
                                            have c86b0 : ((t301.extract 0 2).toList == ([47, 47] : List UInt8)) = false := beq_eq_false_iff_ne.mpr c86
                                            have c86b1 : ((t301.extract 0 2).toList != ([47, 47] : List UInt8)) = true := bne_iff_ne.mpr c86
                                            replace H := Option.bind_eq_some_iff.mp H
                                            obtain ⟨t316, A880, H⟩ := H
                                            replace H : (some t316) = some r := H
                                            have A88 := Aside0.mk A880
                                            clear A880
                                            obtain rfl := Option.some.inj H
                                            go_wp2_with (first | ((with_reducible refine gate_callee (f := 14) rfl ?_); refine goesL_ (some 84) rfl rfl Try.func14 (by kernel_rfl) rfl #[.string t299, .string (⟨#[58, 47, 63, 35]⟩ : ByteArray)] rfl (by (try simp only [List.map_toArray, List.map_cons, List.map_nil]); first | done | rfl | (simp only [List.length_drop, List.length_take]; rfl)) ?_; (with_reducible refine (shibbolethlaw19_has.calls kj33 t299 (⟨#[58, 47, 63, 35]⟩ : ByteArray) false _ A60.out).mono ?_); rintro e w' ⟨rfl, ⟨nd, rfl⟩⟩; refine ⟨_, rfl, ?_⟩) | (go_at_call 14; (with_reducible refine (shibbolethlaw19_has.calls kj33 t300 (⟨#[47, 63, 35]⟩ : ByteArray) false _ A62.out).mono ?_); rintro e w' ⟨rfl, ⟨nd, rfl⟩⟩) | (go_at_call 14; (with_reducible refine (shibbolethlaw19_has.calls kj33 t301 (⟨#[63, 35]⟩ : ByteArray) false _ A64.out).mono ?_); rintro e w' ⟨rfl, ⟨nd, rfl⟩⟩) | (go_at_call 14; (with_reducible refine (shibbolethlaw19_has.calls kj33 t302 (⟨#[35]⟩ : ByteArray) false _ A66.out).mono ?_); rintro e w' ⟨rfl, ⟨nd, rfl⟩⟩; have hcz89_0 : wc.cell? ⟨gb308, 0, none⟩ = some (.bool t304) := (blk_cell BK308.out 0).trans rfl; have hcz89_1 : wc.cell? ⟨gb308, 1, none⟩ = some (.bool false) := (blk_cell BK308.out 1).trans rfl; have hcz89_2 : wc.cell? ⟨gb308, 2, none⟩ = some (.bool t306) := (blk_cell BK308.out 2).trans rfl; have hcz89_3 : wc.cell? ⟨gb308, 3, none⟩ = some (.bool t307) := (blk_cell BK308.out 3).trans rfl; have hfz89_0 := blk_frozen BK308.out 0; have hfz89_1 := blk_frozen BK308.out 1; have hfz89_2 := blk_frozen BK308.out 2; have hfz89_3 := blk_frozen BK308.out 3) | (go_at_call 11; (with_reducible refine (shibbolethlaw19_awake.calls kj33  t316 _ A88.out).mono ?_); rintro e w90 ⟨rfl, hb⟩; have n0_ := Aside0.mk (blk_below (g := gb308) (o := .cells #[.bool t304, .bool false, .bool t306, .bool t307] 28 (0, 0)) (by (with_reducible repeat (first | refine blk_drewN ?_ _ | refine blk_drew ?_ | refine blk_alloc ?_ _)); exact BK308.out) hb); have n1_ := Aside0.mk (below_step (by repeat (first | (with_reducible first | exact HB.out | apply below_alloc | apply pw_below_drewN | apply below_drew1 | refine below_set ?_ GE308.out) | exact HB.out)) hb); clear BK308; clear HB; have BK308 := n0_; have HB := n1_; clear n0_ n1_; (try clear hb); (try clear hb2); (try clear hk); (try clear hi)))
                                            go_ret
                                            exact ⟨by first | rfl | (simp [errW_none, errW_some] <;> rfl) | (simp only [← hji19]; first | rfl | (simp [errW_none, errW_some] <;> rfl)) | (simp [*, errW_none, errW_some] <;> rfl), by repeat (first | (with_reducible first | exact HB.out | apply below_alloc | apply pw_below_drewN | apply below_drew1 | refine below_set ?_ GE308.out) | exact HB.out)⟩
                                        · rw [if_neg c85] at H
                                          exact absurd H (by simp)
                                      · rw [if_neg c84] at H
                                        exact absurd H (by simp)
          · rw [if_neg c18] at H
            exact absurd H (by simp)

/-- THE ONE PURE STATEMENT of shibbolethlaw19_RfcSplits: yours. -/
def shibbolethlaw19_RfcSplits.Pure : Prop := ∀ (a0 : ByteArray), a0.size ≤ 140737488351232 → ∃ k, shibbolethlaw19_RfcSplits.f k a0 = some true
theorem shibbolethlaw19_RfcSplits.walk (P : shibbolethlaw19_RfcSplits.Pure) (a0 : ByteArray) (w : World) (w0 : a0.size ≤ 140737488351232) :
    Calls Try.prog 5 #[.string a0] w fun e w' => e = .returned (.bool true) ∧ Below w.heap.size w w' := by
  obtain ⟨k, h⟩ := P a0 w0
  refine (shibbolethlaw19_RfcSplits.calls k a0 true w h).mono ?_
  rintro e w' ⟨rfl, hd⟩
  exact ⟨rfl, hd⟩

end Go.Proofs.Ytiihgddpejmehaa.ZA

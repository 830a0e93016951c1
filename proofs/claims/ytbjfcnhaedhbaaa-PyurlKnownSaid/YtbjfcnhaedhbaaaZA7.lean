/- My own print (tools/mp.py) of functions of this seat: each function as a plain Lean function, and the proof that the code does what that function says. -/
import Derived.Test.YtbjfcnhaedhbaaaZA0
import Derived.Test.YtbjfcnhaedhbaaaZA1
import Derived.Test.YtbjfcnhaedhbaaaZA5
namespace Go.Proofs.Ytbjfcnhaedhbaaa.ZA
open Go.RowKit Go.Proofs.YtbjfcnhaedhbaaaW.PrintWords Go.Proofs.YtbjfcnhaedhbaaaW.PrintLast Go.Proofs.YtbjfcnhaedhbaaaW.PrintMore
attribute [local go_sem] max2_int min2_int max_two min_two max_three min_three max_four min_four   -- for this text's walks alone
set_option linter.unusedVariables false
set_option linter.unusedSimpArgs false

attribute [local go_sem high] eqA24
/-! ### shibbolethlaw21_PyurlKnown: function 4 -/
mutual
def shibbolethlaw21_PyurlKnown.l0 : Nat → List (S27) → Int → Int → Option (Bool)
  | 0, _, _, _ => none
  | k + 1, x23, x24, x25 => if x25 < x24 then (if 0 ≤ x25 then (if x25 < (x23.length : Int) then ((shibbolethlaw21_field.f k ((rd_T27 x23 x25).f0) ((rd_T27 x23 x25).f1) ((rd_T27 x23 x25).f2)).bind fun t221 => (if t221 = true then (shibbolethlaw21_PyurlKnown.l0 k x23 x24 (wrap64 (x25 + 1))) else (some false))) else (none)) else (none)) else ((some (([(⟨#[47, 47, 91, 97]⟩ : ByteArray), (⟨#[47, 47, 97, 93]⟩ : ByteArray), (⟨#[47, 47, 97, 93, 91]⟩ : ByteArray), (⟨#[104, 116, 116, 112, 58, 47, 47, 93, 47]⟩ : ByteArray)] : List ByteArray) : List ByteArray)).bind fun y222 => (shibbolethlaw21_PyurlKnown.l1 k y222 (y222.length : Int) 0))
def shibbolethlaw21_PyurlKnown.l1 : Nat → List ByteArray → Int → Int → Option (Bool)
  | 0, _, _, _ => none
  | k + 1, x38, x39, x40 => if x40 < x39 then (if 0 ≤ x40 then (if x40 < (x38.length : Int) then ((pyurl_Parse.f k (rdOf ByteArray.empty x38 x40)).bind fun bt226 => (if (bt226.1 || (!(bt226.2.1.toList == ([] : List UInt8)) || (!(bt226.2.2.toList == ([] : List UInt8))))) = true then (some false) else (shibbolethlaw21_PyurlKnown.l1 k x38 x39 (wrap64 (x40 + 1))))) else (none)) else (none)) else ((shibbolethlaw21_awake.f k).bind fun t229 => (some t229))
end
def shibbolethlaw21_PyurlKnown.f (k : Nat)  : Option (Bool) := (some (([(⟨(⟨#[32, 47, 47, 120]⟩ : ByteArray), (⟨#[120]⟩ : ByteArray), (⟨#[]⟩ : ByteArray)⟩ : S27), (⟨(⟨#[47, 47, 97, 64, 98, 64, 99, 58, 100, 58, 101]⟩ : ByteArray), (⟨#[99]⟩ : ByteArray), (⟨#[]⟩ : ByteArray)⟩ : S27), (⟨(⟨#[47, 47, 120, 91, 97, 93, 98, 93, 99, 47]⟩ : ByteArray), (⟨#[97]⟩ : ByteArray), (⟨#[47]⟩ : ByteArray)⟩ : S27), (⟨(⟨#[47, 47, 97, 93, 64, 98]⟩ : ByteArray), (⟨#[98]⟩ : ByteArray), (⟨#[]⟩ : ByteArray)⟩ : S27), (⟨(⟨#[97, 58, 98]⟩ : ByteArray), (⟨#[]⟩ : ByteArray), (⟨#[98]⟩ : ByteArray)⟩ : S27), (⟨(⟨#[58, 97]⟩ : ByteArray), (⟨#[]⟩ : ByteArray), (⟨#[58, 97]⟩ : ByteArray)⟩ : S27), (⟨(⟨#[49, 58, 97]⟩ : ByteArray), (⟨#[]⟩ : ByteArray), (⟨#[49, 58, 97]⟩ : ByteArray)⟩ : S27), (⟨(⟨#[97, 9, 98]⟩ : ByteArray), (⟨#[]⟩ : ByteArray), (⟨#[97, 98]⟩ : ByteArray)⟩ : S27), (⟨(⟨#[104, 116, 116, 112, 58, 120]⟩ : ByteArray), (⟨#[]⟩ : ByteArray), (⟨#[120]⟩ : ByteArray)⟩ : S27), (⟨(⟨#[104, 47, 112, 58, 47, 47, 120]⟩ : ByteArray), (⟨#[]⟩ : ByteArray), (⟨#[104, 47, 112, 58, 47, 47, 120]⟩ : ByteArray)⟩ : S27), (⟨(⟨#[47, 47]⟩ : ByteArray), (⟨#[]⟩ : ByteArray), (⟨#[]⟩ : ByteArray)⟩ : S27), (⟨(⟨#[104, 116, 116, 112, 58, 47, 47]⟩ : ByteArray), (⟨#[]⟩ : ByteArray), (⟨#[]⟩ : ByteArray)⟩ : S27), (⟨(⟨#[]⟩ : ByteArray), (⟨#[]⟩ : ByteArray), (⟨#[]⟩ : ByteArray)⟩ : S27), (⟨(⟨#[10, 9, 32, 47, 13, 47, 120, 32]⟩ : ByteArray), (⟨#[120, 32]⟩ : ByteArray), (⟨#[]⟩ : ByteArray)⟩ : S27), (⟨(⟨#[47, 47, 91, 93]⟩ : ByteArray), (⟨#[]⟩ : ByteArray), (⟨#[]⟩ : ByteArray)⟩ : S27), (⟨(⟨#[63, 97]⟩ : ByteArray), (⟨#[]⟩ : ByteArray), (⟨#[]⟩ : ByteArray)⟩ : S27), (⟨(⟨#[97, 32, 98, 35]⟩ : ByteArray), (⟨#[]⟩ : ByteArray), (⟨#[97, 32, 98]⟩ : ByteArray)⟩ : S27), (⟨(⟨#[120, 43, 45, 46, 49, 58, 47, 47, 104, 35, 112]⟩ : ByteArray), (⟨#[104]⟩ : ByteArray), (⟨#[]⟩ : ByteArray)⟩ : S27)] : List (S27)) : List (S27))).bind fun y216 => (shibbolethlaw21_PyurlKnown.l0 k y216 (y216.length : Int) 0)
theorem shibbolethlaw21_PyurlKnown.mono_l : ∀ k, (∀ y0 y1 y2, LeO (shibbolethlaw21_PyurlKnown.l0 k y0 y1 y2) (shibbolethlaw21_PyurlKnown.l0 (k + 1) y0 y1 y2)) ∧ (∀ y0 y1 y2, LeO (shibbolethlaw21_PyurlKnown.l1 k y0 y1 y2) (shibbolethlaw21_PyurlKnown.l1 (k + 1) y0 y1 y2))
  | 0 => ⟨fun _ _ _ r h => by simp [shibbolethlaw21_PyurlKnown.l0] at h, fun _ _ _ r h => by simp [shibbolethlaw21_PyurlKnown.l1] at h⟩
  | k + 1 => by
    obtain ⟨ih0, ih1⟩ := shibbolethlaw21_PyurlKnown.mono_l k
    refine ⟨?_, ?_⟩
    · intro y0 y1 y2
      unfold shibbolethlaw21_PyurlKnown.l0
      repeat' first
      | (with_reducible exact ih0 _ _ _)
      | (with_reducible exact ih1 _ _ _)
      | (with_reducible exact pyurl_Parse.mono _ _)
      | (with_reducible exact shibbolethlaw21_awake.mono _)
      | (with_reducible exact shibbolethlaw21_field.mono _ _ _ _)
      | (with_reducible exact LeO.refl _)
      | (with_reducible exact LeO.none _)
      | (with_reducible refine LeO.ite ?_ ?_)
      | (with_reducible refine LeO.bind ?_ (fun _ => ?_))
      | exact ih0 _ _ _
      | exact ih1 _ _ _
      | exact pyurl_Parse.mono _ _
      | exact shibbolethlaw21_awake.mono _
      | exact shibbolethlaw21_field.mono _ _ _ _
      | exact LeO.none _
      | refine LeO.ite ?_ ?_
      | refine LeO.bind ?_ (fun _ => ?_)
    · intro y0 y1 y2
      unfold shibbolethlaw21_PyurlKnown.l1
      repeat' first
      | (with_reducible exact ih0 _ _ _)
      | (with_reducible exact ih1 _ _ _)
      | (with_reducible exact pyurl_Parse.mono _ _)
      | (with_reducible exact shibbolethlaw21_awake.mono _)
      | (with_reducible exact shibbolethlaw21_field.mono _ _ _ _)
      | (with_reducible exact LeO.refl _)
      | (with_reducible exact LeO.none _)
      | (with_reducible refine LeO.ite ?_ ?_)
      | (with_reducible refine LeO.bind ?_ (fun _ => ?_))
      | exact ih0 _ _ _
      | exact ih1 _ _ _
      | exact pyurl_Parse.mono _ _
      | exact shibbolethlaw21_awake.mono _
      | exact shibbolethlaw21_field.mono _ _ _ _
      | exact LeO.none _
      | refine LeO.ite ?_ ?_
      | refine LeO.bind ?_ (fun _ => ?_)
theorem shibbolethlaw21_PyurlKnown.mono : ∀ k, LeO (shibbolethlaw21_PyurlKnown.f k ) (shibbolethlaw21_PyurlKnown.f (k + 1) ) := by
  intro  k
  obtain ⟨ih0, ih1⟩ := shibbolethlaw21_PyurlKnown.mono_l k
  unfold shibbolethlaw21_PyurlKnown.f
  repeat' first
      | (with_reducible exact ih0 _ _ _)
      | (with_reducible exact ih1 _ _ _)
      | (with_reducible exact pyurl_Parse.mono _ _)
      | (with_reducible exact shibbolethlaw21_awake.mono _)
      | (with_reducible exact shibbolethlaw21_field.mono _ _ _ _)
      | (with_reducible exact LeO.refl _)
      | (with_reducible exact LeO.none _)
      | (with_reducible refine LeO.ite ?_ ?_)
      | (with_reducible refine LeO.bind ?_ (fun _ => ?_))
      | exact ih0 _ _ _
      | exact ih1 _ _ _
      | exact pyurl_Parse.mono _ _
      | exact shibbolethlaw21_awake.mono _
      | exact shibbolethlaw21_field.mono _ _ _ _
      | exact LeO.none _
      | refine LeO.ite ?_ ?_
      | refine LeO.bind ?_ (fun _ => ?_)
set_option maxHeartbeats 8000000 in
set_option maxRecDepth 100000 in
theorem shibbolethlaw21_PyurlKnown.calls (k : Nat)  (r : Bool) (w : World) (h : shibbolethlaw21_PyurlKnown.f k  = some r) :
    Calls Try.prog 4 #[] w fun e w' => e = .returned (.bool r) ∧ Below w.heap.size w w' := by
  have hu27 := Try.underlying27
  have hu24 := Try.underlying24
  have HB := Aside0.mk (Below.refl w.heap.size w)
  have H : ((some (([(⟨(⟨#[32, 47, 47, 120]⟩ : ByteArray), (⟨#[120]⟩ : ByteArray), (⟨#[]⟩ : ByteArray)⟩ : S27), (⟨(⟨#[47, 47, 97, 64, 98, 64, 99, 58, 100, 58, 101]⟩ : ByteArray), (⟨#[99]⟩ : ByteArray), (⟨#[]⟩ : ByteArray)⟩ : S27), (⟨(⟨#[47, 47, 120, 91, 97, 93, 98, 93, 99, 47]⟩ : ByteArray), (⟨#[97]⟩ : ByteArray), (⟨#[47]⟩ : ByteArray)⟩ : S27), (⟨(⟨#[47, 47, 97, 93, 64, 98]⟩ : ByteArray), (⟨#[98]⟩ : ByteArray), (⟨#[]⟩ : ByteArray)⟩ : S27), (⟨(⟨#[97, 58, 98]⟩ : ByteArray), (⟨#[]⟩ : ByteArray), (⟨#[98]⟩ : ByteArray)⟩ : S27), (⟨(⟨#[58, 97]⟩ : ByteArray), (⟨#[]⟩ : ByteArray), (⟨#[58, 97]⟩ : ByteArray)⟩ : S27), (⟨(⟨#[49, 58, 97]⟩ : ByteArray), (⟨#[]⟩ : ByteArray), (⟨#[49, 58, 97]⟩ : ByteArray)⟩ : S27), (⟨(⟨#[97, 9, 98]⟩ : ByteArray), (⟨#[]⟩ : ByteArray), (⟨#[97, 98]⟩ : ByteArray)⟩ : S27), (⟨(⟨#[104, 116, 116, 112, 58, 120]⟩ : ByteArray), (⟨#[]⟩ : ByteArray), (⟨#[120]⟩ : ByteArray)⟩ : S27), (⟨(⟨#[104, 47, 112, 58, 47, 47, 120]⟩ : ByteArray), (⟨#[]⟩ : ByteArray), (⟨#[104, 47, 112, 58, 47, 47, 120]⟩ : ByteArray)⟩ : S27), (⟨(⟨#[47, 47]⟩ : ByteArray), (⟨#[]⟩ : ByteArray), (⟨#[]⟩ : ByteArray)⟩ : S27), (⟨(⟨#[104, 116, 116, 112, 58, 47, 47]⟩ : ByteArray), (⟨#[]⟩ : ByteArray), (⟨#[]⟩ : ByteArray)⟩ : S27), (⟨(⟨#[]⟩ : ByteArray), (⟨#[]⟩ : ByteArray), (⟨#[]⟩ : ByteArray)⟩ : S27), (⟨(⟨#[10, 9, 32, 47, 13, 47, 120, 32]⟩ : ByteArray), (⟨#[120, 32]⟩ : ByteArray), (⟨#[]⟩ : ByteArray)⟩ : S27), (⟨(⟨#[47, 47, 91, 93]⟩ : ByteArray), (⟨#[]⟩ : ByteArray), (⟨#[]⟩ : ByteArray)⟩ : S27), (⟨(⟨#[63, 97]⟩ : ByteArray), (⟨#[]⟩ : ByteArray), (⟨#[]⟩ : ByteArray)⟩ : S27), (⟨(⟨#[97, 32, 98, 35]⟩ : ByteArray), (⟨#[]⟩ : ByteArray), (⟨#[97, 32, 98]⟩ : ByteArray)⟩ : S27), (⟨(⟨#[120, 43, 45, 46, 49, 58, 47, 47, 104, 35, 112]⟩ : ByteArray), (⟨#[104]⟩ : ByteArray), (⟨#[]⟩ : ByteArray)⟩ : S27)] : List (S27)) : List (S27))).bind fun y216 => (shibbolethlaw21_PyurlKnown.l0 k y216 (y216.length : Int) 0)) = some r := h
  clear h
  obtain ⟨y216, hy216⟩ : ∃ y_ : List (S27), y_ = (([(⟨(⟨#[32, 47, 47, 120]⟩ : ByteArray), (⟨#[120]⟩ : ByteArray), (⟨#[]⟩ : ByteArray)⟩ : S27), (⟨(⟨#[47, 47, 97, 64, 98, 64, 99, 58, 100, 58, 101]⟩ : ByteArray), (⟨#[99]⟩ : ByteArray), (⟨#[]⟩ : ByteArray)⟩ : S27), (⟨(⟨#[47, 47, 120, 91, 97, 93, 98, 93, 99, 47]⟩ : ByteArray), (⟨#[97]⟩ : ByteArray), (⟨#[47]⟩ : ByteArray)⟩ : S27), (⟨(⟨#[47, 47, 97, 93, 64, 98]⟩ : ByteArray), (⟨#[98]⟩ : ByteArray), (⟨#[]⟩ : ByteArray)⟩ : S27), (⟨(⟨#[97, 58, 98]⟩ : ByteArray), (⟨#[]⟩ : ByteArray), (⟨#[98]⟩ : ByteArray)⟩ : S27), (⟨(⟨#[58, 97]⟩ : ByteArray), (⟨#[]⟩ : ByteArray), (⟨#[58, 97]⟩ : ByteArray)⟩ : S27), (⟨(⟨#[49, 58, 97]⟩ : ByteArray), (⟨#[]⟩ : ByteArray), (⟨#[49, 58, 97]⟩ : ByteArray)⟩ : S27), (⟨(⟨#[97, 9, 98]⟩ : ByteArray), (⟨#[]⟩ : ByteArray), (⟨#[97, 98]⟩ : ByteArray)⟩ : S27), (⟨(⟨#[104, 116, 116, 112, 58, 120]⟩ : ByteArray), (⟨#[]⟩ : ByteArray), (⟨#[120]⟩ : ByteArray)⟩ : S27), (⟨(⟨#[104, 47, 112, 58, 47, 47, 120]⟩ : ByteArray), (⟨#[]⟩ : ByteArray), (⟨#[104, 47, 112, 58, 47, 47, 120]⟩ : ByteArray)⟩ : S27), (⟨(⟨#[47, 47]⟩ : ByteArray), (⟨#[]⟩ : ByteArray), (⟨#[]⟩ : ByteArray)⟩ : S27), (⟨(⟨#[104, 116, 116, 112, 58, 47, 47]⟩ : ByteArray), (⟨#[]⟩ : ByteArray), (⟨#[]⟩ : ByteArray)⟩ : S27), (⟨(⟨#[]⟩ : ByteArray), (⟨#[]⟩ : ByteArray), (⟨#[]⟩ : ByteArray)⟩ : S27), (⟨(⟨#[10, 9, 32, 47, 13, 47, 120, 32]⟩ : ByteArray), (⟨#[120, 32]⟩ : ByteArray), (⟨#[]⟩ : ByteArray)⟩ : S27), (⟨(⟨#[47, 47, 91, 93]⟩ : ByteArray), (⟨#[]⟩ : ByteArray), (⟨#[]⟩ : ByteArray)⟩ : S27), (⟨(⟨#[63, 97]⟩ : ByteArray), (⟨#[]⟩ : ByteArray), (⟨#[]⟩ : ByteArray)⟩ : S27), (⟨(⟨#[97, 32, 98, 35]⟩ : ByteArray), (⟨#[]⟩ : ByteArray), (⟨#[97, 32, 98]⟩ : ByteArray)⟩ : S27), (⟨(⟨#[120, 43, 45, 46, 49, 58, 47, 47, 104, 35, 112]⟩ : ByteArray), (⟨#[104]⟩ : ByteArray), (⟨#[]⟩ : ByteArray)⟩ : S27)] : List (S27))) := ⟨_, rfl⟩
  replace H : (shibbolethlaw21_PyurlKnown.l0 k y216 (y216.length : Int) 0) = some r := by first | (rw [hy216]; with_reducible exact H) | (have H2_ := (Option.bind_some _ _).symm.trans H; rw [hy216]; with_reducible exact H2_) | (have H2_ := (Option.bind_some _ _).symm.trans H; with_reducible exact H2_) | with_reducible exact H | (rw [hy216]; exact H) | exact H
  have Ny216 := Aside0.mk hy216
  clear hy216
  have H' := Aside0.mk H
  clear H
  go_enter Try.func4, Try.ntmps4
  go_wp2_with (first | ((with_reducible refine gate_dst (N := 23) rfl ?_); refine Kd.R_lit k27 _ 27 ?hg (N := 23) ?hd (xs := ([(⟨(⟨#[32, 47, 47, 120]⟩ : ByteArray), (⟨#[120]⟩ : ByteArray), (⟨#[]⟩ : ByteArray)⟩ : S27), (⟨(⟨#[47, 47, 97, 64, 98, 64, 99, 58, 100, 58, 101]⟩ : ByteArray), (⟨#[99]⟩ : ByteArray), (⟨#[]⟩ : ByteArray)⟩ : S27), (⟨(⟨#[47, 47, 120, 91, 97, 93, 98, 93, 99, 47]⟩ : ByteArray), (⟨#[97]⟩ : ByteArray), (⟨#[47]⟩ : ByteArray)⟩ : S27), (⟨(⟨#[47, 47, 97, 93, 64, 98]⟩ : ByteArray), (⟨#[98]⟩ : ByteArray), (⟨#[]⟩ : ByteArray)⟩ : S27), (⟨(⟨#[97, 58, 98]⟩ : ByteArray), (⟨#[]⟩ : ByteArray), (⟨#[98]⟩ : ByteArray)⟩ : S27), (⟨(⟨#[58, 97]⟩ : ByteArray), (⟨#[]⟩ : ByteArray), (⟨#[58, 97]⟩ : ByteArray)⟩ : S27), (⟨(⟨#[49, 58, 97]⟩ : ByteArray), (⟨#[]⟩ : ByteArray), (⟨#[49, 58, 97]⟩ : ByteArray)⟩ : S27), (⟨(⟨#[97, 9, 98]⟩ : ByteArray), (⟨#[]⟩ : ByteArray), (⟨#[97, 98]⟩ : ByteArray)⟩ : S27), (⟨(⟨#[104, 116, 116, 112, 58, 120]⟩ : ByteArray), (⟨#[]⟩ : ByteArray), (⟨#[120]⟩ : ByteArray)⟩ : S27), (⟨(⟨#[104, 47, 112, 58, 47, 47, 120]⟩ : ByteArray), (⟨#[]⟩ : ByteArray), (⟨#[104, 47, 112, 58, 47, 47, 120]⟩ : ByteArray)⟩ : S27), (⟨(⟨#[47, 47]⟩ : ByteArray), (⟨#[]⟩ : ByteArray), (⟨#[]⟩ : ByteArray)⟩ : S27), (⟨(⟨#[104, 116, 116, 112, 58, 47, 47]⟩ : ByteArray), (⟨#[]⟩ : ByteArray), (⟨#[]⟩ : ByteArray)⟩ : S27), (⟨(⟨#[]⟩ : ByteArray), (⟨#[]⟩ : ByteArray), (⟨#[]⟩ : ByteArray)⟩ : S27), (⟨(⟨#[10, 9, 32, 47, 13, 47, 120, 32]⟩ : ByteArray), (⟨#[120, 32]⟩ : ByteArray), (⟨#[]⟩ : ByteArray)⟩ : S27), (⟨(⟨#[47, 47, 91, 93]⟩ : ByteArray), (⟨#[]⟩ : ByteArray), (⟨#[]⟩ : ByteArray)⟩ : S27), (⟨(⟨#[63, 97]⟩ : ByteArray), (⟨#[]⟩ : ByteArray), (⟨#[]⟩ : ByteArray)⟩ : S27), (⟨(⟨#[97, 32, 98, 35]⟩ : ByteArray), (⟨#[]⟩ : ByteArray), (⟨#[97, 32, 98]⟩ : ByteArray)⟩ : S27), (⟨(⟨#[120, 43, 45, 46, 49, 58, 47, 47, 104, 35, 112]⟩ : ByteArray), (⟨#[104]⟩ : ByteArray), (⟨#[]⟩ : ByteArray)⟩ : S27)] : List (S27))) (inner := [.string (⟨#[32, 47, 47, 120]⟩ : ByteArray), .string (⟨#[120]⟩ : ByteArray), .string (⟨#[]⟩ : ByteArray), .string (⟨#[47, 47, 97, 64, 98, 64, 99, 58, 100, 58, 101]⟩ : ByteArray), .string (⟨#[99]⟩ : ByteArray), .string (⟨#[]⟩ : ByteArray), .string (⟨#[47, 47, 120, 91, 97, 93, 98, 93, 99, 47]⟩ : ByteArray), .string (⟨#[97]⟩ : ByteArray), .string (⟨#[47]⟩ : ByteArray), .string (⟨#[47, 47, 97, 93, 64, 98]⟩ : ByteArray), .string (⟨#[98]⟩ : ByteArray), .string (⟨#[]⟩ : ByteArray), .string (⟨#[97, 58, 98]⟩ : ByteArray), .string (⟨#[]⟩ : ByteArray), .string (⟨#[98]⟩ : ByteArray), .string (⟨#[58, 97]⟩ : ByteArray), .string (⟨#[]⟩ : ByteArray), .string (⟨#[58, 97]⟩ : ByteArray), .string (⟨#[49, 58, 97]⟩ : ByteArray), .string (⟨#[]⟩ : ByteArray), .string (⟨#[49, 58, 97]⟩ : ByteArray), .string (⟨#[97, 9, 98]⟩ : ByteArray), .string (⟨#[]⟩ : ByteArray), .string (⟨#[97, 98]⟩ : ByteArray), .string (⟨#[104, 116, 116, 112, 58, 120]⟩ : ByteArray), .string (⟨#[]⟩ : ByteArray), .string (⟨#[120]⟩ : ByteArray), .string (⟨#[104, 47, 112, 58, 47, 47, 120]⟩ : ByteArray), .string (⟨#[]⟩ : ByteArray), .string (⟨#[104, 47, 112, 58, 47, 47, 120]⟩ : ByteArray), .string (⟨#[47, 47]⟩ : ByteArray), .string (⟨#[]⟩ : ByteArray), .string (⟨#[]⟩ : ByteArray), .string (⟨#[104, 116, 116, 112, 58, 47, 47]⟩ : ByteArray), .string (⟨#[]⟩ : ByteArray), .string (⟨#[]⟩ : ByteArray), .string (⟨#[]⟩ : ByteArray), .string (⟨#[]⟩ : ByteArray), .string (⟨#[]⟩ : ByteArray), .string (⟨#[10, 9, 32, 47, 13, 47, 120, 32]⟩ : ByteArray), .string (⟨#[120, 32]⟩ : ByteArray), .string (⟨#[]⟩ : ByteArray), .string (⟨#[47, 47, 91, 93]⟩ : ByteArray), .string (⟨#[]⟩ : ByteArray), .string (⟨#[]⟩ : ByteArray), .string (⟨#[63, 97]⟩ : ByteArray), .string (⟨#[]⟩ : ByteArray), .string (⟨#[]⟩ : ByteArray), .string (⟨#[97, 32, 98, 35]⟩ : ByteArray), .string (⟨#[]⟩ : ByteArray), .string (⟨#[97, 32, 98]⟩ : ByteArray), .string (⟨#[120, 43, 45, 46, 49, 58, 47, 47, 104, 35, 112]⟩ : ByteArray), .string (⟨#[104]⟩ : ByteArray), .string (⟨#[]⟩ : ByteArray)]) (ok := fun _ => True) (okp := fun _ => True) ?hr ?hp (fun _ hk => hk) trivial (Below.refl _ _) (Nat.le_refl _) (by simp) ?_; (case hd => rfl); (case hg => rfl); (case hr => first | (go_simp; done) | (go_simp; rfl)); (case hp => exact (Reps.c3 (show Kd.M k27 _ _ _ (⟨(⟨#[32, 47, 47, 120]⟩ : ByteArray), (⟨#[120]⟩ : ByteArray), (⟨#[]⟩ : ByteArray)⟩ : S27) [.string (⟨#[32, 47, 47, 120]⟩ : ByteArray), .string (⟨#[120]⟩ : ByteArray), .string (⟨#[]⟩ : ByteArray)] from (k27_mkM _ _ _ (⟨(⟨#[32, 47, 47, 120]⟩ : ByteArray), (⟨#[120]⟩ : ByteArray), (⟨#[]⟩ : ByteArray)⟩ : S27) )) (Reps.c3 (show Kd.M k27 _ _ _ (⟨(⟨#[47, 47, 97, 64, 98, 64, 99, 58, 100, 58, 101]⟩ : ByteArray), (⟨#[99]⟩ : ByteArray), (⟨#[]⟩ : ByteArray)⟩ : S27) [.string (⟨#[47, 47, 97, 64, 98, 64, 99, 58, 100, 58, 101]⟩ : ByteArray), .string (⟨#[99]⟩ : ByteArray), .string (⟨#[]⟩ : ByteArray)] from (k27_mkM _ _ _ (⟨(⟨#[47, 47, 97, 64, 98, 64, 99, 58, 100, 58, 101]⟩ : ByteArray), (⟨#[99]⟩ : ByteArray), (⟨#[]⟩ : ByteArray)⟩ : S27) )) (Reps.c3 (show Kd.M k27 _ _ _ (⟨(⟨#[47, 47, 120, 91, 97, 93, 98, 93, 99, 47]⟩ : ByteArray), (⟨#[97]⟩ : ByteArray), (⟨#[47]⟩ : ByteArray)⟩ : S27) [.string (⟨#[47, 47, 120, 91, 97, 93, 98, 93, 99, 47]⟩ : ByteArray), .string (⟨#[97]⟩ : ByteArray), .string (⟨#[47]⟩ : ByteArray)] from (k27_mkM _ _ _ (⟨(⟨#[47, 47, 120, 91, 97, 93, 98, 93, 99, 47]⟩ : ByteArray), (⟨#[97]⟩ : ByteArray), (⟨#[47]⟩ : ByteArray)⟩ : S27) )) (Reps.c3 (show Kd.M k27 _ _ _ (⟨(⟨#[47, 47, 97, 93, 64, 98]⟩ : ByteArray), (⟨#[98]⟩ : ByteArray), (⟨#[]⟩ : ByteArray)⟩ : S27) [.string (⟨#[47, 47, 97, 93, 64, 98]⟩ : ByteArray), .string (⟨#[98]⟩ : ByteArray), .string (⟨#[]⟩ : ByteArray)] from (k27_mkM _ _ _ (⟨(⟨#[47, 47, 97, 93, 64, 98]⟩ : ByteArray), (⟨#[98]⟩ : ByteArray), (⟨#[]⟩ : ByteArray)⟩ : S27) )) (Reps.c3 (show Kd.M k27 _ _ _ (⟨(⟨#[97, 58, 98]⟩ : ByteArray), (⟨#[]⟩ : ByteArray), (⟨#[98]⟩ : ByteArray)⟩ : S27) [.string (⟨#[97, 58, 98]⟩ : ByteArray), .string (⟨#[]⟩ : ByteArray), .string (⟨#[98]⟩ : ByteArray)] from (k27_mkM _ _ _ (⟨(⟨#[97, 58, 98]⟩ : ByteArray), (⟨#[]⟩ : ByteArray), (⟨#[98]⟩ : ByteArray)⟩ : S27) )) (Reps.c3 (show Kd.M k27 _ _ _ (⟨(⟨#[58, 97]⟩ : ByteArray), (⟨#[]⟩ : ByteArray), (⟨#[58, 97]⟩ : ByteArray)⟩ : S27) [.string (⟨#[58, 97]⟩ : ByteArray), .string (⟨#[]⟩ : ByteArray), .string (⟨#[58, 97]⟩ : ByteArray)] from (k27_mkM _ _ _ (⟨(⟨#[58, 97]⟩ : ByteArray), (⟨#[]⟩ : ByteArray), (⟨#[58, 97]⟩ : ByteArray)⟩ : S27) )) (Reps.c3 (show Kd.M k27 _ _ _ (⟨(⟨#[49, 58, 97]⟩ : ByteArray), (⟨#[]⟩ : ByteArray), (⟨#[49, 58, 97]⟩ : ByteArray)⟩ : S27) [.string (⟨#[49, 58, 97]⟩ : ByteArray), .string (⟨#[]⟩ : ByteArray), .string (⟨#[49, 58, 97]⟩ : ByteArray)] from (k27_mkM _ _ _ (⟨(⟨#[49, 58, 97]⟩ : ByteArray), (⟨#[]⟩ : ByteArray), (⟨#[49, 58, 97]⟩ : ByteArray)⟩ : S27) )) (Reps.c3 (show Kd.M k27 _ _ _ (⟨(⟨#[97, 9, 98]⟩ : ByteArray), (⟨#[]⟩ : ByteArray), (⟨#[97, 98]⟩ : ByteArray)⟩ : S27) [.string (⟨#[97, 9, 98]⟩ : ByteArray), .string (⟨#[]⟩ : ByteArray), .string (⟨#[97, 98]⟩ : ByteArray)] from (k27_mkM _ _ _ (⟨(⟨#[97, 9, 98]⟩ : ByteArray), (⟨#[]⟩ : ByteArray), (⟨#[97, 98]⟩ : ByteArray)⟩ : S27) )) (Reps.c3 (show Kd.M k27 _ _ _ (⟨(⟨#[104, 116, 116, 112, 58, 120]⟩ : ByteArray), (⟨#[]⟩ : ByteArray), (⟨#[120]⟩ : ByteArray)⟩ : S27) [.string (⟨#[104, 116, 116, 112, 58, 120]⟩ : ByteArray), .string (⟨#[]⟩ : ByteArray), .string (⟨#[120]⟩ : ByteArray)] from (k27_mkM _ _ _ (⟨(⟨#[104, 116, 116, 112, 58, 120]⟩ : ByteArray), (⟨#[]⟩ : ByteArray), (⟨#[120]⟩ : ByteArray)⟩ : S27) )) (Reps.c3 (show Kd.M k27 _ _ _ (⟨(⟨#[104, 47, 112, 58, 47, 47, 120]⟩ : ByteArray), (⟨#[]⟩ : ByteArray), (⟨#[104, 47, 112, 58, 47, 47, 120]⟩ : ByteArray)⟩ : S27) [.string (⟨#[104, 47, 112, 58, 47, 47, 120]⟩ : ByteArray), .string (⟨#[]⟩ : ByteArray), .string (⟨#[104, 47, 112, 58, 47, 47, 120]⟩ : ByteArray)] from (k27_mkM _ _ _ (⟨(⟨#[104, 47, 112, 58, 47, 47, 120]⟩ : ByteArray), (⟨#[]⟩ : ByteArray), (⟨#[104, 47, 112, 58, 47, 47, 120]⟩ : ByteArray)⟩ : S27) )) (Reps.c3 (show Kd.M k27 _ _ _ (⟨(⟨#[47, 47]⟩ : ByteArray), (⟨#[]⟩ : ByteArray), (⟨#[]⟩ : ByteArray)⟩ : S27) [.string (⟨#[47, 47]⟩ : ByteArray), .string (⟨#[]⟩ : ByteArray), .string (⟨#[]⟩ : ByteArray)] from (k27_mkM _ _ _ (⟨(⟨#[47, 47]⟩ : ByteArray), (⟨#[]⟩ : ByteArray), (⟨#[]⟩ : ByteArray)⟩ : S27) )) (Reps.c3 (show Kd.M k27 _ _ _ (⟨(⟨#[104, 116, 116, 112, 58, 47, 47]⟩ : ByteArray), (⟨#[]⟩ : ByteArray), (⟨#[]⟩ : ByteArray)⟩ : S27) [.string (⟨#[104, 116, 116, 112, 58, 47, 47]⟩ : ByteArray), .string (⟨#[]⟩ : ByteArray), .string (⟨#[]⟩ : ByteArray)] from (k27_mkM _ _ _ (⟨(⟨#[104, 116, 116, 112, 58, 47, 47]⟩ : ByteArray), (⟨#[]⟩ : ByteArray), (⟨#[]⟩ : ByteArray)⟩ : S27) )) (Reps.c3 (show Kd.M k27 _ _ _ (⟨(⟨#[]⟩ : ByteArray), (⟨#[]⟩ : ByteArray), (⟨#[]⟩ : ByteArray)⟩ : S27) [.string (⟨#[]⟩ : ByteArray), .string (⟨#[]⟩ : ByteArray), .string (⟨#[]⟩ : ByteArray)] from (k27_mkM _ _ _ (⟨(⟨#[]⟩ : ByteArray), (⟨#[]⟩ : ByteArray), (⟨#[]⟩ : ByteArray)⟩ : S27) )) (Reps.c3 (show Kd.M k27 _ _ _ (⟨(⟨#[10, 9, 32, 47, 13, 47, 120, 32]⟩ : ByteArray), (⟨#[120, 32]⟩ : ByteArray), (⟨#[]⟩ : ByteArray)⟩ : S27) [.string (⟨#[10, 9, 32, 47, 13, 47, 120, 32]⟩ : ByteArray), .string (⟨#[120, 32]⟩ : ByteArray), .string (⟨#[]⟩ : ByteArray)] from (k27_mkM _ _ _ (⟨(⟨#[10, 9, 32, 47, 13, 47, 120, 32]⟩ : ByteArray), (⟨#[120, 32]⟩ : ByteArray), (⟨#[]⟩ : ByteArray)⟩ : S27) )) (Reps.c3 (show Kd.M k27 _ _ _ (⟨(⟨#[47, 47, 91, 93]⟩ : ByteArray), (⟨#[]⟩ : ByteArray), (⟨#[]⟩ : ByteArray)⟩ : S27) [.string (⟨#[47, 47, 91, 93]⟩ : ByteArray), .string (⟨#[]⟩ : ByteArray), .string (⟨#[]⟩ : ByteArray)] from (k27_mkM _ _ _ (⟨(⟨#[47, 47, 91, 93]⟩ : ByteArray), (⟨#[]⟩ : ByteArray), (⟨#[]⟩ : ByteArray)⟩ : S27) )) (Reps.c3 (show Kd.M k27 _ _ _ (⟨(⟨#[63, 97]⟩ : ByteArray), (⟨#[]⟩ : ByteArray), (⟨#[]⟩ : ByteArray)⟩ : S27) [.string (⟨#[63, 97]⟩ : ByteArray), .string (⟨#[]⟩ : ByteArray), .string (⟨#[]⟩ : ByteArray)] from (k27_mkM _ _ _ (⟨(⟨#[63, 97]⟩ : ByteArray), (⟨#[]⟩ : ByteArray), (⟨#[]⟩ : ByteArray)⟩ : S27) )) (Reps.c3 (show Kd.M k27 _ _ _ (⟨(⟨#[97, 32, 98, 35]⟩ : ByteArray), (⟨#[]⟩ : ByteArray), (⟨#[97, 32, 98]⟩ : ByteArray)⟩ : S27) [.string (⟨#[97, 32, 98, 35]⟩ : ByteArray), .string (⟨#[]⟩ : ByteArray), .string (⟨#[97, 32, 98]⟩ : ByteArray)] from (k27_mkM _ _ _ (⟨(⟨#[97, 32, 98, 35]⟩ : ByteArray), (⟨#[]⟩ : ByteArray), (⟨#[97, 32, 98]⟩ : ByteArray)⟩ : S27) )) (Reps.c3 (show Kd.M k27 _ _ _ (⟨(⟨#[120, 43, 45, 46, 49, 58, 47, 47, 104, 35, 112]⟩ : ByteArray), (⟨#[104]⟩ : ByteArray), (⟨#[]⟩ : ByteArray)⟩ : S27) [.string (⟨#[120, 43, 45, 46, 49, 58, 47, 47, 104, 35, 112]⟩ : ByteArray), .string (⟨#[104]⟩ : ByteArray), .string (⟨#[]⟩ : ByteArray)] from (k27_mkM _ _ _ (⟨(⟨#[120, 43, 45, 46, 49, 58, 47, 47, 104, 35, 112]⟩ : ByteArray), (⟨#[104]⟩ : ByteArray), (⟨#[]⟩ : ByteArray)⟩ : S27) )) (Reps.none _ _)))))))))))))))))))); intro v217 w1 ho2 hb hg_ hnew_; clear hg_ hnew_; (first | rw [← Ny216.out] at ho2 | (simp only [Int.reduceToNat] at ho2; rw [← Ny216.out] at ho2)); have n0_ := Aside0.mk (Kd.R_lower ho2 (below_size (by repeat (first | (with_reducible first | exact HB.out | apply below_alloc | apply pw_below_drewN | apply below_drew1) | exact HB.out)))); have n1_ := Aside0.mk (below_step (by repeat (first | (with_reducible first | exact HB.out | apply below_alloc | apply pw_below_drewN | apply below_drew1) | exact HB.out)) hb); clear HB; have HO218 := n0_; have HB := n1_; clear n0_ n1_; clear hb ho2; obtain ⟨Ao3, co3, eo3⟩ := Kd.R_slice HO218.out; subst eo3))
  go_loopg [25] k (fun kq v25 w' => ∃ (x25_1 : Int), v25 = .int .i64 x25_1 ∧ Aside0 (shibbolethlaw21_PyurlKnown.l0 kq y216 (y216.length : Int) x25_1 = some r) ∧ Aside0 (kq ≤ k) ∧ Aside0 (Kd.R k27 27 w' w.heap.size (fun _ => True) (.slice Ao3 y216.length co3) y216) ∧ Aside0 (Below w.heap.size w w'))
  case atStart => exact ⟨(0), (by first | rfl | (simp; done) | (simp [*]; done)), H', ⟨Nat.le_refl _⟩, ⟨by (with_reducible repeat (first | apply Kd.R_alloc | apply Kd.R_drewN | apply Kd.R_drew)); exact HO218.out⟩, ⟨by repeat (first | (with_reducible first | exact HB.out | apply below_alloc | apply pw_below_drewN | apply below_drew1) | exact HB.out)⟩⟩
  case round =>
    clear H'
    try clear p2
    try clear c3
    obtain ⟨x25_1, rfl, HA, HK1, HO_23, HB⟩ := hrel
    cases gk with
    | zero => exact absurd HA.out (by simp [shibbolethlaw21_PyurlKnown.l0])
    | succ k1 =>
      have H := HA.out
      clear HA
      simp only [shibbolethlaw21_PyurlKnown.l0] at H
      by_cases c4 : x25_1 < (y216.length : Int)
      · rw [if_pos c4] at H
        have c4b0 : decide (x25_1 < (y216.length : Int)) = true := decide_eq_true c4
        clear c4
        by_cases c5 : 0 ≤ x25_1
        · rw [if_pos c5] at H
          have c5b0 : decide (0 ≤ x25_1) = true := decide_eq_true c5
          clear c5
          by_cases c6 : x25_1 < (y216.length : Int)
          · rw [if_pos c6] at H
            have c6b0 : decide (x25_1 < (y216.length : Int)) = true := decide_eq_true c6
            clear c6
            replace H := Option.bind_eq_some_iff.mp H
            obtain ⟨t221, A70, H⟩ := H
            replace H : (if t221 = true then (shibbolethlaw21_PyurlKnown.l0 k1 y216 (y216.length : Int) (wrap64 (x25_1 + 1))) else (some false)) = some r := H
            have A7 := Aside0.mk A70
            clear A70
            by_cases c8 : t221 = true
            · subst c8
              have H1 : (shibbolethlaw21_PyurlKnown.l0 k1 y216 (y216.length : Int) (wrap64 (x25_1 + 1))) = some r := by rw [if_pos rfl] at H; exact H
              clear H
              have H := H1
              clear H1
              have H' := Aside0.mk H
              clear H
              have p219 : 0 ≤ (x25_1 : Int) := of_decide_eq_true (by first | (with_reducible assumption) | assumption)
              have q219 : x25_1 < (y216.length : Int) := of_decide_eq_true (by first | (with_reducible assumption) | assumption)
              obtain ⟨ad219, e219, hx219_0, hx219_1, hx219_2⟩ := at_T27 (Kd.R_reads' HO_23.out).2.2 x25_1 p219 q219
              cases e219
              replace p219 := eq_true p219
              replace q219 := eq_true q219
              go_wp2_with (first | ((with_reducible refine gate_dst (N := 2) rfl ?_); refine box_event ?hg (N := 2) ?hd (cs := #[.string (⟨#[]⟩ : ByteArray), .string (⟨#[]⟩ : ByteArray), .string (⟨#[]⟩ : ByteArray)]) (t := 27) ?hr ?_; (case hd => rfl); (case hg => rfl); (case hr => first | (go_simp; done) | (go_simp; rfl)); intro gb220 hg w9 hbox hb; have n0_ := Aside0.mk (Kd.R_below (Kd.R_elderB (by (with_reducible repeat (first | apply Kd.R_alloc | apply Kd.R_drewN | apply Kd.R_drew)); exact HO_23.out) gb220 (Nat.le_of_eq hg.symm)) hb); have n1_ := Aside0.mk (below_step (by repeat (first | (with_reducible first | exact HB.out | apply below_alloc | apply pw_below_drewN | apply below_drew1) | exact HB.out)) hb); have n2_ := Aside0.mk (hbox); have n3_ := Aside0.mk ((by rw [hg]; exact (below_size (by repeat (first | (with_reducible first | exact HB.out | apply below_alloc | apply pw_below_drewN | apply below_drew1) | exact HB.out))) : w.heap.size ≤ gb220)); have n4_ := Aside0.mk ((by rw [hg]; exact (below_size (by repeat (first | (with_reducible first | exact HB.out | apply below_alloc | apply pw_below_drewN | apply below_drew1) | exact HB.out))) : w.heap.size ≤ gb220)); clear HO_23; clear HB; have HO_23 := n0_; have HB := n1_; have BK220 := n2_; have GW220 := n3_; have GE220 := n4_; clear n0_ n1_ n2_ n3_ n4_; clear hb hbox hg; have hcz10_0 : w9.cell? ⟨gb220, 0, none⟩ = some (.string (⟨#[]⟩ : ByteArray)) := (blk_cell BK220.out 0).trans rfl; have hcz10_1 : w9.cell? ⟨gb220, 1, none⟩ = some (.string (⟨#[]⟩ : ByteArray)) := (blk_cell BK220.out 1).trans rfl; have hcz10_2 : w9.cell? ⟨gb220, 2, none⟩ = some (.string (⟨#[]⟩ : ByteArray)) := (blk_cell BK220.out 2).trans rfl; have hfz10_0 := blk_frozen BK220.out 0; have hfz10_1 := blk_frozen BK220.out 1; have hfz10_2 := blk_frozen BK220.out 2) | ((with_reducible refine gate_callee (f := 15) rfl ?_); refine goesL_ (some 35) rfl rfl Try.func15 (by kernel_rfl) rfl #[.string ((rd_T27 y216 x25_1).f0), .string ((rd_T27 y216 x25_1).f1), .string ((rd_T27 y216 x25_1).f2)] rfl (by (try simp only [List.map_toArray, List.map_cons, List.map_nil]); first | done | rfl | (simp only [List.length_drop, List.length_take]; rfl)) ?_; (with_reducible refine (shibbolethlaw21_field.calls k1 ((rd_T27 y216 x25_1).f0) ((rd_T27 y216 x25_1).f1) ((rd_T27 y216 x25_1).f2) true _ A7.out).mono ?_); rintro e w11 ⟨rfl, hb⟩; refine ⟨_, rfl, ?_⟩; have n0_ := Aside0.mk (Kd.R_below (by (with_reducible repeat (first | apply Kd.R_alloc | apply Kd.R_drewN | apply Kd.R_drew)); exact (Kd.R_mono (Kd.R_far (p := ⟨gb220, 2, none⟩) (Kd.R_far (p := ⟨gb220, 1, none⟩) (Kd.R_far (p := ⟨gb220, 0, none⟩) (Kd.R_mono HO_23.out (fun k_ hk => (⟨hk, hk.2⟩ : _ ∧ k_ ≠ gb220))) (fun _ hk => hk.2) (.string ((rd_T27 y216 x25_1).f0))) (fun _ hk => hk.2) (.string ((rd_T27 y216 x25_1).f1))) (fun _ hk => hk.2) (.string ((rd_T27 y216 x25_1).f2))) (fun _ h_ => h_.1))) hb); have n1_ := Aside0.mk (blk_below (g := gb220) (o := .cells #[.string ((rd_T27 y216 x25_1).f0), .string ((rd_T27 y216 x25_1).f1), .string ((rd_T27 y216 x25_1).f2)] 27 (0, 0)) (by (with_reducible repeat (first | refine blk_drewN ?_ _ | refine blk_drew ?_ | refine blk_alloc ?_ _)); refine blk_put (cs := #[.string ((rd_T27 y216 x25_1).f0), .string ((rd_T27 y216 x25_1).f1), .string (⟨#[]⟩ : ByteArray)]) ?_ 2 _ rfl; (with_reducible repeat (first | refine blk_drewN ?_ _ | refine blk_drew ?_ | refine blk_alloc ?_ _)); refine blk_put (cs := #[.string ((rd_T27 y216 x25_1).f0), .string (⟨#[]⟩ : ByteArray), .string (⟨#[]⟩ : ByteArray)]) ?_ 1 _ rfl; (with_reducible repeat (first | refine blk_drewN ?_ _ | refine blk_drew ?_ | refine blk_alloc ?_ _)); refine blk_put (cs := #[.string (⟨#[]⟩ : ByteArray), .string (⟨#[]⟩ : ByteArray), .string (⟨#[]⟩ : ByteArray)]) ?_ 0 _ rfl; (with_reducible repeat (first | refine blk_drewN ?_ _ | refine blk_drew ?_ | refine blk_alloc ?_ _)); exact BK220.out) hb); have n2_ := Aside0.mk (below_step (by repeat (first | (with_reducible first | exact HB.out | apply below_alloc | apply pw_below_drewN | apply below_drew1 | refine below_set ?_ GE220.out) | exact HB.out)) hb); clear HO_23; clear BK220; clear HB; have HO_23 := n0_; have BK220 := n1_; have HB := n2_; clear n0_ n1_ n2_; (try clear hb); (try clear hb2); (try clear hk); (try clear hi)))
              go_roundg k1
              case measure => have := HK1.out; omega
              case rel => exact ⟨(wrap64 (x25_1 + 1)), (by first | rfl | (simp; done) | (simp [*]; done)), H', ⟨by have := HK1.out; omega⟩, ⟨by (with_reducible repeat (first | apply Kd.R_alloc | apply Kd.R_drewN | apply Kd.R_drew)); exact Kd.R_mono HO_23.out (fun _ hk => trivial)⟩, ⟨by repeat (first | (with_reducible first | exact HB.out | apply below_alloc | apply pw_below_drewN | apply below_drew1 | refine below_set ?_ GE220.out) | exact HB.out)⟩⟩
            · replace c8 := Bool.eq_false_iff.mpr c8
              subst c8
              have H1 : (some false) = some r := by rw [if_neg (show ¬ (false = true) by decide)] at H; exact H
              clear H
              have H := H1
              clear H1
              obtain rfl := Option.some.inj H
              have p219 : 0 ≤ (x25_1 : Int) := of_decide_eq_true (by first | (with_reducible assumption) | assumption)
              have q219 : x25_1 < (y216.length : Int) := of_decide_eq_true (by first | (with_reducible assumption) | assumption)
              obtain ⟨ad219, e219, hx219_0, hx219_1, hx219_2⟩ := at_T27 (Kd.R_reads' HO_23.out).2.2 x25_1 p219 q219
              cases e219
              replace p219 := eq_true p219
              replace q219 := eq_true q219
              go_wp2_with (first | ((with_reducible refine gate_dst (N := 2) rfl ?_); refine box_event ?hg (N := 2) ?hd (cs := #[.string (⟨#[]⟩ : ByteArray), .string (⟨#[]⟩ : ByteArray), .string (⟨#[]⟩ : ByteArray)]) (t := 27) ?hr ?_; (case hd => rfl); (case hg => rfl); (case hr => first | (go_simp; done) | (go_simp; rfl)); intro gb220 hg w12 hbox hb; have n0_ := Aside0.mk (Kd.R_below (Kd.R_elderB (by (with_reducible repeat (first | apply Kd.R_alloc | apply Kd.R_drewN | apply Kd.R_drew)); exact HO_23.out) gb220 (Nat.le_of_eq hg.symm)) hb); have n1_ := Aside0.mk (below_step (by repeat (first | (with_reducible first | exact HB.out | apply below_alloc | apply pw_below_drewN | apply below_drew1) | exact HB.out)) hb); have n2_ := Aside0.mk (hbox); have n3_ := Aside0.mk ((by rw [hg]; exact (below_size (by repeat (first | (with_reducible first | exact HB.out | apply below_alloc | apply pw_below_drewN | apply below_drew1) | exact HB.out))) : w.heap.size ≤ gb220)); have n4_ := Aside0.mk ((by rw [hg]; exact (below_size (by repeat (first | (with_reducible first | exact HB.out | apply below_alloc | apply pw_below_drewN | apply below_drew1) | exact HB.out))) : w.heap.size ≤ gb220)); clear HO_23; clear HB; have HO_23 := n0_; have HB := n1_; have BK220 := n2_; have GW220 := n3_; have GE220 := n4_; clear n0_ n1_ n2_ n3_ n4_; clear hb hbox hg; have hcz13_0 : w12.cell? ⟨gb220, 0, none⟩ = some (.string (⟨#[]⟩ : ByteArray)) := (blk_cell BK220.out 0).trans rfl; have hcz13_1 : w12.cell? ⟨gb220, 1, none⟩ = some (.string (⟨#[]⟩ : ByteArray)) := (blk_cell BK220.out 1).trans rfl; have hcz13_2 : w12.cell? ⟨gb220, 2, none⟩ = some (.string (⟨#[]⟩ : ByteArray)) := (blk_cell BK220.out 2).trans rfl; have hfz13_0 := blk_frozen BK220.out 0; have hfz13_1 := blk_frozen BK220.out 1; have hfz13_2 := blk_frozen BK220.out 2) | ((with_reducible refine gate_callee (f := 15) rfl ?_); refine goesL_ (some 35) rfl rfl Try.func15 (by kernel_rfl) rfl #[.string ((rd_T27 y216 x25_1).f0), .string ((rd_T27 y216 x25_1).f1), .string ((rd_T27 y216 x25_1).f2)] rfl (by (try simp only [List.map_toArray, List.map_cons, List.map_nil]); first | done | rfl | (simp only [List.length_drop, List.length_take]; rfl)) ?_; (with_reducible refine (shibbolethlaw21_field.calls k1 ((rd_T27 y216 x25_1).f0) ((rd_T27 y216 x25_1).f1) ((rd_T27 y216 x25_1).f2) false _ A7.out).mono ?_); rintro e w14 ⟨rfl, hb⟩; refine ⟨_, rfl, ?_⟩; have n0_ := Aside0.mk (Kd.R_below (by (with_reducible repeat (first | apply Kd.R_alloc | apply Kd.R_drewN | apply Kd.R_drew)); exact (Kd.R_mono (Kd.R_far (p := ⟨gb220, 2, none⟩) (Kd.R_far (p := ⟨gb220, 1, none⟩) (Kd.R_far (p := ⟨gb220, 0, none⟩) (Kd.R_mono HO_23.out (fun k_ hk => (⟨hk, hk.2⟩ : _ ∧ k_ ≠ gb220))) (fun _ hk => hk.2) (.string ((rd_T27 y216 x25_1).f0))) (fun _ hk => hk.2) (.string ((rd_T27 y216 x25_1).f1))) (fun _ hk => hk.2) (.string ((rd_T27 y216 x25_1).f2))) (fun _ h_ => h_.1))) hb); have n1_ := Aside0.mk (blk_below (g := gb220) (o := .cells #[.string ((rd_T27 y216 x25_1).f0), .string ((rd_T27 y216 x25_1).f1), .string ((rd_T27 y216 x25_1).f2)] 27 (0, 0)) (by (with_reducible repeat (first | refine blk_drewN ?_ _ | refine blk_drew ?_ | refine blk_alloc ?_ _)); refine blk_put (cs := #[.string ((rd_T27 y216 x25_1).f0), .string ((rd_T27 y216 x25_1).f1), .string (⟨#[]⟩ : ByteArray)]) ?_ 2 _ rfl; (with_reducible repeat (first | refine blk_drewN ?_ _ | refine blk_drew ?_ | refine blk_alloc ?_ _)); refine blk_put (cs := #[.string ((rd_T27 y216 x25_1).f0), .string (⟨#[]⟩ : ByteArray), .string (⟨#[]⟩ : ByteArray)]) ?_ 1 _ rfl; (with_reducible repeat (first | refine blk_drewN ?_ _ | refine blk_drew ?_ | refine blk_alloc ?_ _)); refine blk_put (cs := #[.string (⟨#[]⟩ : ByteArray), .string (⟨#[]⟩ : ByteArray), .string (⟨#[]⟩ : ByteArray)]) ?_ 0 _ rfl; (with_reducible repeat (first | refine blk_drewN ?_ _ | refine blk_drew ?_ | refine blk_alloc ?_ _)); exact BK220.out) hb); have n2_ := Aside0.mk (below_step (by repeat (first | (with_reducible first | exact HB.out | apply below_alloc | apply pw_below_drewN | apply below_drew1 | refine below_set ?_ GE220.out) | exact HB.out)) hb); clear HO_23; clear BK220; clear HB; have HO_23 := n0_; have BK220 := n1_; have HB := n2_; clear n0_ n1_ n2_; (try clear hb); (try clear hb2); (try clear hk); (try clear hi)))
              go_ret
              exact ⟨by first | rfl | (simp [errW_none, errW_some] <;> rfl) | (simp [*, errW_none, errW_some] <;> rfl), by repeat (first | (with_reducible first | exact HB.out | apply below_alloc | apply pw_below_drewN | apply below_drew1 | refine below_set ?_ GE220.out) | exact HB.out)⟩
          · rw [if_neg c6] at H
            exact absurd H (by simp)
        · rw [if_neg c5] at H
          exact absurd H (by simp)
      · rw [if_neg c4] at H
        have c4b0 : decide (x25_1 < (y216.length : Int)) = false := decide_eq_false c4
        clear c4
        obtain ⟨y222, hy222⟩ : ∃ y_ : List ByteArray, y_ = (([(⟨#[47, 47, 91, 97]⟩ : ByteArray), (⟨#[47, 47, 97, 93]⟩ : ByteArray), (⟨#[47, 47, 97, 93, 91]⟩ : ByteArray), (⟨#[104, 116, 116, 112, 58, 47, 47, 93, 47]⟩ : ByteArray)] : List ByteArray)) := ⟨_, rfl⟩
        replace H : (shibbolethlaw21_PyurlKnown.l1 k1 y222 (y222.length : Int) 0) = some r := by first | (rw [hy222]; with_reducible exact H) | (have H2_ := (Option.bind_some _ _).symm.trans H; rw [hy222]; with_reducible exact H2_) | (have H2_ := (Option.bind_some _ _).symm.trans H; with_reducible exact H2_) | with_reducible exact H | (rw [hy222]; exact H) | exact H
        have Ny222 := Aside0.mk hy222
        clear hy222
        have H' := Aside0.mk H
        clear H
        go_wp2_with (first | ((with_reducible refine gate_dst (N := 38) rfl ?_); refine Kd.R_lit Kd.string _ 9 ?hg (N := 38) ?hd (xs := ([(⟨#[47, 47, 91, 97]⟩ : ByteArray), (⟨#[47, 47, 97, 93]⟩ : ByteArray), (⟨#[47, 47, 97, 93, 91]⟩ : ByteArray), (⟨#[104, 116, 116, 112, 58, 47, 47, 93, 47]⟩ : ByteArray)] : List ByteArray)) (inner := [.string (⟨#[47, 47, 91, 97]⟩ : ByteArray), .string (⟨#[47, 47, 97, 93]⟩ : ByteArray), .string (⟨#[47, 47, 97, 93, 91]⟩ : ByteArray), .string (⟨#[104, 116, 116, 112, 58, 47, 47, 93, 47]⟩ : ByteArray)]) (ok := fun _ => True) (okp := fun _ => True) ?hr ?hp (fun _ hk => hk) trivial (Below.refl _ _) (Nat.le_refl _) (by simp) ?_; (case hd => rfl); (case hg => rfl); (case hr => first | (go_simp; done) | (go_simp; rfl)); (case hp => exact (Reps.one (show Kd.M Kd.string _ _ _ (⟨#[47, 47, 91, 97]⟩ : ByteArray) [.string (⟨#[47, 47, 91, 97]⟩ : ByteArray)] from rfl) (Reps.one (show Kd.M Kd.string _ _ _ (⟨#[47, 47, 97, 93]⟩ : ByteArray) [.string (⟨#[47, 47, 97, 93]⟩ : ByteArray)] from rfl) (Reps.one (show Kd.M Kd.string _ _ _ (⟨#[47, 47, 97, 93, 91]⟩ : ByteArray) [.string (⟨#[47, 47, 97, 93, 91]⟩ : ByteArray)] from rfl) (Reps.one (show Kd.M Kd.string _ _ _ (⟨#[104, 116, 116, 112, 58, 47, 47, 93, 47]⟩ : ByteArray) [.string (⟨#[104, 116, 116, 112, 58, 47, 47, 93, 47]⟩ : ByteArray)] from rfl) (Reps.none _ _)))))); intro v223 w15 ho16 hb hg_ hnew_; clear hg_ hnew_; (first | rw [← Ny222.out] at ho16 | (simp only [Int.reduceToNat] at ho16; rw [← Ny222.out] at ho16)); have n0_ := Aside0.mk (Kd.R_below (by (with_reducible repeat (first | apply Kd.R_alloc | apply Kd.R_drewN | apply Kd.R_drew)); exact HO_23.out) hb); have n1_ := Aside0.mk (Kd.R_lower ho16 (below_size (by repeat (first | (with_reducible first | exact HB.out | apply below_alloc | apply pw_below_drewN | apply below_drew1) | exact HB.out)))); have n2_ := Aside0.mk (below_step (by repeat (first | (with_reducible first | exact HB.out | apply below_alloc | apply pw_below_drewN | apply below_drew1) | exact HB.out)) hb); clear HO_23; clear HB; have HO_23 := n0_; have HO224 := n1_; have HB := n2_; clear n0_ n1_ n2_; clear hb ho16; obtain ⟨Ao17, co17, eo17⟩ := Kd.R_slice HO224.out; subst eo17))
        go_loopg [40] k1 (fun kq v40 w' => ∃ (x40_2 : Int), v40 = .int .i64 x40_2 ∧ Aside0 (shibbolethlaw21_PyurlKnown.l1 kq y222 (y222.length : Int) x40_2 = some r) ∧ Aside0 (kq ≤ k1) ∧ Aside0 (Kd.R Kd.string 9 w' w.heap.size (fun _ => True) (.slice Ao17 y222.length co17) y222) ∧ Aside0 (Below w.heap.size w w'))
        case atStart => exact ⟨(0), (by first | rfl | (simp; done) | (simp [*]; done)), H', ⟨Nat.le_refl _⟩, ⟨by (with_reducible repeat (first | apply Kd.R_alloc | apply Kd.R_drewN | apply Kd.R_drew)); exact HO224.out⟩, ⟨by repeat (first | (with_reducible first | exact HB.out | apply below_alloc | apply pw_below_drewN | apply below_drew1) | exact HB.out)⟩⟩
        case round =>
          clear H'
          try clear c1
          try clear p2
          try clear q2
          try clear hx2
          try clear c3
          try clear c4
          try clear c4b0
          try clear c5
          try clear c5b0
          try clear c6
          try clear c6b0
          try clear p6
          try clear c8
          try clear c15
          try clear hcz10_0
          try clear hcz10_1
          try clear hcz10_2
          try clear hcz13_0
          try clear hcz13_1
          try clear hcz13_2
          try clear hfz10_0
          try clear hfz10_1
          try clear hfz10_2
          try clear hfz13_0
          try clear hfz13_1
          try clear hfz13_2
          try clear hx219_0
          try clear hx219_1
          try clear hx219_2
          try clear p2
          try clear p219
          try clear q219
          obtain ⟨x40_2, rfl, HA, HK2, HO_38, HB⟩ := hrel
          cases gk with
          | zero => exact absurd HA.out (by simp [shibbolethlaw21_PyurlKnown.l1])
          | succ k2 =>
            have H := HA.out
            clear HA
            simp only [shibbolethlaw21_PyurlKnown.l1] at H
            by_cases c18 : x40_2 < (y222.length : Int)
            · rw [if_pos c18] at H
              have c18b0 : decide (x40_2 < (y222.length : Int)) = true := decide_eq_true c18
              clear c18
              by_cases c19 : 0 ≤ x40_2
              · rw [if_pos c19] at H
                have c19b0 : decide (0 ≤ x40_2) = true := decide_eq_true c19
                clear c19
                by_cases c20 : x40_2 < (y222.length : Int)
                · rw [if_pos c20] at H
                  have c20b0 : decide (x40_2 < (y222.length : Int)) = true := decide_eq_true c20
                  clear c20
                  replace H := Option.bind_eq_some_iff.mp H
                  obtain ⟨⟨t226, t227, t228⟩, A210, H⟩ := H
                  replace H : (if (t226 || (!(t227.toList == ([] : List UInt8)) || (!(t228.toList == ([] : List UInt8))))) = true then (some false) else (shibbolethlaw21_PyurlKnown.l1 k2 y222 (y222.length : Int) (wrap64 (x40_2 + 1)))) = some r := H
                  have A21 := Aside0.mk A210
                  clear A210
                  by_cases c22 : (t226 || (!(t227.toList == ([] : List UInt8)) || (!(t228.toList == ([] : List UInt8))))) = true
                  · rw [if_pos c22] at H
                    have c22b0 : (t226 || (!(t227.toList == ([] : List UInt8)) || (!(t228.toList == ([] : List UInt8))))) = true := c22
                    (try (have c22b1 : (t226 || (!((t227).toList.isEmpty) || (!((t228).toList.isEmpty)))) = true := by simpa using c22))
                    clear c22
                    obtain rfl := Option.some.inj H
                    have p225 : 0 ≤ (x40_2 : Int) := of_decide_eq_true (by first | (with_reducible assumption) | assumption)
                    have q225 : x40_2 < (y222.length : Int) := of_decide_eq_true (by first | (with_reducible assumption) | assumption)
                    obtain ⟨ad225, e225, hx225_0⟩ := Kd.at_string (Kd.R_reads' HO_38.out).2.2 x40_2 p225 q225
                    cases e225
                    replace p225 := eq_true p225
                    replace q225 := eq_true q225
                    go_wp2_with (first | ((with_reducible refine gate_callee (f := 13) rfl ?_); refine goesL_ (some 45) rfl rfl Try.func13 (by kernel_rfl) rfl #[.string (rdOf ByteArray.empty y222 x40_2)] rfl (by (try simp only [List.map_toArray, List.map_cons, List.map_nil]); first | done | rfl | (simp only [List.length_drop, List.length_take]; rfl)) ?_; (with_reducible refine (pyurl_Parse.calls k2 (rdOf ByteArray.empty y222 x40_2) t226 t227 t228 _ A21.out).mono ?_); rintro e w23 ⟨rfl, hb⟩; refine ⟨_, rfl, ?_⟩; have n0_ := Aside0.mk (Kd.R_below (by (with_reducible repeat (first | apply Kd.R_alloc | apply Kd.R_drewN | apply Kd.R_drew)); exact HO_38.out) hb); have n1_ := Aside0.mk (below_step (by repeat (first | (with_reducible first | exact HB.out | apply below_alloc | apply pw_below_drewN | apply below_drew1) | exact HB.out)) hb); clear HO_38; clear HB; have HO_38 := n0_; have HB := n1_; clear n0_ n1_; (try clear hb); (try clear hb2); (try clear hk); (try clear hi)))
                    go_ret
                    exact ⟨by first | rfl | (simp [errW_none, errW_some] <;> rfl) | (simp [*, errW_none, errW_some] <;> rfl), by repeat (first | (with_reducible first | exact HB.out | apply below_alloc | apply pw_below_drewN | apply below_drew1) | exact HB.out)⟩
                  · rw [if_neg c22] at H
                    have c22b0 : (t226 || (!(t227.toList == ([] : List UInt8)) || (!(t228.toList == ([] : List UInt8))))) = false := by simpa using c22
                    (try (have c22b1 : (t226 || (!((t227).toList.isEmpty) || (!((t228).toList.isEmpty)))) = false := by simpa using c22))
                    clear c22
                    have H' := Aside0.mk H
                    clear H
                    have p225 : 0 ≤ (x40_2 : Int) := of_decide_eq_true (by first | (with_reducible assumption) | assumption)
                    have q225 : x40_2 < (y222.length : Int) := of_decide_eq_true (by first | (with_reducible assumption) | assumption)
                    obtain ⟨ad225, e225, hx225_0⟩ := Kd.at_string (Kd.R_reads' HO_38.out).2.2 x40_2 p225 q225
                    cases e225
                    replace p225 := eq_true p225
                    replace q225 := eq_true q225
                    go_wp2_with (first | ((with_reducible refine gate_callee (f := 13) rfl ?_); refine goesL_ (some 45) rfl rfl Try.func13 (by kernel_rfl) rfl #[.string (rdOf ByteArray.empty y222 x40_2)] rfl (by (try simp only [List.map_toArray, List.map_cons, List.map_nil]); first | done | rfl | (simp only [List.length_drop, List.length_take]; rfl)) ?_; (with_reducible refine (pyurl_Parse.calls k2 (rdOf ByteArray.empty y222 x40_2) t226 t227 t228 _ A21.out).mono ?_); rintro e w24 ⟨rfl, hb⟩; refine ⟨_, rfl, ?_⟩; have n0_ := Aside0.mk (Kd.R_below (by (with_reducible repeat (first | apply Kd.R_alloc | apply Kd.R_drewN | apply Kd.R_drew)); exact HO_38.out) hb); have n1_ := Aside0.mk (below_step (by repeat (first | (with_reducible first | exact HB.out | apply below_alloc | apply pw_below_drewN | apply below_drew1) | exact HB.out)) hb); clear HO_38; clear HB; have HO_38 := n0_; have HB := n1_; clear n0_ n1_; (try clear hb); (try clear hb2); (try clear hk); (try clear hi)))
                    go_roundg k2
                    case measure => have := HK1.out; have := HK2.out; omega
                    case rel => exact ⟨(wrap64 (x40_2 + 1)), (by first | rfl | (simp; done) | (simp [*]; done)), H', ⟨by have := HK1.out; have := HK2.out; omega⟩, ⟨by (with_reducible repeat (first | apply Kd.R_alloc | apply Kd.R_drewN | apply Kd.R_drew)); exact HO_38.out⟩, ⟨by repeat (first | (with_reducible first | exact HB.out | apply below_alloc | apply pw_below_drewN | apply below_drew1) | exact HB.out)⟩⟩
                · rw [if_neg c20] at H
                  exact absurd H (by simp)
              · rw [if_neg c19] at H
                exact absurd H (by simp)
            · rw [if_neg c18] at H
              have c18b0 : decide (x40_2 < (y222.length : Int)) = false := decide_eq_false c18
              clear c18
              replace H := Option.bind_eq_some_iff.mp H
              obtain ⟨t229, A250, H⟩ := H
              replace H : (some t229) = some r := H
              have A25 := Aside0.mk A250
              clear A250
              obtain rfl := Option.some.inj H
              go_wp2_with (first | ((with_reducible refine gate_callee (f := 12) rfl ?_); refine goesL_ (some 49) rfl rfl Try.func12 (by kernel_rfl) rfl #[] rfl (by (try simp only [List.map_toArray, List.map_cons, List.map_nil]); first | done | rfl | (simp only [List.length_drop, List.length_take]; rfl)) ?_; (with_reducible refine (shibbolethlaw21_awake.calls k2  t229 _ A25.out).mono ?_); rintro e w26 ⟨rfl, hb⟩; refine ⟨_, rfl, ?_⟩; have n0_ := Aside0.mk (Kd.R_below (by (with_reducible repeat (first | apply Kd.R_alloc | apply Kd.R_drewN | apply Kd.R_drew)); exact HO_38.out) hb); have n1_ := Aside0.mk (below_step (by repeat (first | (with_reducible first | exact HB.out | apply below_alloc | apply pw_below_drewN | apply below_drew1) | exact HB.out)) hb); clear HO_38; clear HB; have HO_38 := n0_; have HB := n1_; clear n0_ n1_; (try clear hb); (try clear hb2); (try clear hk); (try clear hi)))
              go_ret
              exact ⟨by first | rfl | (simp [errW_none, errW_some] <;> rfl) | (simp [*, errW_none, errW_some] <;> rfl), by repeat (first | (with_reducible first | exact HB.out | apply below_alloc | apply pw_below_drewN | apply below_drew1) | exact HB.out)⟩

/-- THE ONE PURE STATEMENT of shibbolethlaw21_PyurlKnown: yours. -/
def shibbolethlaw21_PyurlKnown.Pure : Prop := ∃ k, shibbolethlaw21_PyurlKnown.f k  = some true
theorem shibbolethlaw21_PyurlKnown.walk (P : shibbolethlaw21_PyurlKnown.Pure)  (w : World)  :
    Calls Try.prog 4 #[] w fun e w' => e = .returned (.bool true) ∧ Below w.heap.size w w' := by
  obtain ⟨k, h⟩ := P  
  refine (shibbolethlaw21_PyurlKnown.calls k  true w h).mono ?_
  rintro e w' ⟨rfl, hd⟩
  exact ⟨rfl, hd⟩

end Go.Proofs.Ytbjfcnhaedhbaaa.ZA

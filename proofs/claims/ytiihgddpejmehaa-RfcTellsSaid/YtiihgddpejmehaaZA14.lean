/- My own print (tools/mp.py). -/
import Derived.Test.YtiihgddpejmehaaZA0
import Derived.Test.YtiihgddpejmehaaZA9
import Derived.Test.YtiihgddpejmehaaZA10
import Derived.Test.YtiihgddpejmehaaZA13
namespace Go.Proofs.Ytiihgddpejmehaa.ZA
open Go.RowKit Go.Proofs.YtiihgddpejmehaaW.PrintWords Go.Proofs.YtiihgddpejmehaaW.PrintLast Go.Proofs.YtiihgddpejmehaaW.PrintMore
attribute [local go_sem] max2_int min2_int max_two min_two max_three min_three max_four min_four   -- for this text's walks alone
set_option linter.unusedVariables false
set_option linter.unusedSimpArgs false

/-! ### r19_heads: function 30 -/
mutual
def r19_heads.l0 : Nat → ByteArray → List (S24) → Int → Option ((List (S24)))
 | 0, _, _, _ => none
 | k + 1, x0, x3, x4 => if x4 ≤ (x0.size : Int) then (if x4 > 0 then (if 0 ≤ (wrap64 (x4 - 1)) then (if (wrap64 (x4 - 1)) < (x0.size : Int) then (if (bt x0 (wrap64 (x4 - 1))) = 58 then (if (wrap64 (x4 - 1)) ≤ (x0.size : Int) then ((r19_isScheme.f k (x0.extract 0 ((wrap64 (x4 - 1)) : Int).toNat)).bind fun t323 => (r19_heads.j1 k x0 x3 x4 (!t323))) else (none)) else (r19_heads.j1 k x0 x3 x4 true)) else (none)) else (none)) else (r19_heads.j1 k x0 x3 x4 false)) else (some x3)
def r19_heads.j1 : Nat → ByteArray → List (S24) → Int → Bool → Option ((List (S24)))
 | 0, _, _, _, _ => none
 | k + 1, x0, x3, x4, x31 => if x31 = true then (r19_heads.l0 k x0 x3 (wrap64 (x4 + 1))) else (if 0 ≤ x4 then (if x4 ≤ (x0.size : Int) then (if ((x0.extract (x4 : Int).toNat x0.size).size : Int) < 2 then (r19_heads.j2 k x0 x3 x4 (x0.extract (x4 : Int).toNat x0.size) true) else (if 0 < ((x0.extract (x4 : Int).toNat x0.size).size : Int) then (if (bt (x0.extract (x4 : Int).toNat x0.size) 0) = 47 then (if 1 < ((x0.extract (x4 : Int).toNat x0.size).size : Int) then (r19_heads.j2 k x0 x3 x4 (x0.extract (x4 : Int).toNat x0.size) ((bt (x0.extract (x4 : Int).toNat x0.size) 1) != 47)) else (none)) else (r19_heads.j2 k x0 x3 x4 (x0.extract (x4 : Int).toNat x0.size) true)) else (none))) else (none)) else (none))
def r19_heads.j2 : Nat → ByteArray → List (S24) → Int → ByteArray → Bool → Option ((List (S24)))
 | 0, _, _, _, _, _ => none
 | k + 1, x0, x3, x4, x5, x47 => if x47 = true then ((r19_named.f k x5 (⟨#[58, 64, 47]⟩ : ByteArray)).bind fun t324 => (if t324 = true then (if x4 > 0 then (if x3.length < 3518437208883 then (r19_heads.l0 k x0 (x3 ++ [(⟨true, (⟨#[]⟩ : ByteArray), x5⟩ : S24)]) (wrap64 (x4 + 1))) else (none)) else ((r19_relative.f k x5).bind fun t328 => (if t328 = true then (if x3.length < 3518437208883 then (r19_heads.l0 k x0 (x3 ++ [(⟨true, (⟨#[]⟩ : ByteArray), x5⟩ : S24)]) (wrap64 (x4 + 1))) else (none)) else (r19_heads.l0 k x0 x3 (wrap64 (x4 + 1)))))) else (r19_heads.l0 k x0 x3 (wrap64 (x4 + 1))))) else (r19_heads.l1 k x0 x3 x4 x5 2)
def r19_heads.l1 : Nat → ByteArray → List (S24) → Int → ByteArray → Int → Option ((List (S24)))
 | 0, _, _, _, _, _ => none
 | k + 1, x0, x3, x4, x5, x6 => if x6 ≤ (x5.size : Int) then (if x6 < (x5.size : Int) then (if 0 ≤ x6 then (if (bt x5 x6) = 47 then ((r19_named.f k (x5.extract (x6 : Int).toNat x5.size) (⟨#[58, 64, 47]⟩ : ByteArray)).bind fun t332 => (r19_heads.j4 k x0 x3 x4 x5 x6 (!t332))) else (r19_heads.j4 k x0 x3 x4 x5 x6 true)) else (none)) else (if 0 ≤ x6 then ((r19_named.f k (x5.extract (x6 : Int).toNat x5.size) (⟨#[58, 64, 47]⟩ : ByteArray)).bind fun t333 => (r19_heads.j4 k x0 x3 x4 x5 x6 (!t333))) else (none))) else (r19_heads.l0 k x0 x3 (wrap64 (x4 + 1)))
def r19_heads.j4 : Nat → ByteArray → List (S24) → Int → ByteArray → Int → Bool → Option ((List (S24)))
 | 0, _, _, _, _, _, _ => none
 | k + 1, x0, x3, x4, x5, x6, x85 => if x85 = true then (r19_heads.l1 k x0 x3 x4 x5 (wrap64 (x6 + 1))) else (if 2 ≤ x6 then (if x6 ≤ (x5.size : Int) then ((r19_hosts.f k (x5.extract 2 (x6 : Int).toNat)).bind fun t334 => (r19_heads.l2 k x0 x3 x4 x5 x6 t334 0)) else (none)) else (none))
def r19_heads.l2 : Nat → ByteArray → List (S24) → Int → ByteArray → Int → List ByteArray → Int → Option ((List (S24)))
 | 0, _, _, _, _, _, _, _ => none
 | k + 1, x0, x3, x4, x5, x6, x7, x8 => if x8 < (x7.length : Int) then (if 0 ≤ x8 then (if 0 ≤ x6 then (if x6 ≤ (x5.size : Int) then (if x3.length < 3518437208883 then (r19_heads.l2 k x0 (x3 ++ [(⟨true, rdOf ByteArray.empty x7 x8, x5.extract (x6 : Int).toNat x5.size⟩ : S24)]) x4 x5 x6 x7 (wrap64 (x8 + 1))) else (none)) else (none)) else (none)) else (none)) else (r19_heads.l1 k x0 x3 x4 x5 (wrap64 (x6 + 1)))
end
def r19_heads.f (k : Nat) (a0 : ByteArray) : Option ((List (S24))) := r19_heads.l0 k a0 ([] : List (S24)) 0
theorem r19_heads.mono_l : ∀ k, (∀ y0 y1 y2, LeO (r19_heads.l0 k y0 y1 y2) (r19_heads.l0 (k + 1) y0 y1 y2)) ∧ (∀ y0 y1 y2 y3, LeO (r19_heads.j1 k y0 y1 y2 y3) (r19_heads.j1 (k + 1) y0 y1 y2 y3)) ∧ (∀ y0 y1 y2 y3 y4, LeO (r19_heads.j2 k y0 y1 y2 y3 y4) (r19_heads.j2 (k + 1) y0 y1 y2 y3 y4)) ∧ (∀ y0 y1 y2 y3 y4, LeO (r19_heads.l1 k y0 y1 y2 y3 y4) (r19_heads.l1 (k + 1) y0 y1 y2 y3 y4)) ∧ (∀ y0 y1 y2 y3 y4 y5, LeO (r19_heads.j4 k y0 y1 y2 y3 y4 y5) (r19_heads.j4 (k + 1) y0 y1 y2 y3 y4 y5)) ∧ (∀ y0 y1 y2 y3 y4 y5 y6, LeO (r19_heads.l2 k y0 y1 y2 y3 y4 y5 y6) (r19_heads.l2 (k + 1) y0 y1 y2 y3 y4 y5 y6))
 | 0 => ⟨fun _ _ _ r h => by simp [r19_heads.l0] at h, fun _ _ _ _ r h => by simp [r19_heads.j1] at h, fun _ _ _ _ _ r h => by simp [r19_heads.j2] at h, fun _ _ _ _ _ r h => by simp [r19_heads.l1] at h, fun _ _ _ _ _ _ r h => by simp [r19_heads.j4] at h, fun _ _ _ _ _ _ _ r h => by simp [r19_heads.l2] at h⟩
 | k + 1 => by
  obtain ⟨ih0, ih1, ih2, ih3, ih4, ih5⟩ := r19_heads.mono_l k
  refine ⟨?_, ?_, ?_, ?_, ?_, ?_⟩
  ·intro y0 y1 y2
   unfold r19_heads.l0
   repeat' first
   | (with_reducible exact ih0 _ _ _)
   | (with_reducible exact ih1 _ _ _ _)
   | (with_reducible exact ih2 _ _ _ _ _)
   | (with_reducible exact ih3 _ _ _ _ _)
   | (with_reducible exact ih4 _ _ _ _ _ _)
   | (with_reducible exact ih5 _ _ _ _ _ _ _)
   | (with_reducible exact r19_hosts.mono _ _)
   | (with_reducible exact r19_isScheme.mono _ _)
   | (with_reducible exact r19_named.mono _ _ _)
   | (with_reducible exact r19_relative.mono _ _)
   | (with_reducible exact LeO.refl _)
   | (with_reducible exact LeO.none _)
   | (with_reducible refine LeO.ite ?_ ?_)
   | (with_reducible refine LeO.bind ?_ (fun _ => ?_))
   | exact ih0 _ _ _
   | exact ih1 _ _ _ _
   | exact ih2 _ _ _ _ _
   | exact ih3 _ _ _ _ _
   | exact ih4 _ _ _ _ _ _
   | exact ih5 _ _ _ _ _ _ _
   | exact r19_hosts.mono _ _
   | exact r19_isScheme.mono _ _
   | exact r19_named.mono _ _ _
   | exact r19_relative.mono _ _
   | exact LeO.none _
   | refine LeO.ite ?_ ?_
   | refine LeO.bind ?_ (fun _ => ?_)
  ·intro y0 y1 y2 y3
   unfold r19_heads.j1
   repeat' first
   | (with_reducible exact ih0 _ _ _)
   | (with_reducible exact ih1 _ _ _ _)
   | (with_reducible exact ih2 _ _ _ _ _)
   | (with_reducible exact ih3 _ _ _ _ _)
   | (with_reducible exact ih4 _ _ _ _ _ _)
   | (with_reducible exact ih5 _ _ _ _ _ _ _)
   | (with_reducible exact r19_hosts.mono _ _)
   | (with_reducible exact r19_isScheme.mono _ _)
   | (with_reducible exact r19_named.mono _ _ _)
   | (with_reducible exact r19_relative.mono _ _)
   | (with_reducible exact LeO.refl _)
   | (with_reducible exact LeO.none _)
   | (with_reducible refine LeO.ite ?_ ?_)
   | (with_reducible refine LeO.bind ?_ (fun _ => ?_))
   | exact ih0 _ _ _
   | exact ih1 _ _ _ _
   | exact ih2 _ _ _ _ _
   | exact ih3 _ _ _ _ _
   | exact ih4 _ _ _ _ _ _
   | exact ih5 _ _ _ _ _ _ _
   | exact r19_hosts.mono _ _
   | exact r19_isScheme.mono _ _
   | exact r19_named.mono _ _ _
   | exact r19_relative.mono _ _
   | exact LeO.none _
   | refine LeO.ite ?_ ?_
   | refine LeO.bind ?_ (fun _ => ?_)
  ·intro y0 y1 y2 y3 y4
   unfold r19_heads.j2
   repeat' first
   | (with_reducible exact ih0 _ _ _)
   | (with_reducible exact ih1 _ _ _ _)
   | (with_reducible exact ih2 _ _ _ _ _)
   | (with_reducible exact ih3 _ _ _ _ _)
   | (with_reducible exact ih4 _ _ _ _ _ _)
   | (with_reducible exact ih5 _ _ _ _ _ _ _)
   | (with_reducible exact r19_hosts.mono _ _)
   | (with_reducible exact r19_isScheme.mono _ _)
   | (with_reducible exact r19_named.mono _ _ _)
   | (with_reducible exact r19_relative.mono _ _)
   | (with_reducible exact LeO.refl _)
   | (with_reducible exact LeO.none _)
   | (with_reducible refine LeO.ite ?_ ?_)
   | (with_reducible refine LeO.bind ?_ (fun _ => ?_))
   | exact ih0 _ _ _
   | exact ih1 _ _ _ _
   | exact ih2 _ _ _ _ _
   | exact ih3 _ _ _ _ _
   | exact ih4 _ _ _ _ _ _
   | exact ih5 _ _ _ _ _ _ _
   | exact r19_hosts.mono _ _
   | exact r19_isScheme.mono _ _
   | exact r19_named.mono _ _ _
   | exact r19_relative.mono _ _
   | exact LeO.none _
   | refine LeO.ite ?_ ?_
   | refine LeO.bind ?_ (fun _ => ?_)
  ·intro y0 y1 y2 y3 y4
   unfold r19_heads.l1
   repeat' first
   | (with_reducible exact ih0 _ _ _)
   | (with_reducible exact ih1 _ _ _ _)
   | (with_reducible exact ih2 _ _ _ _ _)
   | (with_reducible exact ih3 _ _ _ _ _)
   | (with_reducible exact ih4 _ _ _ _ _ _)
   | (with_reducible exact ih5 _ _ _ _ _ _ _)
   | (with_reducible exact r19_hosts.mono _ _)
   | (with_reducible exact r19_isScheme.mono _ _)
   | (with_reducible exact r19_named.mono _ _ _)
   | (with_reducible exact r19_relative.mono _ _)
   | (with_reducible exact LeO.refl _)
   | (with_reducible exact LeO.none _)
   | (with_reducible refine LeO.ite ?_ ?_)
   | (with_reducible refine LeO.bind ?_ (fun _ => ?_))
   | exact ih0 _ _ _
   | exact ih1 _ _ _ _
   | exact ih2 _ _ _ _ _
   | exact ih3 _ _ _ _ _
   | exact ih4 _ _ _ _ _ _
   | exact ih5 _ _ _ _ _ _ _
   | exact r19_hosts.mono _ _
   | exact r19_isScheme.mono _ _
   | exact r19_named.mono _ _ _
   | exact r19_relative.mono _ _
   | exact LeO.none _
   | refine LeO.ite ?_ ?_
   | refine LeO.bind ?_ (fun _ => ?_)
  ·intro y0 y1 y2 y3 y4 y5
   unfold r19_heads.j4
   repeat' first
   | (with_reducible exact ih0 _ _ _)
   | (with_reducible exact ih1 _ _ _ _)
   | (with_reducible exact ih2 _ _ _ _ _)
   | (with_reducible exact ih3 _ _ _ _ _)
   | (with_reducible exact ih4 _ _ _ _ _ _)
   | (with_reducible exact ih5 _ _ _ _ _ _ _)
   | (with_reducible exact r19_hosts.mono _ _)
   | (with_reducible exact r19_isScheme.mono _ _)
   | (with_reducible exact r19_named.mono _ _ _)
   | (with_reducible exact r19_relative.mono _ _)
   | (with_reducible exact LeO.refl _)
   | (with_reducible exact LeO.none _)
   | (with_reducible refine LeO.ite ?_ ?_)
   | (with_reducible refine LeO.bind ?_ (fun _ => ?_))
   | exact ih0 _ _ _
   | exact ih1 _ _ _ _
   | exact ih2 _ _ _ _ _
   | exact ih3 _ _ _ _ _
   | exact ih4 _ _ _ _ _ _
   | exact ih5 _ _ _ _ _ _ _
   | exact r19_hosts.mono _ _
   | exact r19_isScheme.mono _ _
   | exact r19_named.mono _ _ _
   | exact r19_relative.mono _ _
   | exact LeO.none _
   | refine LeO.ite ?_ ?_
   | refine LeO.bind ?_ (fun _ => ?_)
  ·intro y0 y1 y2 y3 y4 y5 y6
   unfold r19_heads.l2
   repeat' first
   | (with_reducible exact ih0 _ _ _)
   | (with_reducible exact ih1 _ _ _ _)
   | (with_reducible exact ih2 _ _ _ _ _)
   | (with_reducible exact ih3 _ _ _ _ _)
   | (with_reducible exact ih4 _ _ _ _ _ _)
   | (with_reducible exact ih5 _ _ _ _ _ _ _)
   | (with_reducible exact r19_hosts.mono _ _)
   | (with_reducible exact r19_isScheme.mono _ _)
   | (with_reducible exact r19_named.mono _ _ _)
   | (with_reducible exact r19_relative.mono _ _)
   | (with_reducible exact LeO.refl _)
   | (with_reducible exact LeO.none _)
   | (with_reducible refine LeO.ite ?_ ?_)
   | (with_reducible refine LeO.bind ?_ (fun _ => ?_))
   | exact ih0 _ _ _
   | exact ih1 _ _ _ _
   | exact ih2 _ _ _ _ _
   | exact ih3 _ _ _ _ _
   | exact ih4 _ _ _ _ _ _
   | exact ih5 _ _ _ _ _ _ _
   | exact r19_hosts.mono _ _
   | exact r19_isScheme.mono _ _
   | exact r19_named.mono _ _ _
   | exact r19_relative.mono _ _
   | exact LeO.none _
   | refine LeO.ite ?_ ?_
   | refine LeO.bind ?_ (fun _ => ?_)
theorem r19_heads.mono : ∀ a0 k, LeO (r19_heads.f k a0) (r19_heads.f (k + 1) a0) := by
 intro a0 k
 obtain ⟨ih0, ih1, ih2, ih3, ih4, ih5⟩ := r19_heads.mono_l k
 unfold r19_heads.f
 repeat' first
   | (with_reducible exact ih0 _ _ _)
   | (with_reducible exact ih1 _ _ _ _)
   | (with_reducible exact ih2 _ _ _ _ _)
   | (with_reducible exact ih3 _ _ _ _ _)
   | (with_reducible exact ih4 _ _ _ _ _ _)
   | (with_reducible exact ih5 _ _ _ _ _ _ _)
   | (with_reducible exact r19_hosts.mono _ _)
   | (with_reducible exact r19_isScheme.mono _ _)
   | (with_reducible exact r19_named.mono _ _ _)
   | (with_reducible exact r19_relative.mono _ _)
   | (with_reducible exact LeO.refl _)
   | (with_reducible exact LeO.none _)
   | (with_reducible refine LeO.ite ?_ ?_)
   | (with_reducible refine LeO.bind ?_ (fun _ => ?_))
   | exact ih0 _ _ _
   | exact ih1 _ _ _ _
   | exact ih2 _ _ _ _ _
   | exact ih3 _ _ _ _ _
   | exact ih4 _ _ _ _ _ _
   | exact ih5 _ _ _ _ _ _ _
   | exact r19_hosts.mono _ _
   | exact r19_isScheme.mono _ _
   | exact r19_named.mono _ _ _
   | exact r19_relative.mono _ _
   | exact LeO.none _
   | refine LeO.ite ?_ ?_
   | refine LeO.bind ?_ (fun _ => ?_)
def r19_heads.T18 : Bool × List (List Nat × List Nat) := (true, [([], []), ([], []), ([], []), ([1, 2], [1, 2]), ([3], [3]), ([], []), ([], []), ([5, 6], [5, 6]), ([4, 7], [4, 7]), ([8], [8]), ([0, 9], [0, 9]), ([10, 10, 0, 1, 2, 3, 4, 5, 6, 7, 8, 9, 10], [0, 10])])
def r19_heads.B18 : List Nat := [0, 0, 0, 6, 14, 0, 0, 96, 254, 510, 1023, 2047]
theorem r19_heads.tab18 : rtab .any (opsOf Try.f30 18) = r19_heads.T18 := by kernel_rfl
theorem r19_heads.bits18 : waitsOk r19_heads.T18.2 r19_heads.B18 = true := by kernel_rfl
set_option maxHeartbeats 8000000 in
set_option maxRecDepth 100000 in
theorem r19_heads.calls (k : Nat) (a0 : ByteArray) (r : List (S24)) (w : World) (h : r19_heads.f k a0 = some r) :
  Calls Try.prog 30 #[.string a0] w fun e w' => ∃ v0_ : Value, e = .returned (v0_) ∧ Kd.R k24 24 w' w.heap.size (fun _ => True) v0_ r ∧ Below w.heap.size w w' := by
 have hu24 := Try.underlying24
 have HB := Aside0.mk (Below.refl w.heap.size w)
 have H : (r19_heads.l0 k a0 ([] : List (S24)) 0) = some r := h
 clear h
 have H' := Aside0.mk H
 clear H
 go_enter Try.func30, Try.ntmps30
 go_wp2
 go_loopg [3, 4] k (fun kq v3 v4 w' => ∃ (x3_1 : List (S24)) (x4_1 : Int), v4 = .int .i64 x4_1 ∧ Aside0 (r19_heads.l0 kq a0 x3_1 x4_1 = some r) ∧ Aside0 (kq ≤ k) ∧ Aside0 (Kd.R k24 24 w' w.heap.size (fun _ => True) v3 x3_1) ∧ Aside0 (Below w.heap.size w w'))
 case atStart => exact ⟨(([] : List (S24))), (0), (by first | rfl | (simp; done) | (simp [*]; done)), H', ⟨Nat.le_refl _⟩, ⟨by first | exact Kd.R_nil _ _ _ _ _ | exact Kd.N_nil _ _ _ _ _ | exact Kd.V_nil _ _ _ _ _ | exact Kd.Q_nil _ _ _ _ _ | exact Kd.S_nil _ _ _ _ _⟩, ⟨by repeat (first | (with_reducible first | exact HB.out | apply below_alloc | apply pw_below_drewN | apply below_drew1) | exact HB.out)⟩⟩
 case round =>
  clear H'
  obtain ⟨x3_1, x4_1, rfl, HA, HK1, HO_3, HB⟩ := hrel
  cases gk with
  | zero => exact absurd HA.out (by simp [r19_heads.l0])
  | succ k1 =>
   have H := HA.out
   clear HA
   simp only [r19_heads.l0] at H
   by_cases c2 : x4_1 ≤ (a0.size : Int)
   ·rw [if_pos c2] at H
    have c2b0 : decide (x4_1 ≤ (a0.size : Int)) = true := decide_eq_true c2
    clear c2
    have HC3 := Aside0.mk H
    clear H
    go_upto_region 5 with (fail)
    go_cut [31] (fun v31 wc => ∃ (kq : Nat) (x31_2 : Bool), v31 = .bool x31_2 ∧ Aside0 (r19_heads.j1 kq a0 x3_1 x4_1 x31_2 = some r) ∧ Aside0 (kq ≤ k1) ∧ Aside0 (Kd.R k24 24 wc w.heap.size (fun _ => True) u3 x3_1) ∧ Aside0 (Below w.heap.size w wc))
    case first =>
     have H := HC3.out
     clear HC3
     by_cases c4 : x4_1 > 0
     ·rw [if_pos c4] at H
      have c4b0 : decide (0 < x4_1) = true := decide_eq_true c4
      clear c4
      (first | rw [c4b0] | (simp only [i64_w, i32_w]; rw [c4b0]) | skip)
      obtain ⟨ji5, hji5⟩ : ∃ j_ : Int, (wrap64 (x4_1 - 1)) = j_ := ⟨_, rfl⟩
      replace H : (if 0 ≤ (ji5) then (if (ji5) < (a0.size : Int) then (if (bt a0 (ji5)) = 58 then (if (ji5) ≤ (a0.size : Int) then ((r19_isScheme.f k1 (a0.extract 0 ((ji5) : Int).toNat)).bind fun t323 => (r19_heads.j1 k1 a0 x3_1 x4_1 (!t323))) else (none)) else (r19_heads.j1 k1 a0 x3_1 x4_1 true)) else (none)) else (none)) = some r := by first | (rw [hji5] at H; exact H) | (simp only [hji5] at H ⊢; exact H)
      have hji5w : (IntKind.i64.wrap (x4_1 - 1)) = ji5 := (i64_w _).trans hji5
      by_cases c6 : 0 ≤ (ji5)
      ·rw [if_pos c6] at H
       have c6b0 : decide (0 ≤ (ji5)) = true := decide_eq_true c6
       clear c6
       by_cases c7 : (ji5) < (a0.size : Int)
       ·rw [if_pos c7] at H
        have c7b0 : decide ((ji5) < (a0.size : Int)) = true := decide_eq_true c7
        clear c7
        by_cases c9 : (bt a0 (ji5)) = 58
        ·rw [if_pos c9] at H
         have c9b0 : ((bt a0 (ji5)) == 58) = true := beq_iff_eq.mpr c9
         have c9b1 : ((bt a0 (ji5)) != 58) = false := bne_eq_false_iff_eq.mpr c9
         clear c9
         have c10b0 := eq_true (of_decide_eq_true (by first | (with_reducible assumption) | assumption) : 0 ≤ (ji5))
         by_cases c11 : (ji5) ≤ (a0.size : Int)
         ·rw [if_pos c11] at H
          have c11b0 := eq_true c11
          have c11b1 : decide ((ji5) ≤ (a0.size : Int)) = true := decide_eq_true c11
          clear c11
          obtain ⟨ji12, hji12⟩ : ∃ j_ : ByteArray, (a0.extract 0 ((ji5) : Int).toNat) = j_ := ⟨_, rfl⟩
          replace H : ((r19_isScheme.f k1 (ji12)).bind fun t323 => (r19_heads.j1 k1 a0 x3_1 x4_1 (!t323))) = some r := by first | (rw [hji12] at H; exact H) | (simp only [hji12] at H ⊢; exact H) | exact H
          replace H := Option.bind_eq_some_iff.mp H
          obtain ⟨t323, A130, H⟩ := H
          replace H : (r19_heads.j1 k1 a0 x3_1 x4_1 (!t323)) = some r := H
          have A13 := Aside0.mk A130
          clear A130
          have H' := Aside0.mk H
          clear H
          have p8 : 0 ≤ ((ji5) : Int) := of_decide_eq_true (by first | (with_reducible assumption) | assumption)
          have q8 : (ji5) < (a0.size : Int) := of_decide_eq_true (by first | (with_reducible assumption) | assumption)
          have hx8 := bt_at a0 (ji5)
          replace p8 := eq_true p8
          replace q8 := eq_true q8
          go_wp2_with (first | (go_at_call 47; (with_reducible refine (r19_isScheme.calls k1 ji12 t323 _ A13.out).mono ?_); rintro e w' ⟨rfl, ⟨nd, rfl⟩⟩))
          go_meet
          case rel => exact ⟨_, (!t323), (by first | rfl | (simp; done) | (simp [*]; done)), H', ⟨by have := HK1.out; first | omega | exact Nat.le_refl _⟩, ⟨by (with_reducible repeat (first | apply Kd.R_alloc | apply Kd.R_drewN | apply Kd.R_drew)); exact HO_3.out⟩, ⟨by repeat (first | (with_reducible first | exact HB.out | apply below_alloc | apply pw_below_drewN | apply below_drew1) | exact HB.out)⟩⟩
         ·rw [if_neg c11] at H
          exact absurd H (by simp)
        ·rw [if_neg c9] at H
         have c9b0 : ((bt a0 (ji5)) == 58) = false := beq_eq_false_iff_ne.mpr c9
         have c9b1 : ((bt a0 (ji5)) != 58) = true := bne_iff_ne.mpr c9
         have H' := Aside0.mk H
         clear H
         have p8 : 0 ≤ ((ji5) : Int) := of_decide_eq_true (by first | (with_reducible assumption) | assumption)
         have q8 : (ji5) < (a0.size : Int) := of_decide_eq_true (by first | (with_reducible assumption) | assumption)
         have hx8 := bt_at a0 (ji5)
         replace p8 := eq_true p8
         replace q8 := eq_true q8
         go_wp2
         go_meet
         case rel => exact ⟨_, (true), (by first | rfl | (simp; done) | (simp [*]; done)), H', ⟨by have := HK1.out; first | omega | exact Nat.le_refl _⟩, ⟨by (with_reducible repeat (first | apply Kd.R_alloc | apply Kd.R_drewN | apply Kd.R_drew)); exact HO_3.out⟩, ⟨by repeat (first | (with_reducible first | exact HB.out | apply below_alloc | apply pw_below_drewN | apply below_drew1) | exact HB.out)⟩⟩
       ·rw [if_neg c7] at H
        exact absurd H (by simp)
      ·rw [if_neg c6] at H
       exact absurd H (by simp)
     ·rw [if_neg c4] at H
      have c4b0 : decide (0 < x4_1) = false := decide_eq_false c4
      clear c4
      (first | rw [c4b0] | (simp only [i64_w, i32_w]; rw [c4b0]) | skip)
      have H' := Aside0.mk H
      clear H
      go_wp2
      go_meet
      case rel => exact ⟨_, (false), (by first | rfl | (simp; done) | (simp [*]; done)), H', ⟨by have := HK1.out; first | omega | exact Nat.le_refl _⟩, ⟨by (with_reducible repeat (first | apply Kd.R_alloc | apply Kd.R_drewN | apply Kd.R_drew)); exact HO_3.out⟩, ⟨by repeat (first | (with_reducible first | exact HB.out | apply below_alloc | apply pw_below_drewN | apply below_drew1) | exact HB.out)⟩⟩
    case rest =>
     clear HC3
     try clear c1
     try clear c2
     try clear c2b0
     try clear p2
     try clear c3
     try clear c4
     try clear c4b0
     try clear c6
     try clear c6b0
     try clear p6
     try clear c7
     try clear c7b0
     try clear p8
     try clear q8
     try clear hx8
     try clear c9
     try clear c9b0
     try clear c9b1
     try clear c10
     try clear c10b0
     try clear c11
     try clear c11b0
     try clear c11b1
     try clear p8
     try clear q8
     obtain ⟨kq, x31_2, rfl, HA, HJ2, HO_3, HB⟩ := hcut
     cases kq with
     | zero => exact absurd HA.out (by simp [r19_heads.j1])
     | succ kj2 =>
      have H := HA.out
      clear HA
      simp only [r19_heads.j1] at H
      by_cases c14 : x31_2 = true
      ·subst c14
       have H1 : (r19_heads.l0 kj2 a0 x3_1 (wrap64 (x4_1 + 1))) = some r := by rw [if_pos rfl] at H; exact H
       clear H
       have H := H1
       clear H1
       have H' := Aside0.mk H
       clear H
       go_wp2
       go_roundg kj2
       case measure => have := HK1.out; have := HJ2.out; omega
       case rel => exact ⟨(x3_1), (wrap64 (x4_1 + 1)), (by first | rfl | (simp; done) | (simp [*]; done)), H', ⟨by have := HK1.out; have := HJ2.out; omega⟩, ⟨by (with_reducible repeat (first | apply Kd.R_alloc | apply Kd.R_drewN | apply Kd.R_drew)); exact HO_3.out⟩, ⟨by repeat (first | (with_reducible first | exact HB.out | apply below_alloc | apply pw_below_drewN | apply below_drew1) | exact HB.out)⟩⟩
      ·replace c14 := Bool.eq_false_iff.mpr c14
       subst c14
       have H1 : (if 0 ≤ x4_1 then (if x4_1 ≤ (a0.size : Int) then (if ((a0.extract (x4_1 : Int).toNat a0.size).size : Int) < 2 then (r19_heads.j2 kj2 a0 x3_1 x4_1 (a0.extract (x4_1 : Int).toNat a0.size) true) else (if 0 < ((a0.extract (x4_1 : Int).toNat a0.size).size : Int) then (if (bt (a0.extract (x4_1 : Int).toNat a0.size) 0) = 47 then (if 1 < ((a0.extract (x4_1 : Int).toNat a0.size).size : Int) then (r19_heads.j2 kj2 a0 x3_1 x4_1 (a0.extract (x4_1 : Int).toNat a0.size) ((bt (a0.extract (x4_1 : Int).toNat a0.size) 1) != 47)) else (none)) else (r19_heads.j2 kj2 a0 x3_1 x4_1 (a0.extract (x4_1 : Int).toNat a0.size) true)) else (none))) else (none)) else (none)) = some r := by rw [if_neg (show ¬ (false = true) by decide)] at H; exact H
       clear H
       have H := H1
       clear H1
       by_cases c15 : 0 ≤ x4_1
       ·rw [if_pos c15] at H
        have c15b0 := eq_true c15
        have c15b1 : decide (0 ≤ x4_1) = true := decide_eq_true c15
        clear c15
        by_cases c16 : x4_1 ≤ (a0.size : Int)
        ·rw [if_pos c16] at H
         have c16b0 := eq_true c16
         have c16b1 : decide (x4_1 ≤ (a0.size : Int)) = true := decide_eq_true c16
         clear c16
         obtain ⟨ji17, hji17⟩ : ∃ j_ : ByteArray, (a0.extract (x4_1 : Int).toNat a0.size) = j_ := ⟨_, rfl⟩
         replace H : (if ((ji17).size : Int) < 2 then (r19_heads.j2 kj2 a0 x3_1 x4_1 ji17 true) else (if 0 < ((ji17).size : Int) then (if (bt (ji17) 0) = 47 then (if 1 < ((ji17).size : Int) then (r19_heads.j2 kj2 a0 x3_1 x4_1 ji17 ((bt (ji17) 1) != 47)) else (none)) else (r19_heads.j2 kj2 a0 x3_1 x4_1 ji17 true)) else (none))) = some r := by first | (rw [hji17] at H; exact H) | (simp only [hji17] at H ⊢; exact H) | exact H
         have HC18 := Aside0.mk H
         clear H
         go_upto_region 7 with (fail)
         go_cut [47] (fun v47 wc => ∃ (kq : Nat) (x47_17 : Bool), v47 = .bool x47_17 ∧ Aside0 (r19_heads.j2 kq a0 x3_1 x4_1 ji17 x47_17 = some r) ∧ Aside0 (kq ≤ kj2) ∧ Aside0 (Kd.R k24 24 wc w.heap.size (fun _ => True) u3 x3_1) ∧ Aside0 (Below w.heap.size w wc))
         case first =>
          have H := HC18.out
          clear HC18
          by_cases c19 : ((ji17).size : Int) < 2
          ·rw [if_pos c19] at H
           have c19b0 : decide (((ji17).size : Int) < 2) = true := decide_eq_true c19
           have c19b1 : decide ((ji17).size < 2) = true := decide_eq_true (by omega)
           clear c19
           (first | rw [c19b0] | (simp only [i64_w, i32_w]; rw [c19b0]) | skip)
           have H' := Aside0.mk H
           clear H
           go_wp2
           go_meet
           case rel => exact ⟨_, (true), (by first | rfl | (simp; done) | (simp [*]; done)), H', ⟨by have := HK1.out; have := HJ2.out; first | omega | exact Nat.le_refl _⟩, ⟨by (with_reducible repeat (first | apply Kd.R_alloc | apply Kd.R_drewN | apply Kd.R_drew)); exact HO_3.out⟩, ⟨by repeat (first | (with_reducible first | exact HB.out | apply below_alloc | apply pw_below_drewN | apply below_drew1) | exact HB.out)⟩⟩
          ·rw [if_neg c19] at H
           have c19b0 : decide (((ji17).size : Int) < 2) = false := decide_eq_false c19
           have c19b1 : decide ((ji17).size < 2) = false := decide_eq_false (by omega)
           clear c19
           (first | rw [c19b0] | (simp only [i64_w, i32_w]; rw [c19b0]) | skip)
           by_cases c20 : 0 < ((ji17).size : Int)
           ·rw [if_pos c20] at H
            have c20b0 : decide (0 < ((ji17).size : Int)) = true := decide_eq_true c20
            have c20b1 : decide (0 < (ji17).size) = true := decide_eq_true (by omega)
            clear c20
            by_cases c22 : (bt (ji17) 0) = 47
            ·rw [if_pos c22] at H
             have c22b0 : ((bt (ji17) 0) == 47) = true := beq_iff_eq.mpr c22
             have c22b1 : ((bt (ji17) 0) != 47) = false := bne_eq_false_iff_eq.mpr c22
             clear c22
             by_cases c23 : 1 < ((ji17).size : Int)
             ·rw [if_pos c23] at H
              have c23b0 : decide (1 < ((ji17).size : Int)) = true := decide_eq_true c23
              have c23b1 : decide (1 < (ji17).size) = true := decide_eq_true (by omega)
              clear c23
              have H' := Aside0.mk H
              clear H
              have p21 : 0 ≤ (0 : Int) := (by omega)
              have q21 : 0 < ji17.size := (by have : (0 : Int) < (ji17.size : Int) := of_decide_eq_true (by first | (with_reducible assumption) | assumption); omega)
              have hx21 : ∀ h : 0 < ji17.size, ((ji17[0]'h).toNat : Int) = bt ji17 0 := bt_at ji17 0
              clear p21
              have qi21 : (0 < (ji17.size : Int)) = True := eq_true (of_decide_eq_true (by first | (with_reducible assumption) | assumption))
              replace q21 := eq_true q21
              have p24 : 0 ≤ (1 : Int) := (by omega)
              have q24 : 1 < ji17.size := (by have : (1 : Int) < (ji17.size : Int) := of_decide_eq_true (by first | (with_reducible assumption) | assumption); omega)
              have hx24 : ∀ h : 1 < ji17.size, ((ji17[1]'h).toNat : Int) = bt ji17 1 := bt_at ji17 1
              clear p24
              have qi24 : (1 < (ji17.size : Int)) = True := eq_true (of_decide_eq_true (by first | (with_reducible assumption) | assumption))
              replace q24 := eq_true q24
              go_wp2
              go_meet
              case rel => exact ⟨_, (((bt (ji17) 1) != 47)), (by first | rfl | (simp; done) | (simp only [← hji17] <;> (first | rfl | simp)) | (simp [*]; done)), H', ⟨by have := HK1.out; have := HJ2.out; first | omega | exact Nat.le_refl _⟩, ⟨by (with_reducible repeat (first | apply Kd.R_alloc | apply Kd.R_drewN | apply Kd.R_drew)); exact HO_3.out⟩, ⟨by repeat (first | (with_reducible first | exact HB.out | apply below_alloc | apply pw_below_drewN | apply below_drew1) | exact HB.out)⟩⟩
             ·rw [if_neg c23] at H
              exact absurd H (by simp)
            ·rw [if_neg c22] at H
             have c22b0 : ((bt (ji17) 0) == 47) = false := beq_eq_false_iff_ne.mpr c22
             have c22b1 : ((bt (ji17) 0) != 47) = true := bne_iff_ne.mpr c22
             have H' := Aside0.mk H
             clear H
             have p21 : 0 ≤ (0 : Int) := (by omega)
             have q21 : 0 < ji17.size := (by have : (0 : Int) < (ji17.size : Int) := of_decide_eq_true (by first | (with_reducible assumption) | assumption); omega)
             have hx21 : ∀ h : 0 < ji17.size, ((ji17[0]'h).toNat : Int) = bt ji17 0 := bt_at ji17 0
             clear p21
             have qi21 : (0 < (ji17.size : Int)) = True := eq_true (of_decide_eq_true (by first | (with_reducible assumption) | assumption))
             replace q21 := eq_true q21
             go_wp2
             go_meet
             case rel => exact ⟨_, (true), (by first | rfl | (simp; done) | (simp [*]; done)), H', ⟨by have := HK1.out; have := HJ2.out; first | omega | exact Nat.le_refl _⟩, ⟨by (with_reducible repeat (first | apply Kd.R_alloc | apply Kd.R_drewN | apply Kd.R_drew)); exact HO_3.out⟩, ⟨by repeat (first | (with_reducible first | exact HB.out | apply below_alloc | apply pw_below_drewN | apply below_drew1) | exact HB.out)⟩⟩
           ·rw [if_neg c20] at H
            exact absurd H (by simp)
         case rest =>
          clear HC18
          try clear c1
          try clear c2
          try clear c2b0
          try clear p2
          try clear q2
          try clear hx2
          try clear qi2
          try clear c3
          try clear c4
          try clear c4b0
          try clear c6
          try clear c6b0
          try clear p6
          try clear c7
          try clear c7b0
          try clear p8
          try clear q8
          try clear hx8
          try clear c9
          try clear c9b0
          try clear c9b1
          try clear c10
          try clear c10b0
          try clear c11
          try clear c11b0
          try clear c11b1
          try clear c14
          try clear c15
          try clear c15b0
          try clear c15b1
          try clear c16
          try clear c16b0
          try clear c16b1
          try clear c19
          try clear c19b0
          try clear c19b1
          try clear c20
          try clear c20b0
          try clear c20b1
          try clear p21
          try clear q21
          try clear hx21
          try clear qi21
          try clear c22
          try clear c22b0
          try clear c22b1
          try clear c23
          try clear c23b0
          try clear c23b1
          try clear p24
          try clear q24
          try clear hx24
          try clear qi24
          try clear p2
          try clear p21
          try clear p24
          try clear p6
          try clear p8
          try clear q21
          try clear q24
          try clear q8
          obtain ⟨kq, x47_17, rfl, HA, HJ17, HO_3, HB⟩ := hcut
          cases kq with
          | zero => exact absurd HA.out (by simp [r19_heads.j2])
          | succ kj17 =>
           have H := HA.out
           clear HA
           simp only [r19_heads.j2] at H
           by_cases c25 : x47_17 = true
           ·subst c25
            have H1 : ((r19_named.f kj17 ji17 (⟨#[58, 64, 47]⟩ : ByteArray)).bind fun t324 => (if t324 = true then (if x4_1 > 0 then (if x3_1.length < 3518437208883 then (r19_heads.l0 kj17 a0 (x3_1 ++ [(⟨true, (⟨#[]⟩ : ByteArray), ji17⟩ : S24)]) (wrap64 (x4_1 + 1))) else (none)) else ((r19_relative.f kj17 ji17).bind fun t328 => (if t328 = true then (if x3_1.length < 3518437208883 then (r19_heads.l0 kj17 a0 (x3_1 ++ [(⟨true, (⟨#[]⟩ : ByteArray), ji17⟩ : S24)]) (wrap64 (x4_1 + 1))) else (none)) else (r19_heads.l0 kj17 a0 x3_1 (wrap64 (x4_1 + 1)))))) else (r19_heads.l0 kj17 a0 x3_1 (wrap64 (x4_1 + 1))))) = some r := by rw [if_pos rfl] at H; exact H
            clear H
            have H := H1
            clear H1
            replace H := Option.bind_eq_some_iff.mp H
            obtain ⟨t324, A260, H⟩ := H
            replace H : (if t324 = true then (if x4_1 > 0 then (if x3_1.length < 3518437208883 then (r19_heads.l0 kj17 a0 (x3_1 ++ [(⟨true, (⟨#[]⟩ : ByteArray), ji17⟩ : S24)]) (wrap64 (x4_1 + 1))) else (none)) else ((r19_relative.f kj17 ji17).bind fun t328 => (if t328 = true then (if x3_1.length < 3518437208883 then (r19_heads.l0 kj17 a0 (x3_1 ++ [(⟨true, (⟨#[]⟩ : ByteArray), ji17⟩ : S24)]) (wrap64 (x4_1 + 1))) else (none)) else (r19_heads.l0 kj17 a0 x3_1 (wrap64 (x4_1 + 1)))))) else (r19_heads.l0 kj17 a0 x3_1 (wrap64 (x4_1 + 1)))) = some r := H
            have A26 := Aside0.mk A260
            clear A260
            by_cases c27 : t324 = true
            ·subst c27
             have H1 : (if x4_1 > 0 then (if x3_1.length < 3518437208883 then (r19_heads.l0 kj17 a0 (x3_1 ++ [(⟨true, (⟨#[]⟩ : ByteArray), ji17⟩ : S24)]) (wrap64 (x4_1 + 1))) else (none)) else ((r19_relative.f kj17 ji17).bind fun t328 => (if t328 = true then (if x3_1.length < 3518437208883 then (r19_heads.l0 kj17 a0 (x3_1 ++ [(⟨true, (⟨#[]⟩ : ByteArray), ji17⟩ : S24)]) (wrap64 (x4_1 + 1))) else (none)) else (r19_heads.l0 kj17 a0 x3_1 (wrap64 (x4_1 + 1)))))) = some r := by rw [if_pos rfl] at H; exact H
             clear H
             have H := H1
             clear H1
             by_cases c28 : x4_1 > 0
             ·rw [if_pos c28] at H
              have c28b0 : decide (0 < x4_1) = true := decide_eq_true c28
              clear c28
              by_cases c29 : x3_1.length < 3518437208883
              ·rw [if_pos c29] at H
               have LMc29 := Aside0.mk c29
               clear c29
               obtain ⟨y325, hy325⟩ : ∃ y_ : List (S24), y_ = (x3_1 ++ [(⟨true, (⟨#[]⟩ : ByteArray), ji17⟩ : S24)]) := ⟨_, rfl⟩
               replace H : (r19_heads.l0 kj17 a0 y325 (wrap64 (x4_1 + 1))) = some r := by first | (rw [hy325]; with_reducible exact H) | (have H2_ := (Option.bind_some _ _).symm.trans H; rw [hy325]; with_reducible exact H2_) | (have H2_ := (Option.bind_some _ _).symm.trans H; with_reducible exact H2_) | with_reducible exact H | (rw [hy325]; exact H) | exact H
               have Ny325 := Aside0.mk hy325
               clear hy325
               have H' := Aside0.mk H
               clear H
               go_wp2_with (first | ((with_reducible refine gate_callee (f := 29) rfl ?_); refine goesL_ (some 49) rfl rfl Try.func29 (by kernel_rfl) rfl #[.string ji17, .string (⟨#[58, 64, 47]⟩ : ByteArray)] rfl (by (try simp only [List.map_toArray, List.map_cons, List.map_nil]); first | done | (simp only [hji17]; rfl) | rfl | (simp only [List.length_drop, List.length_take]; rfl)) ?_; (with_reducible refine (r19_named.calls kj17 ji17 (⟨#[58, 64, 47]⟩ : ByteArray) true _ A26.out).mono ?_); rintro e w' ⟨rfl, ⟨nd, rfl⟩⟩; refine ⟨_, rfl, ?_⟩) | ((with_reducible refine gate_builtin (b := .append) (xs := #[.tmp 58, .tmp 61]) rfl ?_); at_builtin; refine Kd.R_append k24 (w0 := w) w.heap.size rfl (.tmp 58) (.tmp 61) 26 24 (.agg #[(.bool false), (.string ⟨#[]⟩), (.string ⟨#[]⟩)]) 40 rfl Try.underlying26 info24 rfl (by decide) (by omega) u3 x3_1 (⟨true, (⟨#[]⟩ : ByteArray), ji17⟩ : S24) [.bool true, .string (⟨#[]⟩ : ByteArray), .string ji17] (fun _ => True) (fun _ => False) rfl rfl ?aP (fun _ hk => hk.elim) ?aF ?aO ?aB ?aS ?aL ?_; (case aP => exact k24_mkM _ _ _ (⟨true, (⟨#[]⟩ : ByteArray), ji17⟩ : S24)); (case aB => exact (by repeat (first | (with_reducible first | exact HB.out | apply below_alloc | apply pw_below_drewN | apply below_drew1) | exact HB.out))); (case aF => exact (fun _ _ => trivial)); (case aO => exact (by (with_reducible repeat (first | apply Kd.R_alloc | apply Kd.R_drewN | apply Kd.R_drew)); exact HO_3.out)); (case aS => exact (below_size (by repeat (first | (with_reducible first | exact HB.out | apply below_alloc | apply pw_below_drewN | apply below_drew1) | exact HB.out)))); (case aL => have := LMc29.out; omega); intro v326 w30 ho hb hg hat; rw [← Ny325.out] at ho; have n0_ := Aside0.mk (hb); have n1_ := Aside0.mk (ho); clear HB; clear HO_3; have HB := n0_; have HO327 := n1_; clear n0_ n1_; clear ho hb hg hat))
               go_roundg kj17
               case measure => have := HK1.out; have := HJ2.out; have := HJ17.out; omega
               case rel => exact ⟨(y325), (wrap64 (x4_1 + 1)), (by first | rfl | (simp; done) | (simp [*]; done)), H', ⟨by have := HK1.out; have := HJ2.out; have := HJ17.out; omega⟩, ⟨by (with_reducible repeat (first | apply Kd.R_alloc | apply Kd.R_drewN | apply Kd.R_drew)); exact HO327.out⟩, ⟨by repeat (first | (with_reducible first | exact HB.out | apply below_alloc | apply pw_below_drewN | apply below_drew1) | exact HB.out)⟩⟩
              ·rw [if_neg c29] at H
               exact absurd H (by simp)
             ·rw [if_neg c28] at H
              have c28b0 : decide (0 < x4_1) = false := decide_eq_false c28
              clear c28
              replace H := Option.bind_eq_some_iff.mp H
              obtain ⟨t328, A310, H⟩ := H
              replace H : (if t328 = true then (if x3_1.length < 3518437208883 then (r19_heads.l0 kj17 a0 (x3_1 ++ [(⟨true, (⟨#[]⟩ : ByteArray), ji17⟩ : S24)]) (wrap64 (x4_1 + 1))) else (none)) else (r19_heads.l0 kj17 a0 x3_1 (wrap64 (x4_1 + 1)))) = some r := H
              have A31 := Aside0.mk A310
              clear A310
              by_cases c32 : t328 = true
              ·subst c32
               have H1 : (if x3_1.length < 3518437208883 then (r19_heads.l0 kj17 a0 (x3_1 ++ [(⟨true, (⟨#[]⟩ : ByteArray), ji17⟩ : S24)]) (wrap64 (x4_1 + 1))) else (none)) = some r := by rw [if_pos rfl] at H; exact H
               clear H
               have H := H1
               clear H1
               by_cases c33 : x3_1.length < 3518437208883
               ·rw [if_pos c33] at H
                have LMc33 := Aside0.mk c33
                clear c33
                obtain ⟨y329, hy329⟩ : ∃ y_ : List (S24), y_ = (x3_1 ++ [(⟨true, (⟨#[]⟩ : ByteArray), ji17⟩ : S24)]) := ⟨_, rfl⟩
                replace H : (r19_heads.l0 kj17 a0 y329 (wrap64 (x4_1 + 1))) = some r := by first | (rw [hy329]; with_reducible exact H) | (have H2_ := (Option.bind_some _ _).symm.trans H; rw [hy329]; with_reducible exact H2_) | (have H2_ := (Option.bind_some _ _).symm.trans H; with_reducible exact H2_) | with_reducible exact H | (rw [hy329]; exact H) | exact H
                have Ny329 := Aside0.mk hy329
                clear hy329
                have H' := Aside0.mk H
                clear H
                go_wp2_with (first | ((with_reducible refine gate_callee (f := 29) rfl ?_); refine goesL_ (some 49) rfl rfl Try.func29 (by kernel_rfl) rfl #[.string ji17, .string (⟨#[58, 64, 47]⟩ : ByteArray)] rfl (by (try simp only [List.map_toArray, List.map_cons, List.map_nil]); first | done | (simp only [hji17]; rfl) | rfl | (simp only [List.length_drop, List.length_take]; rfl)) ?_; (with_reducible refine (r19_named.calls kj17 ji17 (⟨#[58, 64, 47]⟩ : ByteArray) true _ A26.out).mono ?_); rintro e w' ⟨rfl, ⟨nd, rfl⟩⟩; refine ⟨_, rfl, ?_⟩) | (go_at_call 48; (with_reducible refine (r19_relative.calls kj17 ji17 true _ A31.out).mono ?_); rintro e w' ⟨rfl, ⟨nd, rfl⟩⟩) | ((with_reducible refine gate_builtin (b := .append) (xs := #[.tmp 58, .tmp 61]) rfl ?_); at_builtin; refine Kd.R_append k24 (w0 := w) w.heap.size rfl (.tmp 58) (.tmp 61) 26 24 (.agg #[(.bool false), (.string ⟨#[]⟩), (.string ⟨#[]⟩)]) 40 rfl Try.underlying26 info24 rfl (by decide) (by omega) u3 x3_1 (⟨true, (⟨#[]⟩ : ByteArray), ji17⟩ : S24) [.bool true, .string (⟨#[]⟩ : ByteArray), .string ji17] (fun _ => True) (fun _ => False) rfl rfl ?aP (fun _ hk => hk.elim) ?aF ?aO ?aB ?aS ?aL ?_; (case aP => exact k24_mkM _ _ _ (⟨true, (⟨#[]⟩ : ByteArray), ji17⟩ : S24)); (case aB => exact (by repeat (first | (with_reducible first | exact HB.out | apply below_alloc | apply pw_below_drewN | apply below_drew1) | exact HB.out))); (case aF => exact (fun _ _ => trivial)); (case aO => exact (by (with_reducible repeat (first | apply Kd.R_alloc | apply Kd.R_drewN | apply Kd.R_drew)); exact HO_3.out)); (case aS => exact (below_size (by repeat (first | (with_reducible first | exact HB.out | apply below_alloc | apply pw_below_drewN | apply below_drew1) | exact HB.out)))); (case aL => have := LMc33.out; omega); intro v330 w34 ho hb hg hat; rw [← Ny329.out] at ho; have n0_ := Aside0.mk (hb); have n1_ := Aside0.mk (ho); clear HB; clear HO_3; have HB := n0_; have HO331 := n1_; clear n0_ n1_; clear ho hb hg hat))
                go_roundg kj17
                case measure => have := HK1.out; have := HJ2.out; have := HJ17.out; omega
                case rel => exact ⟨(y329), (wrap64 (x4_1 + 1)), (by first | rfl | (simp; done) | (simp [*]; done)), H', ⟨by have := HK1.out; have := HJ2.out; have := HJ17.out; omega⟩, ⟨by (with_reducible repeat (first | apply Kd.R_alloc | apply Kd.R_drewN | apply Kd.R_drew)); exact HO331.out⟩, ⟨by repeat (first | (with_reducible first | exact HB.out | apply below_alloc | apply pw_below_drewN | apply below_drew1) | exact HB.out)⟩⟩
               ·rw [if_neg c33] at H
                exact absurd H (by simp)
              ·replace c32 := Bool.eq_false_iff.mpr c32
               subst c32
               have H1 : (r19_heads.l0 kj17 a0 x3_1 (wrap64 (x4_1 + 1))) = some r := by rw [if_neg (show ¬ (false = true) by decide)] at H; exact H
               clear H
               have H := H1
               clear H1
               have H' := Aside0.mk H
               clear H
               go_wp2_with (first | ((with_reducible refine gate_callee (f := 29) rfl ?_); refine goesL_ (some 49) rfl rfl Try.func29 (by kernel_rfl) rfl #[.string ji17, .string (⟨#[58, 64, 47]⟩ : ByteArray)] rfl (by (try simp only [List.map_toArray, List.map_cons, List.map_nil]); first | done | (simp only [hji17]; rfl) | rfl | (simp only [List.length_drop, List.length_take]; rfl)) ?_; (with_reducible refine (r19_named.calls kj17 ji17 (⟨#[58, 64, 47]⟩ : ByteArray) true _ A26.out).mono ?_); rintro e w' ⟨rfl, ⟨nd, rfl⟩⟩; refine ⟨_, rfl, ?_⟩) | (go_at_call 48; (with_reducible refine (r19_relative.calls kj17 ji17 false _ A31.out).mono ?_); rintro e w' ⟨rfl, ⟨nd, rfl⟩⟩))
               go_roundg kj17
               case measure => have := HK1.out; have := HJ2.out; have := HJ17.out; omega
               case rel => exact ⟨(x3_1), (wrap64 (x4_1 + 1)), (by first | rfl | (simp; done) | (simp [*]; done)), H', ⟨by have := HK1.out; have := HJ2.out; have := HJ17.out; omega⟩, ⟨by (with_reducible repeat (first | apply Kd.R_alloc | apply Kd.R_drewN | apply Kd.R_drew)); exact HO_3.out⟩, ⟨by repeat (first | (with_reducible first | exact HB.out | apply below_alloc | apply pw_below_drewN | apply below_drew1) | exact HB.out)⟩⟩
            ·replace c27 := Bool.eq_false_iff.mpr c27
             subst c27
             have H1 : (r19_heads.l0 kj17 a0 x3_1 (wrap64 (x4_1 + 1))) = some r := by rw [if_neg (show ¬ (false = true) by decide)] at H; exact H
             clear H
             have H := H1
             clear H1
             have H' := Aside0.mk H
             clear H
             go_wp2_with (first | ((with_reducible refine gate_callee (f := 29) rfl ?_); refine goesL_ (some 49) rfl rfl Try.func29 (by kernel_rfl) rfl #[.string ji17, .string (⟨#[58, 64, 47]⟩ : ByteArray)] rfl (by (try simp only [List.map_toArray, List.map_cons, List.map_nil]); first | done | (simp only [hji17]; rfl) | rfl | (simp only [List.length_drop, List.length_take]; rfl)) ?_; (with_reducible refine (r19_named.calls kj17 ji17 (⟨#[58, 64, 47]⟩ : ByteArray) false _ A26.out).mono ?_); rintro e w' ⟨rfl, ⟨nd, rfl⟩⟩; refine ⟨_, rfl, ?_⟩))
             go_roundg kj17
             case measure => have := HK1.out; have := HJ2.out; have := HJ17.out; omega
             case rel => exact ⟨(x3_1), (wrap64 (x4_1 + 1)), (by first | rfl | (simp; done) | (simp [*]; done)), H', ⟨by have := HK1.out; have := HJ2.out; have := HJ17.out; omega⟩, ⟨by (with_reducible repeat (first | apply Kd.R_alloc | apply Kd.R_drewN | apply Kd.R_drew)); exact HO_3.out⟩, ⟨by repeat (first | (with_reducible first | exact HB.out | apply below_alloc | apply pw_below_drewN | apply below_drew1) | exact HB.out)⟩⟩
           ·replace c25 := Bool.eq_false_iff.mpr c25
            subst c25
            have H1 : (r19_heads.l1 kj17 a0 x3_1 x4_1 ji17 2) = some r := by rw [if_neg (show ¬ (false = true) by decide)] at H; exact H
            clear H
            have H := H1
            clear H1
            have H' := Aside0.mk H
            clear H
            go_wp2
            go_loopg [3, 6] kj17 (fun kq v3 v6 w' => ∃ (x3_4 : List (S24)) (x6_4 : Int), v6 = .int .i64 x6_4 ∧ Aside0 (r19_heads.l1 kq a0 x3_4 x4_1 ji17 x6_4 = some r) ∧ Aside0 (kq ≤ kj17) ∧ Aside0 (Kd.R k24 24 w' w.heap.size (fun _ => True) v3 x3_4) ∧ Aside0 (Below w.heap.size w w'))
            case atStart => exact ⟨(x3_1), (2), (by first | rfl | (simp; done) | (simp [*]; done)), H', ⟨Nat.le_refl _⟩, ⟨by (with_reducible repeat (first | apply Kd.R_alloc | apply Kd.R_drewN | apply Kd.R_drew)); exact HO_3.out⟩, ⟨by repeat (first | (with_reducible first | exact HB.out | apply below_alloc | apply pw_below_drewN | apply below_drew1) | exact HB.out)⟩⟩
            case round =>
             clear H'
             try clear c1
             try clear c2
             try clear c2b0
             try clear p2
             try clear q2
             try clear hx2
             try clear qi2
             try clear c3
             try clear c4
             try clear c4b0
             try clear c6
             try clear c6b0
             try clear p6
             try clear c7
             try clear c7b0
             try clear p8
             try clear q8
             try clear hx8
             try clear c9
             try clear c9b0
             try clear c9b1
             try clear c10
             try clear c10b0
             try clear c11
             try clear c11b0
             try clear c11b1
             try clear c14
             try clear c15
             try clear c15b0
             try clear c15b1
             try clear c16
             try clear c16b0
             try clear c16b1
             try clear c19
             try clear c19b0
             try clear c19b1
             try clear c20
             try clear c20b0
             try clear c20b1
             try clear p21
             try clear q21
             try clear hx21
             try clear qi21
             try clear c22
             try clear c22b0
             try clear c22b1
             try clear c23
             try clear c23b0
             try clear c23b1
             try clear p24
             try clear q24
             try clear hx24
             try clear qi24
             try clear c25
             try clear c27
             try clear c28
             try clear c28b0
             try clear c29
             try clear c30
             try clear c32
             try clear c33
             try clear p2
             try clear p21
             try clear p24
             try clear p6
             try clear p8
             try clear q2
             try clear q21
             try clear q24
             try clear q8
             obtain ⟨x3_4, x6_4, rfl, HA, HK4, HO_3, HB⟩ := hrel
             cases gk with
             | zero => exact absurd HA.out (by simp [r19_heads.l1])
             | succ k4 =>
              have H := HA.out
              clear HA
              simp only [r19_heads.l1] at H
              by_cases c35 : x6_4 ≤ (ji17.size : Int)
              ·rw [if_pos c35] at H
               have c35b0 : decide (x6_4 ≤ (ji17.size : Int)) = true := decide_eq_true c35
               clear c35
               have HC36 := Aside0.mk H
               clear H
               go_upto_region 13 with (fail)
               go_cut [85] (fun v85 wc => ∃ (kq : Nat) (x85_35 : Bool), v85 = .bool x85_35 ∧ Aside0 (r19_heads.j4 kq a0 x3_4 x4_1 ji17 x6_4 x85_35 = some r) ∧ Aside0 (kq ≤ k4) ∧ Aside0 (Kd.R k24 24 wc w.heap.size (fun _ => True) u3 x3_4) ∧ Aside0 (Below w.heap.size w wc))
               case first =>
                have H := HC36.out
                clear HC36
                by_cases c37 : x6_4 < (ji17.size : Int)
                ·rw [if_pos c37] at H
                 have c37b0 : decide (x6_4 < (ji17.size : Int)) = true := decide_eq_true c37
                 clear c37
                 (first | rw [c37b0] | (simp only [i64_w, i32_w]; rw [c37b0]) | skip)
                 by_cases c38 : 0 ≤ x6_4
                 ·rw [if_pos c38] at H
                  have c38b0 : decide (0 ≤ x6_4) = true := decide_eq_true c38
                  clear c38
                  by_cases c40 : (bt ji17 x6_4) = 47
                  ·rw [if_pos c40] at H
                   have c40b0 : ((bt ji17 x6_4) == 47) = true := beq_iff_eq.mpr c40
                   have c40b1 : ((bt ji17 x6_4) != 47) = false := bne_eq_false_iff_eq.mpr c40
                   clear c40
                   have c41b0 := eq_true (of_decide_eq_true (by first | (with_reducible assumption) | assumption) : 0 ≤ x6_4)
                   have c42b0 := eq_true (of_decide_eq_true (by first | (with_reducible assumption) | assumption) : x6_4 ≤ (ji17.size : Int))
                   obtain ⟨ji43, hji43⟩ : ∃ j_ : ByteArray, (ji17.extract (x6_4 : Int).toNat ji17.size) = j_ := ⟨_, rfl⟩
                   replace H : ((r19_named.f k4 (ji43) (⟨#[58, 64, 47]⟩ : ByteArray)).bind fun t332 => (r19_heads.j4 k4 a0 x3_4 x4_1 ji17 x6_4 (!t332))) = some r := by first | (rw [hji43] at H; exact H) | (simp only [hji43] at H ⊢; exact H) | exact H
                   replace H := Option.bind_eq_some_iff.mp H
                   obtain ⟨t332, A440, H⟩ := H
                   replace H : (r19_heads.j4 k4 a0 x3_4 x4_1 ji17 x6_4 (!t332)) = some r := H
                   have A44 := Aside0.mk A440
                   clear A440
                   have H' := Aside0.mk H
                   clear H
                   have p39 : 0 ≤ (x6_4 : Int) := of_decide_eq_true (by first | (with_reducible assumption) | assumption)
                   have q39 : x6_4 < (ji17.size : Int) := of_decide_eq_true (by first | (with_reducible assumption) | assumption)
                   have hx39 := bt_at ji17 x6_4
                   replace p39 := eq_true p39
                   replace q39 := eq_true q39
                   go_wp2_with (first | (go_at_call 29; (with_reducible refine (r19_named.calls k4 ji43 (⟨#[58, 64, 47]⟩ : ByteArray) t332 _ A44.out).mono ?_); rintro e w' ⟨rfl, ⟨nd, rfl⟩⟩))
                   go_meet
                   case rel => exact ⟨_, (!t332), (by first | rfl | (simp; done) | (simp [*]; done)), H', ⟨by have := HK1.out; have := HJ2.out; have := HJ17.out; have := HK4.out; first | omega | exact Nat.le_refl _⟩, ⟨by (with_reducible repeat (first | apply Kd.R_alloc | apply Kd.R_drewN | apply Kd.R_drew)); exact HO_3.out⟩, ⟨by repeat (first | (with_reducible first | exact HB.out | apply below_alloc | apply pw_below_drewN | apply below_drew1) | exact HB.out)⟩⟩
                  ·rw [if_neg c40] at H
                   have c40b0 : ((bt ji17 x6_4) == 47) = false := beq_eq_false_iff_ne.mpr c40
                   have c40b1 : ((bt ji17 x6_4) != 47) = true := bne_iff_ne.mpr c40
                   have H' := Aside0.mk H
                   clear H
                   have p39 : 0 ≤ (x6_4 : Int) := of_decide_eq_true (by first | (with_reducible assumption) | assumption)
                   have q39 : x6_4 < (ji17.size : Int) := of_decide_eq_true (by first | (with_reducible assumption) | assumption)
                   have hx39 := bt_at ji17 x6_4
                   replace p39 := eq_true p39
                   replace q39 := eq_true q39
                   go_wp2
                   go_meet
                   case rel => exact ⟨_, (true), (by first | rfl | (simp; done) | (simp [*]; done)), H', ⟨by have := HK1.out; have := HJ2.out; have := HJ17.out; have := HK4.out; first | omega | exact Nat.le_refl _⟩, ⟨by (with_reducible repeat (first | apply Kd.R_alloc | apply Kd.R_drewN | apply Kd.R_drew)); exact HO_3.out⟩, ⟨by repeat (first | (with_reducible first | exact HB.out | apply below_alloc | apply pw_below_drewN | apply below_drew1) | exact HB.out)⟩⟩
                 ·rw [if_neg c38] at H
                  exact absurd H (by simp)
                ·rw [if_neg c37] at H
                 have c37b0 : decide (x6_4 < (ji17.size : Int)) = false := decide_eq_false c37
                 clear c37
                 (first | rw [c37b0] | (simp only [i64_w, i32_w]; rw [c37b0]) | skip)
                 by_cases c45 : 0 ≤ x6_4
                 ·rw [if_pos c45] at H
                  have c45b0 := eq_true c45
                  have c45b1 : decide (0 ≤ x6_4) = true := decide_eq_true c45
                  clear c45
                  have c46b0 := eq_true (of_decide_eq_true (by first | (with_reducible assumption) | assumption) : x6_4 ≤ (ji17.size : Int))
                  obtain ⟨ji47, hji47⟩ : ∃ j_ : ByteArray, (ji17.extract (x6_4 : Int).toNat ji17.size) = j_ := ⟨_, rfl⟩
                  replace H : ((r19_named.f k4 (ji47) (⟨#[58, 64, 47]⟩ : ByteArray)).bind fun t333 => (r19_heads.j4 k4 a0 x3_4 x4_1 ji17 x6_4 (!t333))) = some r := by first | (rw [hji47] at H; exact H) | (simp only [hji47] at H ⊢; exact H) | exact H
                  replace H := Option.bind_eq_some_iff.mp H
                  obtain ⟨t333, A480, H⟩ := H
                  replace H : (r19_heads.j4 k4 a0 x3_4 x4_1 ji17 x6_4 (!t333)) = some r := H
                  have A48 := Aside0.mk A480
                  clear A480
                  have H' := Aside0.mk H
                  clear H
                  go_wp2_with (first | (go_at_call 29; (with_reducible refine (r19_named.calls k4 ji47 (⟨#[58, 64, 47]⟩ : ByteArray) t333 _ A48.out).mono ?_); rintro e w' ⟨rfl, ⟨nd, rfl⟩⟩))
                  go_meet
                  case rel => exact ⟨_, (!t333), (by first | rfl | (simp; done) | (simp [*]; done)), H', ⟨by have := HK1.out; have := HJ2.out; have := HJ17.out; have := HK4.out; first | omega | exact Nat.le_refl _⟩, ⟨by (with_reducible repeat (first | apply Kd.R_alloc | apply Kd.R_drewN | apply Kd.R_drew)); exact HO_3.out⟩, ⟨by repeat (first | (with_reducible first | exact HB.out | apply below_alloc | apply pw_below_drewN | apply below_drew1) | exact HB.out)⟩⟩
                 ·rw [if_neg c45] at H
                  exact absurd H (by simp)
               case rest =>
                clear HC36
                try clear c1
                try clear c2
                try clear c2b0
                try clear p2
                try clear q2
                try clear hx2
                try clear qi2
                try clear c3
                try clear p3
                try clear q3
                try clear hx3
                try clear c4
                try clear c4b0
                try clear c6
                try clear c6b0
                try clear p6
                try clear c7
                try clear c7b0
                try clear p8
                try clear q8
                try clear hx8
                try clear c9
                try clear c9b0
                try clear c9b1
                try clear c10
                try clear c10b0
                try clear c11
                try clear c11b0
                try clear c11b1
                try clear c14
                try clear c15
                try clear c15b0
                try clear c15b1
                try clear c16
                try clear c16b0
                try clear c16b1
                try clear c19
                try clear c19b0
                try clear c19b1
                try clear c20
                try clear c20b0
                try clear c20b1
                try clear p21
                try clear q21
                try clear hx21
                try clear qi21
                try clear c22
                try clear c22b0
                try clear c22b1
                try clear c23
                try clear c23b0
                try clear c23b1
                try clear p24
                try clear q24
                try clear hx24
                try clear qi24
                try clear c25
                try clear c27
                try clear c28
                try clear c28b0
                try clear c29
                try clear c30
                try clear c32
                try clear c33
                try clear c35
                try clear c35b0
                try clear c37
                try clear c37b0
                try clear c38
                try clear c38b0
                try clear p39
                try clear q39
                try clear hx39
                try clear c40
                try clear c40b0
                try clear c40b1
                try clear c41
                try clear c41b0
                try clear c42
                try clear c42b0
                try clear c45
                try clear c45b0
                try clear c45b1
                try clear c46
                try clear c46b0
                try clear p2
                try clear p21
                try clear p24
                try clear p39
                try clear p6
                try clear p8
                try clear q2
                try clear q21
                try clear q24
                try clear q39
                try clear q8
                obtain ⟨kq, x85_35, rfl, HA, HJ35, HO_3, HB⟩ := hcut
                cases kq with
                | zero => exact absurd HA.out (by simp [r19_heads.j4])
                | succ kj35 =>
                 have H := HA.out
                 clear HA
                 simp only [r19_heads.j4] at H
                 by_cases c49 : x85_35 = true
                 ·subst c49
                  have H1 : (r19_heads.l1 kj35 a0 x3_4 x4_1 ji17 (wrap64 (x6_4 + 1))) = some r := by rw [if_pos rfl] at H; exact H
                  clear H
                  have H := H1
                  clear H1
                  have H' := Aside0.mk H
                  clear H
                  go_wp2
                  go_roundg kj35
                  case measure => have := HK1.out; have := HJ2.out; have := HJ17.out; have := HK4.out; have := HJ35.out; omega
                  case rel => exact ⟨(x3_4), (wrap64 (x6_4 + 1)), (by first | rfl | (simp; done) | (simp [*]; done)), H', ⟨by have := HK1.out; have := HJ2.out; have := HJ17.out; have := HK4.out; have := HJ35.out; omega⟩, ⟨by (with_reducible repeat (first | apply Kd.R_alloc | apply Kd.R_drewN | apply Kd.R_drew)); exact HO_3.out⟩, ⟨by repeat (first | (with_reducible first | exact HB.out | apply below_alloc | apply pw_below_drewN | apply below_drew1) | exact HB.out)⟩⟩
                 ·replace c49 := Bool.eq_false_iff.mpr c49
                  subst c49
                  have H1 : (if 2 ≤ x6_4 then (if x6_4 ≤ (ji17.size : Int) then ((r19_hosts.f kj35 (ji17.extract 2 (x6_4 : Int).toNat)).bind fun t334 => (r19_heads.l2 kj35 a0 x3_4 x4_1 ji17 x6_4 t334 0)) else (none)) else (none)) = some r := by rw [if_neg (show ¬ (false = true) by decide)] at H; exact H
                  clear H
                  have H := H1
                  clear H1
                  by_cases c50 : 2 ≤ x6_4
                  ·rw [if_pos c50] at H
                   have c50b0 := eq_true c50
                   have c50b1 : decide (2 ≤ x6_4) = true := decide_eq_true c50
                   clear c50
                   by_cases c51 : x6_4 ≤ (ji17.size : Int)
                   ·rw [if_pos c51] at H
                    have c51b0 := eq_true c51
                    have c51b1 : decide (x6_4 ≤ (ji17.size : Int)) = true := decide_eq_true c51
                    clear c51
                    obtain ⟨ji52, hji52⟩ : ∃ j_ : ByteArray, (ji17.extract 2 (x6_4 : Int).toNat) = j_ := ⟨_, rfl⟩
                    replace H : ((r19_hosts.f kj35 (ji52)).bind fun t334 => (r19_heads.l2 kj35 a0 x3_4 x4_1 ji17 x6_4 t334 0)) = some r := by first | (rw [hji52] at H; exact H) | (simp only [hji52] at H ⊢; exact H) | exact H
                    replace H := Option.bind_eq_some_iff.mp H
                    obtain ⟨t334, A530, H⟩ := H
                    replace H : (r19_heads.l2 kj35 a0 x3_4 x4_1 ji17 x6_4 t334 0) = some r := H
                    have A53 := Aside0.mk A530
                    clear A530
                    have H' := Aside0.mk H
                    clear H
                    go_wp2_with (first | ((with_reducible refine gate_callee (f := 49) rfl ?_); refine goesL_ (some 89) rfl rfl Try.func49 (by kernel_rfl) rfl #[.string ji52] rfl (by (try simp only [List.map_toArray, List.map_cons, List.map_nil]); first | done | (simp only [hji52]; rfl) | rfl | (simp only [List.length_drop, List.length_take]; rfl)) ?_; (with_reducible refine (r19_hosts.calls kj35 ji52 t334 _ A53.out).mono ?_); rintro e w54 ⟨v335, rfl, ho0, hb⟩; refine ⟨_, rfl, ?_⟩; have n0_ := Aside0.mk (Kd.R_below (by (with_reducible repeat (first | apply Kd.R_alloc | apply Kd.R_drewN | apply Kd.R_drew)); exact HO_3.out) hb); have n1_ := Aside0.mk (Kd.R_lower ho0 (below_size (by repeat (first | (with_reducible first | exact HB.out | apply below_alloc | apply pw_below_drewN | apply below_drew1) | exact HB.out)))); have n2_ := Aside0.mk (below_step (by repeat (first | (with_reducible first | exact HB.out | apply below_alloc | apply pw_below_drewN | apply below_drew1) | exact HB.out)) hb); clear HO_3; clear HB; have HO_3 := n0_; have HO336 := n1_; have HB := n2_; clear n0_ n1_ n2_; (try clear hb); (try clear hb2); (try clear hk); (try clear hi); (try clear ho0)))
                    go_loopg [3, 8] kj35 (fun kq v3 v8 w' => ∃ (x3_6 : List (S24)) (x8_6 : Int), v8 = .int .i64 x8_6 ∧ Aside0 (r19_heads.l2 kq a0 x3_6 x4_1 ji17 x6_4 t334 x8_6 = some r) ∧ Aside0 (kq ≤ kj35) ∧ Aside0 (Kd.R k24 24 w' w.heap.size (fun _ => True) v3 x3_6) ∧ Aside0 (Kd.R Kd.string 9 w' w.heap.size (fun _ => True) v335 t334) ∧ Aside0 (Below w.heap.size w w'))
                    case atStart => exact ⟨(x3_4), (0), (by first | rfl | (simp; done) | (simp [*]; done)), H', ⟨Nat.le_refl _⟩, ⟨by (with_reducible repeat (first | apply Kd.R_alloc | apply Kd.R_drewN | apply Kd.R_drew)); exact HO_3.out⟩, ⟨by (with_reducible repeat (first | apply Kd.R_alloc | apply Kd.R_drewN | apply Kd.R_drew)); exact HO336.out⟩, ⟨by repeat (first | (with_reducible first | exact HB.out | apply below_alloc | apply pw_below_drewN | apply below_drew1) | exact HB.out)⟩⟩
                    case round =>
                     clear H'
                     try clear c1
                     try clear c2
                     try clear c2b0
                     try clear p2
                     try clear q2
                     try clear hx2
                     try clear qi2
                     try clear c3
                     try clear p3
                     try clear q3
                     try clear hx3
                     try clear c4
                     try clear c4b0
                     try clear c5
                     try clear c6
                     try clear c6b0
                     try clear p6
                     try clear c7
                     try clear c7b0
                     try clear p8
                     try clear q8
                     try clear hx8
                     try clear c9
                     try clear c9b0
                     try clear c9b1
                     try clear c10
                     try clear c10b0
                     try clear c11
                     try clear c11b0
                     try clear c11b1
                     try clear c14
                     try clear c15
                     try clear c15b0
                     try clear c15b1
                     try clear c16
                     try clear c16b0
                     try clear c16b1
                     try clear c19
                     try clear c19b0
                     try clear c19b1
                     try clear c20
                     try clear c20b0
                     try clear c20b1
                     try clear p21
                     try clear q21
                     try clear hx21
                     try clear qi21
                     try clear c22
                     try clear c22b0
                     try clear c22b1
                     try clear c23
                     try clear c23b0
                     try clear c23b1
                     try clear p24
                     try clear q24
                     try clear hx24
                     try clear qi24
                     try clear c25
                     try clear c27
                     try clear c28
                     try clear c28b0
                     try clear c29
                     try clear c30
                     try clear c32
                     try clear c33
                     try clear c35
                     try clear c35b0
                     try clear c37
                     try clear c37b0
                     try clear c38
                     try clear c38b0
                     try clear p39
                     try clear q39
                     try clear hx39
                     try clear c40
                     try clear c40b0
                     try clear c40b1
                     try clear c41
                     try clear c41b0
                     try clear c42
                     try clear c42b0
                     try clear c45
                     try clear c45b0
                     try clear c45b1
                     try clear c46
                     try clear c46b0
                     try clear c49
                     try clear c50
                     try clear c50b0
                     try clear c50b1
                     try clear c51
                     try clear c51b0
                     try clear c51b1
                     try clear p2
                     try clear p21
                     try clear p24
                     try clear p3
                     try clear p39
                     try clear p6
                     try clear p8
                     try clear q2
                     try clear q21
                     try clear q24
                     try clear q3
                     try clear q39
                     try clear q8
                     obtain ⟨x3_6, x8_6, rfl, HA, HK6, HO_3, HO_7, HB⟩ := hrel
                     cases gk with
                     | zero => exact absurd HA.out (by simp [r19_heads.l2])
                     | succ k6 =>
                      have H := HA.out
                      clear HA
                      simp only [r19_heads.l2] at H
                      by_cases c55 : x8_6 < (t334.length : Int)
                      ·rw [if_pos c55] at H
                       have c55b0 : decide (x8_6 < (t334.length : Int)) = true := decide_eq_true c55
                       clear c55
                       by_cases c56 : 0 ≤ x8_6
                       ·rw [if_pos c56] at H
                        have c56b0 : decide (0 ≤ x8_6) = true := decide_eq_true c56
                        clear c56
                        by_cases c57 : 0 ≤ x6_4
                        ·rw [if_pos c57] at H
                         have c57b0 := eq_true c57
                         have c57b1 : decide (0 ≤ x6_4) = true := decide_eq_true c57
                         clear c57
                         by_cases c58 : x6_4 ≤ (ji17.size : Int)
                         ·rw [if_pos c58] at H
                          have c58b0 := eq_true c58
                          have c58b1 : decide (x6_4 ≤ (ji17.size : Int)) = true := decide_eq_true c58
                          clear c58
                          obtain ⟨ji59, hji59⟩ : ∃ j_ : ByteArray, (ji17.extract (x6_4 : Int).toNat ji17.size) = j_ := ⟨_, rfl⟩
                          replace H : (if x3_6.length < 3518437208883 then (r19_heads.l2 k6 a0 (x3_6 ++ [(⟨true, rdOf ByteArray.empty t334 x8_6, ji59⟩ : S24)]) x4_1 ji17 x6_4 t334 (wrap64 (x8_6 + 1))) else (none)) = some r := by first | (rw [hji59] at H; exact H) | (simp only [hji59] at H ⊢; exact H) | exact H
                          by_cases c60 : x3_6.length < 3518437208883
                          ·rw [if_pos c60] at H
                           have LMc60 := Aside0.mk c60
                           clear c60
                           obtain ⟨y338, hy338⟩ : ∃ y_ : List (S24), y_ = (x3_6 ++ [(⟨true, rdOf ByteArray.empty t334 x8_6, ji59⟩ : S24)]) := ⟨_, rfl⟩
                           replace H : (r19_heads.l2 k6 a0 y338 x4_1 ji17 x6_4 t334 (wrap64 (x8_6 + 1))) = some r := by first | (rw [hy338]; with_reducible exact H) | (have H2_ := (Option.bind_some _ _).symm.trans H; rw [hy338]; with_reducible exact H2_) | (have H2_ := (Option.bind_some _ _).symm.trans H; with_reducible exact H2_) | with_reducible exact H | (rw [hy338]; exact H) | exact H
                           have Ny338 := Aside0.mk hy338
                           clear hy338
                           have H' := Aside0.mk H
                           clear H
                           obtain ⟨Ao61, co61, eo61⟩ := Kd.R_slice HO_7.out
                           subst eo61
                           try go_wp2
                           have n0_ := Aside0.mk (Kd.R_drew HO_3.out)
                           have n1_ := Aside0.mk (Kd.R_drew HO_7.out)
                           have n2_ := Aside0.mk (below_drew1 HB.out)
                           clear HO_3
                           clear HO_7
                           clear HB
                           have HO_3 := n0_
                           have HO_7 := n1_
                           have HB := n2_
                           clear n0_ n1_ n2_
                           have p337 : 0 ≤ (x8_6 : Int) := of_decide_eq_true (by first | (with_reducible assumption) | assumption)
                           have q337 : x8_6 < (t334.length : Int) := of_decide_eq_true (by first | (with_reducible assumption) | assumption)
                           obtain ⟨ad337, e337, hx337_0⟩ := Kd.at_string (Kd.R_reads' HO_7.out).2.2 x8_6 p337 q337
                           cases e337
                           replace p337 := eq_true p337
                           replace q337 := eq_true q337
                           refine start_ (n := 12) (S := fun w' => w'.cell? (ad337.add (x8_6).toNat) = some (.string (rdOf ByteArray.empty t334 x8_6))) (ds := [9, 10]) #[false, false, false, false, false, false, false, false, false, false, false, false] (by kernel_rfl) rfl rfl (hx337_0) (fun hHeld => ?_); refine with_tabW r19_heads.tab18 r19_heads.bits18 (fun HT_ HW_ => ?_)
                           generalize wr.drew = w62 at HO_3 HO_7 HB hx337_0 hHeld ⊢
                           refine pure_ (i := 0) (N := some 96) (v := ?_) (a' := ?_) #[true, false, false, false, false, false, false, false, false, false, false, false] rfl rfl (any_of HT_.out (by kernel_rfl)) (fun _ _ _ h => h) (Or.inl ⟨by rfl, ?_⟩) ?_ ?_
                           rotate_left
                           ·intro w'
                            go_simp
                            with_reducible rfl
                           rotate_left
                           ·simp only [Act.put, List.setIfInBounds_toArray, List.set_cons_zero, List.set_cons_succ, i64_w, i32_w]
                            rfl
                           refine pure_ (i := 1) (N := some 97) (v := ?_) (a' := ?_) #[true, true, false, false, false, false, false, false, false, false, false, false] rfl rfl (any_of HT_.out (by kernel_rfl)) (fun _ _ _ h => h) (Or.inl ⟨by rfl, ?_⟩) ?_ ?_
                           rotate_left
                           ·intro w'
                            go_simp
                            with_reducible rfl
                           rotate_left
                           ·simp only [Act.put, List.setIfInBounds_toArray, List.set_cons_zero, List.set_cons_succ, i64_w, i32_w]
                            rfl
                           refine pure_ (i := 2) (N := some 98) (v := ?_) (a' := ?_) #[true, true, true, false, false, false, false, false, false, false, false, false] rfl rfl (any_of HT_.out (by kernel_rfl)) (fun _ _ _ h => h) (Or.inl ⟨by rfl, ?_⟩) ?_ ?_
                           rotate_left
                           ·intro w'
                            go_simp
                            with_reducible rfl
                           rotate_left
                           ·simp only [Act.put, List.setIfInBounds_toArray, List.set_cons_zero, List.set_cons_succ, i64_w, i32_w]
                            rfl
                           refine pure_ (i := 3) (N := some 99) (v := ?_) (a' := ?_) #[true, true, true, true, false, false, false, false, false, false, false, false] rfl rfl (any_of HT_.out (by kernel_rfl)) (fun _ _ _ h => h) (Or.inl ⟨by rfl, ?_⟩) ?_ ?_
                           rotate_left
                           ·intro w'
                            go_simp
                            with_reducible rfl
                           rotate_left
                           ·simp only [Act.put, List.setIfInBounds_toArray, List.set_cons_zero, List.set_cons_succ, i64_w, i32_w]
                            rfl
                           refine pure_ (i := 5) (N := some 101) (v := ?_) (a' := ?_) #[true, true, true, true, false, true, false, false, false, false, false, false] rfl rfl (any_of HT_.out (by kernel_rfl)) (fun _ _ _ h => h) (Or.inl ⟨by rfl, ?_⟩) ?_ ?_
                           rotate_left
                           ·intro w'
                            go_simp
                            with_reducible rfl
                           rotate_left
                           ·simp only [Act.put, List.setIfInBounds_toArray, List.set_cons_zero, List.set_cons_succ, i64_w, i32_w]
                            rfl
                           refine pure_ (i := 6) (N := some 102) (v := ?_) (a' := ?_) #[true, true, true, true, false, true, true, false, false, false, false, false] rfl rfl (any_of HT_.out (by kernel_rfl)) (fun _ _ _ h => h) (Or.inl ⟨by rfl, ?_⟩) ?_ ?_
                           rotate_left
                           ·intro w'
                            go_simp
                            with_reducible rfl
                           rotate_left
                           ·simp only [Act.put, List.setIfInBounds_toArray, List.set_cons_zero, List.set_cons_succ, i64_w, i32_w]
                            rfl
                           refine pure_ (i := 7) (N := some 103) (v := ?_) (a' := ?_) #[true, true, true, true, false, true, true, true, false, false, false, false] rfl rfl (any_of HT_.out (by kernel_rfl)) (fun _ _ _ h => h) (Or.inl ⟨by rfl, ?_⟩) ?_ ?_
                           rotate_left
                           ·intro w'
                            go_simp
                            with_reducible rfl
                           rotate_left
                           ·simp only [Act.put, List.setIfInBounds_toArray, List.set_cons_zero, List.set_cons_succ, i64_w, i32_w]
                            rfl
                           refine take_ (i := 4) (N := some 100) (v := ?_) (a' := ?_) #[true, true, true, true, true, true, true, true, false, false, false, false] rfl rfl (take_ofW HT_.out HW_.out (by kernel_rfl)) (fun _ _ _ h => h) (Or.inl ⟨by rfl, ?_⟩) hHeld ?_ ?_
                           rotate_left
                           ·intro w' s0
                            go_simp
                            with_reducible rfl
                           rotate_left
                           ·simp only [Act.put, List.setIfInBounds_toArray, List.set_cons_zero, List.set_cons_succ, i64_w, i32_w]
                            rfl
                           refine pure_ (i := 8) (N := some 104) (v := ?_) (a' := ?_) #[true, true, true, true, true, true, true, true, true, false, false, false] rfl rfl (any_of HT_.out (by kernel_rfl)) (fun _ _ _ h => h) (Or.inl ⟨by rfl, ?_⟩) ?_ ?_
                           rotate_left
                           ·intro w'
                            go_simp
                            with_reducible rfl
                           rotate_left
                           ·simp only [Act.put, List.setIfInBounds_toArray, List.set_cons_zero, List.set_cons_succ, i64_w, i32_w]
                            rfl
                           refine last_ (i := 9) (N := some 105) #[true, true, true, true, true, true, true, true, true, true, false, false] rfl rfl (one_of HT_.out (by kernel_rfl)) (by decide) (fun K hK => ?_)
                           refine value_ (w1 := ?_) (v := ?_) (by rfl) rfl ?_ ?_
                           rotate_left 2
                           ·go_simp
                            constructor
                            ·rfl
                            ·rfl
                           refine hK.out _ _ ?_
                           clear hK K
                           refine norm_ (a' := ?_) ?_ ?_
                           rotate_left
                           ·show Act.put _ (some 105) _ = _
                            simp only [Act.put, List.setIfInBounds_toArray, List.set_cons_zero, List.set_cons_succ, i64_w, i32_w]
                            rfl
                           refine last_ (i := 10) (N := some 106) #[true, true, true, true, true, true, true, true, true, true, true, false] rfl rfl (one_of HT_.out (by kernel_rfl)) (by decide) (fun K hK => ?_)
                           refine Kd.R_append_step k24 (w0 := w) w.heap.size (by rfl) (.tmp 96) (.tmp 105) 26 24 (.agg #[(.bool false), (.string ⟨#[]⟩), (.string ⟨#[]⟩)]) 40 rfl Try.underlying26 info24 rfl (by decide) (by omega) u3 x3_6 (⟨true, rdOf ByteArray.empty t334 x8_6, ji59⟩ : S24) [.bool true, .string (rdOf ByteArray.empty t334 x8_6), .string ji59] (fun _ => True) (fun _ => False) rfl rfl ?aP (fun _ hk => hk.elim) ?aF ?aO ?aB ?aS ?aL ?_
                           (case aP => exact k24_mkM _ _ _ (⟨true, rdOf ByteArray.empty t334 x8_6, ji59⟩ : S24))
                           (case aB => exact (by repeat (first | (with_reducible first | exact HB.out | apply below_alloc | apply pw_below_drewN | apply below_drew1) | exact HB.out)))
                           (case aF => exact (fun _ _ => trivial))
                           (case aO => exact (by (with_reducible repeat (first | apply Kd.R_alloc | apply Kd.R_drewN | apply Kd.R_drew)); exact HO_3.out))
                           (case aS => exact (below_size (by repeat (first | (with_reducible first | exact HB.out | apply below_alloc | apply pw_below_drewN | apply below_drew1) | exact HB.out))))
                           (case aL => have := LMc60.out; omega)
                           intro v339 w63 ho hb hg hat
                           rw [← Ny338.out] at ho
                           have n0_ := Aside0.mk (Kd.R_over' (by (with_reducible repeat (first | apply Kd.R_alloc | apply Kd.R_drewN | apply Kd.R_drew)); exact HO_7.out) (Kd.R_typed (by (with_reducible repeat (first | apply Kd.R_alloc | apply Kd.R_drewN | apply Kd.R_drew)); exact HO_3.out)) (by decide) hg)
                           have n1_ := Aside0.mk (hb)
                           have n2_ := Aside0.mk (ho)
                           clear HO_7
                           clear HB
                           clear HO_3
                           have HO_7 := n0_
                           have HB := n1_
                           have HO340 := n2_
                           clear n0_ n1_ n2_
                           clear ho hb hg hat
                           refine hK.out _ _ ?_
                           clear hK K
                           refine norm_ (a' := ?_) ?_ ?_
                           rotate_left
                           ·show Act.put _ (some 106) _ = _
                            simp only [Act.put, List.setIfInBounds_toArray, List.set_cons_zero, List.set_cons_succ, i64_w, i32_w]
                            rfl
                           refine pure_ (i := 11) (N := some 3) (v := ?_) (a' := ?_) #[true, true, true, true, true, true, true, true, true, true, true, true] rfl rfl (any_of HT_.out (by kernel_rfl)) (fun _ _ _ h => h) (Or.inl ⟨by rfl, ?_⟩) ?_ ?_
                           rotate_left
                           ·intro w'
                            go_simp
                            with_reducible rfl
                           rotate_left
                           ·simp only [Act.put, List.setIfInBounds_toArray, List.set_cons_zero, List.set_cons_succ, i64_w, i32_w]
                            rfl
                           refine done_ (done_of HT_.out (by kernel_rfl)) ?_
                           try go_wp2
                           go_roundg k6
                           case measure => have := HK1.out; have := HJ2.out; have := HJ17.out; have := HK4.out; have := HJ35.out; have := HK6.out; omega
                           case rel => exact ⟨(y338), (wrap64 (x8_6 + 1)), (by first | rfl | (simp; done) | (simp [*]; done)), H', ⟨by have := HK1.out; have := HJ2.out; have := HJ17.out; have := HK4.out; have := HJ35.out; have := HK6.out; omega⟩, ⟨by (with_reducible repeat (first | apply Kd.R_alloc | apply Kd.R_drewN | apply Kd.R_drew)); exact HO340.out⟩, ⟨by (with_reducible repeat (first | apply Kd.R_alloc | apply Kd.R_drewN | apply Kd.R_drew)); exact HO_7.out⟩, ⟨by repeat (first | (with_reducible first | exact HB.out | apply below_alloc | apply pw_below_drewN | apply below_drew1) | exact HB.out)⟩⟩
                          ·rw [if_neg c60] at H
                           exact absurd H (by simp)
                         ·rw [if_neg c58] at H
                          exact absurd H (by simp)
                        ·rw [if_neg c57] at H
                         exact absurd H (by simp)
                       ·rw [if_neg c56] at H
                        exact absurd H (by simp)
                      ·rw [if_neg c55] at H
                       have c55b0 : decide (x8_6 < (t334.length : Int)) = false := decide_eq_false c55
                       clear c55
                       have H' := Aside0.mk H
                       clear H
                       obtain ⟨Ao64, co64, eo64⟩ := Kd.R_slice HO_7.out
                       subst eo64
                       go_wp2
                       go_roundg k6
                       case measure => have := HK1.out; have := HJ2.out; have := HJ17.out; have := HK4.out; have := HJ35.out; have := HK6.out; omega
                       case rel => exact ⟨(x3_6), (wrap64 (x6_4 + 1)), (by first | rfl | (simp; done) | (simp [*]; done)), H', ⟨by have := HK1.out; have := HJ2.out; have := HJ17.out; have := HK4.out; have := HJ35.out; have := HK6.out; omega⟩, ⟨by (with_reducible repeat (first | apply Kd.R_alloc | apply Kd.R_drewN | apply Kd.R_drew)); exact HO_3.out⟩, ⟨by repeat (first | (with_reducible first | exact HB.out | apply below_alloc | apply pw_below_drewN | apply below_drew1) | exact HB.out)⟩⟩
                   ·rw [if_neg c51] at H
                    exact absurd H (by simp)
                  ·rw [if_neg c50] at H
                   exact absurd H (by simp)
              ·rw [if_neg c35] at H
               have c35b0 : decide (x6_4 ≤ (ji17.size : Int)) = false := decide_eq_false c35
               clear c35
               have H' := Aside0.mk H
               clear H
               go_wp2
               go_roundg k4
               case measure => have := HK1.out; have := HJ2.out; have := HJ17.out; have := HK4.out; omega
               case rel => exact ⟨(x3_4), (wrap64 (x4_1 + 1)), (by first | rfl | (simp; done) | (simp [*]; done)), H', ⟨by have := HK1.out; have := HJ2.out; have := HJ17.out; have := HK4.out; omega⟩, ⟨by (with_reducible repeat (first | apply Kd.R_alloc | apply Kd.R_drewN | apply Kd.R_drew)); exact HO_3.out⟩, ⟨by repeat (first | (with_reducible first | exact HB.out | apply below_alloc | apply pw_below_drewN | apply below_drew1) | exact HB.out)⟩⟩
        ·rw [if_neg c16] at H
         exact absurd H (by simp)
       ·rw [if_neg c15] at H
        exact absurd H (by simp)
   ·rw [if_neg c2] at H
    have c2b0 : decide (x4_1 ≤ (a0.size : Int)) = false := decide_eq_false c2
    clear c2
    obtain rfl := Option.some.inj H
    go_wp2
    go_ret
    exact ⟨_, by first | rfl | (simp [errW_none, errW_some] <;> rfl) | (simp [*, errW_none, errW_some] <;> rfl), by (with_reducible repeat (first | apply Kd.R_alloc | apply Kd.R_drewN | apply Kd.R_drew)); exact HO_3.out, by repeat (first | (with_reducible first | exact HB.out | apply below_alloc | apply pw_below_drewN | apply below_drew1) | exact HB.out)⟩

end Go.Proofs.Ytiihgddpejmehaa.ZA

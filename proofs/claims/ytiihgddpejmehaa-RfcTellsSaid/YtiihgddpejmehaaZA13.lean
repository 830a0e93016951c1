/- My own print (tools/mp.py). -/
import Derived.Test.YtiihgddpejmehaaZA0
import Derived.Test.YtiihgddpejmehaaZA9
import Derived.Test.YtiihgddpejmehaaZA12
namespace Go.Proofs.Ytiihgddpejmehaa.ZA
open Go.RowKit Go.Proofs.YtiihgddpejmehaaW.PrintWords Go.Proofs.YtiihgddpejmehaaW.PrintLast Go.Proofs.YtiihgddpejmehaaW.PrintMore
attribute [local go_sem] max2_int min2_int max_two min_two max_three min_three max_four min_four   -- for this text's walks alone
set_option linter.unusedVariables false
set_option linter.unusedSimpArgs false

/-! ### r19_hosts: function 49 -/
mutual
def r19_hosts.l0 : Nat → ByteArray → List ByteArray → Int → Option (List ByteArray)
 | 0, _, _, _ => none
 | k + 1, x0, x3, x4 => if x4 ≤ (x0.size : Int) then (if x4 > 0 then (if 0 ≤ (wrap64 (x4 - 1)) then (if (wrap64 (x4 - 1)) < (x0.size : Int) then (if (bt x0 (wrap64 (x4 - 1))) = 64 then (if (wrap64 (x4 - 1)) ≤ (x0.size : Int) then ((r19_named.f k (x0.extract 0 ((wrap64 (x4 - 1)) : Int).toNat) (⟨#[58]⟩ : ByteArray)).bind fun t313 => (r19_hosts.j1 k x0 x3 x4 (!t313))) else (none)) else (r19_hosts.j1 k x0 x3 x4 true)) else (none)) else (none)) else (r19_hosts.j1 k x0 x3 x4 false)) else (some x3)
def r19_hosts.j1 : Nat → ByteArray → List ByteArray → Int → Bool → Option (List ByteArray)
 | 0, _, _, _, _ => none
 | k + 1, x0, x3, x4, x30 => if x30 = true then (r19_hosts.l0 k x0 x3 (wrap64 (x4 + 1))) else (r19_hosts.l1 k x0 x3 x4 x4)
def r19_hosts.l1 : Nat → ByteArray → List ByteArray → Int → Int → Option (List ByteArray)
 | 0, _, _, _, _ => none
 | k + 1, x0, x3, x4, x5 => if x5 ≤ (x0.size : Int) then (if x5 < (x0.size : Int) then (if 0 ≤ x5 then (r19_hosts.j3 k x0 x3 x4 x5 (x5 == (x0.size : Int)) ((bt x0 x5) == 58)) else (none)) else (r19_hosts.j3 k x0 x3 x4 x5 (x5 == (x0.size : Int)) false)) else (r19_hosts.l0 k x0 x3 (wrap64 (x4 + 1)))
def r19_hosts.j3 : Nat → ByteArray → List ByteArray → Int → Int → Bool → Bool → Option (List ByteArray)
 | 0, _, _, _, _, _, _ => none
 | k + 1, x0, x3, x4, x5, x6, x51 => if x51 = true then (r19_hosts.l2 k x0 x3 x4 x5 true (wrap64 (x5 + 1))) else (if x6 = true then (if 0 ≤ x4 then (if x4 ≤ x5 then (if x5 ≤ (x0.size : Int) then ((r19_isHost.f k (x0.extract (x4 : Int).toNat (x5 : Int).toNat)).bind fun t319 => (if t319 = true then (if x3.length < 8796093022208 then (r19_hosts.l1 k x0 (x3 ++ [x0.extract (x4 : Int).toNat (x5 : Int).toNat]) x4 (wrap64 (x5 + 1))) else (none)) else (r19_hosts.l1 k x0 x3 x4 (wrap64 (x5 + 1))))) else (none)) else (none)) else (none)) else (r19_hosts.l1 k x0 x3 x4 (wrap64 (x5 + 1))))
def r19_hosts.l2 : Nat → ByteArray → List ByteArray → Int → Int → Bool → Int → Option (List ByteArray)
 | 0, _, _, _, _, _, _ => none
 | k + 1, x0, x3, x4, x5, x6, x7 => if x7 < (x0.size : Int) then (if x6 = true then (if 0 ≤ x7 then ((r18_Digit.f (bt x0 x7)).bind fun t314 => (r19_hosts.l2 k x0 x3 x4 x5 t314 (wrap64 (x7 + 1)))) else (none)) else (r19_hosts.l2 k x0 x3 x4 x5 false (wrap64 (x7 + 1)))) else (if x6 = true then (if 0 ≤ x4 then (if x4 ≤ x5 then (if x5 ≤ (x0.size : Int) then ((r19_isHost.f k (x0.extract (x4 : Int).toNat (x5 : Int).toNat)).bind fun t315 => (if t315 = true then (if x3.length < 8796093022208 then (r19_hosts.l1 k x0 (x3 ++ [x0.extract (x4 : Int).toNat (x5 : Int).toNat]) x4 (wrap64 (x5 + 1))) else (none)) else (r19_hosts.l1 k x0 x3 x4 (wrap64 (x5 + 1))))) else (none)) else (none)) else (none)) else (r19_hosts.l1 k x0 x3 x4 (wrap64 (x5 + 1))))
end
def r19_hosts.f (k : Nat) (a0 : ByteArray) : Option (List ByteArray) := r19_hosts.l0 k a0 ([] : List ByteArray) 0
theorem r19_hosts.mono_l : ∀ k, (∀ y0 y1 y2, LeO (r19_hosts.l0 k y0 y1 y2) (r19_hosts.l0 (k + 1) y0 y1 y2)) ∧ (∀ y0 y1 y2 y3, LeO (r19_hosts.j1 k y0 y1 y2 y3) (r19_hosts.j1 (k + 1) y0 y1 y2 y3)) ∧ (∀ y0 y1 y2 y3, LeO (r19_hosts.l1 k y0 y1 y2 y3) (r19_hosts.l1 (k + 1) y0 y1 y2 y3)) ∧ (∀ y0 y1 y2 y3 y4 y5, LeO (r19_hosts.j3 k y0 y1 y2 y3 y4 y5) (r19_hosts.j3 (k + 1) y0 y1 y2 y3 y4 y5)) ∧ (∀ y0 y1 y2 y3 y4 y5, LeO (r19_hosts.l2 k y0 y1 y2 y3 y4 y5) (r19_hosts.l2 (k + 1) y0 y1 y2 y3 y4 y5))
 | 0 => ⟨fun _ _ _ r h => by simp [r19_hosts.l0] at h, fun _ _ _ _ r h => by simp [r19_hosts.j1] at h, fun _ _ _ _ r h => by simp [r19_hosts.l1] at h, fun _ _ _ _ _ _ r h => by simp [r19_hosts.j3] at h, fun _ _ _ _ _ _ r h => by simp [r19_hosts.l2] at h⟩
 | k + 1 => by
  obtain ⟨ih0, ih1, ih2, ih3, ih4⟩ := r19_hosts.mono_l k
  refine ⟨?_, ?_, ?_, ?_, ?_⟩
  ·intro y0 y1 y2
   unfold r19_hosts.l0
   repeat' first
   | (with_reducible exact ih0 _ _ _)
   | (with_reducible exact ih1 _ _ _ _)
   | (with_reducible exact ih2 _ _ _ _)
   | (with_reducible exact ih3 _ _ _ _ _ _)
   | (with_reducible exact ih4 _ _ _ _ _ _)
   | (with_reducible exact r19_isHost.mono _ _)
   | (with_reducible exact r19_named.mono _ _ _)
   | (with_reducible exact LeO.refl _)
   | (with_reducible exact LeO.none _)
   | (with_reducible refine LeO.ite ?_ ?_)
   | (with_reducible refine LeO.bind ?_ (fun _ => ?_))
   | exact ih0 _ _ _
   | exact ih1 _ _ _ _
   | exact ih2 _ _ _ _
   | exact ih3 _ _ _ _ _ _
   | exact ih4 _ _ _ _ _ _
   | exact r19_isHost.mono _ _
   | exact r19_named.mono _ _ _
   | exact LeO.none _
   | refine LeO.ite ?_ ?_
   | refine LeO.bind ?_ (fun _ => ?_)
  ·intro y0 y1 y2 y3
   unfold r19_hosts.j1
   repeat' first
   | (with_reducible exact ih0 _ _ _)
   | (with_reducible exact ih1 _ _ _ _)
   | (with_reducible exact ih2 _ _ _ _)
   | (with_reducible exact ih3 _ _ _ _ _ _)
   | (with_reducible exact ih4 _ _ _ _ _ _)
   | (with_reducible exact r19_isHost.mono _ _)
   | (with_reducible exact r19_named.mono _ _ _)
   | (with_reducible exact LeO.refl _)
   | (with_reducible exact LeO.none _)
   | (with_reducible refine LeO.ite ?_ ?_)
   | (with_reducible refine LeO.bind ?_ (fun _ => ?_))
   | exact ih0 _ _ _
   | exact ih1 _ _ _ _
   | exact ih2 _ _ _ _
   | exact ih3 _ _ _ _ _ _
   | exact ih4 _ _ _ _ _ _
   | exact r19_isHost.mono _ _
   | exact r19_named.mono _ _ _
   | exact LeO.none _
   | refine LeO.ite ?_ ?_
   | refine LeO.bind ?_ (fun _ => ?_)
  ·intro y0 y1 y2 y3
   unfold r19_hosts.l1
   repeat' first
   | (with_reducible exact ih0 _ _ _)
   | (with_reducible exact ih1 _ _ _ _)
   | (with_reducible exact ih2 _ _ _ _)
   | (with_reducible exact ih3 _ _ _ _ _ _)
   | (with_reducible exact ih4 _ _ _ _ _ _)
   | (with_reducible exact r19_isHost.mono _ _)
   | (with_reducible exact r19_named.mono _ _ _)
   | (with_reducible exact LeO.refl _)
   | (with_reducible exact LeO.none _)
   | (with_reducible refine LeO.ite ?_ ?_)
   | (with_reducible refine LeO.bind ?_ (fun _ => ?_))
   | exact ih0 _ _ _
   | exact ih1 _ _ _ _
   | exact ih2 _ _ _ _
   | exact ih3 _ _ _ _ _ _
   | exact ih4 _ _ _ _ _ _
   | exact r19_isHost.mono _ _
   | exact r19_named.mono _ _ _
   | exact LeO.none _
   | refine LeO.ite ?_ ?_
   | refine LeO.bind ?_ (fun _ => ?_)
  ·intro y0 y1 y2 y3 y4 y5
   unfold r19_hosts.j3
   repeat' first
   | (with_reducible exact ih0 _ _ _)
   | (with_reducible exact ih1 _ _ _ _)
   | (with_reducible exact ih2 _ _ _ _)
   | (with_reducible exact ih3 _ _ _ _ _ _)
   | (with_reducible exact ih4 _ _ _ _ _ _)
   | (with_reducible exact r19_isHost.mono _ _)
   | (with_reducible exact r19_named.mono _ _ _)
   | (with_reducible exact LeO.refl _)
   | (with_reducible exact LeO.none _)
   | (with_reducible refine LeO.ite ?_ ?_)
   | (with_reducible refine LeO.bind ?_ (fun _ => ?_))
   | exact ih0 _ _ _
   | exact ih1 _ _ _ _
   | exact ih2 _ _ _ _
   | exact ih3 _ _ _ _ _ _
   | exact ih4 _ _ _ _ _ _
   | exact r19_isHost.mono _ _
   | exact r19_named.mono _ _ _
   | exact LeO.none _
   | refine LeO.ite ?_ ?_
   | refine LeO.bind ?_ (fun _ => ?_)
  ·intro y0 y1 y2 y3 y4 y5
   unfold r19_hosts.l2
   repeat' first
   | (with_reducible exact ih0 _ _ _)
   | (with_reducible exact ih1 _ _ _ _)
   | (with_reducible exact ih2 _ _ _ _)
   | (with_reducible exact ih3 _ _ _ _ _ _)
   | (with_reducible exact ih4 _ _ _ _ _ _)
   | (with_reducible exact r19_isHost.mono _ _)
   | (with_reducible exact r19_named.mono _ _ _)
   | (with_reducible exact LeO.refl _)
   | (with_reducible exact LeO.none _)
   | (with_reducible refine LeO.ite ?_ ?_)
   | (with_reducible refine LeO.bind ?_ (fun _ => ?_))
   | exact ih0 _ _ _
   | exact ih1 _ _ _ _
   | exact ih2 _ _ _ _
   | exact ih3 _ _ _ _ _ _
   | exact ih4 _ _ _ _ _ _
   | exact r19_isHost.mono _ _
   | exact r19_named.mono _ _ _
   | exact LeO.none _
   | refine LeO.ite ?_ ?_
   | refine LeO.bind ?_ (fun _ => ?_)
theorem r19_hosts.mono : ∀ a0 k, LeO (r19_hosts.f k a0) (r19_hosts.f (k + 1) a0) := by
 intro a0 k
 obtain ⟨ih0, ih1, ih2, ih3, ih4⟩ := r19_hosts.mono_l k
 unfold r19_hosts.f
 repeat' first
   | (with_reducible exact ih0 _ _ _)
   | (with_reducible exact ih1 _ _ _ _)
   | (with_reducible exact ih2 _ _ _ _)
   | (with_reducible exact ih3 _ _ _ _ _ _)
   | (with_reducible exact ih4 _ _ _ _ _ _)
   | (with_reducible exact r19_isHost.mono _ _)
   | (with_reducible exact r19_named.mono _ _ _)
   | (with_reducible exact LeO.refl _)
   | (with_reducible exact LeO.none _)
   | (with_reducible refine LeO.ite ?_ ?_)
   | (with_reducible refine LeO.bind ?_ (fun _ => ?_))
   | exact ih0 _ _ _
   | exact ih1 _ _ _ _
   | exact ih2 _ _ _ _
   | exact ih3 _ _ _ _ _ _
   | exact ih4 _ _ _ _ _ _
   | exact r19_isHost.mono _ _
   | exact r19_named.mono _ _ _
   | exact LeO.none _
   | refine LeO.ite ?_ ?_
   | refine LeO.bind ?_ (fun _ => ?_)
set_option maxHeartbeats 8000000 in
set_option maxRecDepth 100000 in
theorem r19_hosts.calls (k : Nat) (a0 : ByteArray) (r : List ByteArray) (w : World) (h : r19_hosts.f k a0 = some r) :
  Calls Try.prog 49 #[.string a0] w fun e w' => ∃ v0_ : Value, e = .returned (v0_) ∧ Kd.R Kd.string 9 w' w.heap.size (fun _ => True) v0_ r ∧ Below w.heap.size w w' := by
 have HB := Aside0.mk (Below.refl w.heap.size w)
 have H : (r19_hosts.l0 k a0 ([] : List ByteArray) 0) = some r := h
 clear h
 have H' := Aside0.mk H
 clear H
 go_enter Try.func49, Try.ntmps49
 go_wp2
 go_loopg [3, 4] k (fun kq v3 v4 w' => ∃ (x3_1 : List ByteArray) (x4_1 : Int), v4 = .int .i64 x4_1 ∧ Aside0 (r19_hosts.l0 kq a0 x3_1 x4_1 = some r) ∧ Aside0 (kq ≤ k) ∧ Aside0 (Kd.R Kd.string 9 w' w.heap.size (fun _ => True) v3 x3_1) ∧ Aside0 (Below w.heap.size w w'))
 case atStart => exact ⟨(([] : List ByteArray)), (0), (by first | rfl | (simp; done) | (simp [*]; done)), H', ⟨Nat.le_refl _⟩, ⟨by first | exact Kd.R_nil _ _ _ _ _ | exact Kd.N_nil _ _ _ _ _ | exact Kd.V_nil _ _ _ _ _ | exact Kd.Q_nil _ _ _ _ _ | exact Kd.S_nil _ _ _ _ _⟩, ⟨by repeat (first | (with_reducible first | exact HB.out | apply below_alloc | apply pw_below_drewN | apply below_drew1) | exact HB.out)⟩⟩
 case round =>
  clear H'
  obtain ⟨x3_1, x4_1, rfl, HA, HK1, HO_3, HB⟩ := hrel
  cases gk with
  | zero => exact absurd HA.out (by simp [r19_hosts.l0])
  | succ k1 =>
   have H := HA.out
   clear HA
   simp only [r19_hosts.l0] at H
   by_cases c2 : x4_1 ≤ (a0.size : Int)
   ·rw [if_pos c2] at H
    have c2b0 : decide (x4_1 ≤ (a0.size : Int)) = true := decide_eq_true c2
    clear c2
    have HC3 := Aside0.mk H
    clear H
    go_upto_region 5 with (fail)
    go_cut [30] (fun v30 wc => ∃ (kq : Nat) (x30_2 : Bool), v30 = .bool x30_2 ∧ Aside0 (r19_hosts.j1 kq a0 x3_1 x4_1 x30_2 = some r) ∧ Aside0 (kq ≤ k1) ∧ Aside0 (Kd.R Kd.string 9 wc w.heap.size (fun _ => True) u3 x3_1) ∧ Aside0 (Below w.heap.size w wc))
    case first =>
     have H := HC3.out
     clear HC3
     by_cases c4 : x4_1 > 0
     ·rw [if_pos c4] at H
      have c4b0 : decide (0 < x4_1) = true := decide_eq_true c4
      clear c4
      (first | rw [c4b0] | (simp only [i64_w, i32_w]; rw [c4b0]) | skip)
      obtain ⟨ji5, hji5⟩ : ∃ j_ : Int, (wrap64 (x4_1 - 1)) = j_ := ⟨_, rfl⟩
      replace H : (if 0 ≤ (ji5) then (if (ji5) < (a0.size : Int) then (if (bt a0 (ji5)) = 64 then (if (ji5) ≤ (a0.size : Int) then ((r19_named.f k1 (a0.extract 0 ((ji5) : Int).toNat) (⟨#[58]⟩ : ByteArray)).bind fun t313 => (r19_hosts.j1 k1 a0 x3_1 x4_1 (!t313))) else (none)) else (r19_hosts.j1 k1 a0 x3_1 x4_1 true)) else (none)) else (none)) = some r := by first | (rw [hji5] at H; exact H) | (simp only [hji5] at H ⊢; exact H)
      have hji5w : (IntKind.i64.wrap (x4_1 - 1)) = ji5 := (i64_w _).trans hji5
      by_cases c6 : 0 ≤ (ji5)
      ·rw [if_pos c6] at H
       have c6b0 : decide (0 ≤ (ji5)) = true := decide_eq_true c6
       clear c6
       by_cases c7 : (ji5) < (a0.size : Int)
       ·rw [if_pos c7] at H
        have c7b0 : decide ((ji5) < (a0.size : Int)) = true := decide_eq_true c7
        clear c7
        by_cases c9 : (bt a0 (ji5)) = 64
        ·rw [if_pos c9] at H
         have c9b0 : ((bt a0 (ji5)) == 64) = true := beq_iff_eq.mpr c9
         have c9b1 : ((bt a0 (ji5)) != 64) = false := bne_eq_false_iff_eq.mpr c9
         clear c9
         have c10b0 := eq_true (of_decide_eq_true (by first | (with_reducible assumption) | assumption) : 0 ≤ (ji5))
         by_cases c11 : (ji5) ≤ (a0.size : Int)
         ·rw [if_pos c11] at H
          have c11b0 := eq_true c11
          have c11b1 : decide ((ji5) ≤ (a0.size : Int)) = true := decide_eq_true c11
          clear c11
          replace H := Option.bind_eq_some_iff.mp H
          obtain ⟨t313, A120, H⟩ := H
          replace H : (r19_hosts.j1 k1 a0 x3_1 x4_1 (!t313)) = some r := H
          have A12 := Aside0.mk A120
          clear A120
          have H' := Aside0.mk H
          clear H
          have p8 : 0 ≤ ((ji5) : Int) := of_decide_eq_true (by first | (with_reducible assumption) | assumption)
          have q8 : (ji5) < (a0.size : Int) := of_decide_eq_true (by first | (with_reducible assumption) | assumption)
          have hx8 := bt_at a0 (ji5)
          replace p8 := eq_true p8
          replace q8 := eq_true q8
          go_wp2_with (first | (go_at_call 29; (with_reducible refine (r19_named.calls k1 (a0.extract 0 ((ji5) : Int).toNat) (⟨#[58]⟩ : ByteArray) t313 _ A12.out).mono ?_); rintro e w' ⟨rfl, ⟨nd, rfl⟩⟩))
          go_meet
          case rel => exact ⟨_, (!t313), (by first | rfl | (simp; done) | (simp [*]; done)), H', ⟨by have := HK1.out; first | omega | exact Nat.le_refl _⟩, ⟨by (with_reducible repeat (first | apply Kd.R_alloc | apply Kd.R_drewN | apply Kd.R_drew)); exact HO_3.out⟩, ⟨by repeat (first | (with_reducible first | exact HB.out | apply below_alloc | apply pw_below_drewN | apply below_drew1) | exact HB.out)⟩⟩
         ·rw [if_neg c11] at H
          exact absurd H (by simp)
        ·rw [if_neg c9] at H
         have c9b0 : ((bt a0 (ji5)) == 64) = false := beq_eq_false_iff_ne.mpr c9
         have c9b1 : ((bt a0 (ji5)) != 64) = true := bne_iff_ne.mpr c9
         have H' := Aside0.mk H
         clear H
         have p8 : 0 ≤ ((ji5) : Int) := of_decide_eq_true (by first | (with_reducible assumption) | assumption)
         have q8 : (ji5) < (a0.size : Int) := of_decide_eq_true (by first | (with_reducible assumption) | assumption)
         have hx8 := bt_at a0 (ji5)
         replace p8 := eq_true p8
         replace q8 := eq_true q8
         go_wp2
         go_meet
         case rel => exact ⟨_, (true), (by first | rfl | (simp; done) | (simp [*]; done)), H', ⟨by have := HK1.out; first | omega | exact Nat.le_refl _⟩, ⟨by (with_reducible repeat (first | apply Kd.R_alloc | apply Kd.R_drewN | apply Kd.R_drew)); exact HO_3.out⟩, ⟨by repeat (first | (with_reducible first | exact HB.out | apply below_alloc | apply pw_below_drewN | apply below_drew1) | exact HB.out)⟩⟩
       ·rw [if_neg c7] at H
        exact absurd H (by simp)
      ·rw [if_neg c6] at H
       exact absurd H (by simp)
     ·rw [if_neg c4] at H
      have c4b0 : decide (0 < x4_1) = false := decide_eq_false c4
      clear c4
      (first | rw [c4b0] | (simp only [i64_w, i32_w]; rw [c4b0]) | skip)
      have H' := Aside0.mk H
      clear H
      go_wp2
      go_meet
      case rel => exact ⟨_, (false), (by first | rfl | (simp; done) | (simp [*]; done)), H', ⟨by have := HK1.out; first | omega | exact Nat.le_refl _⟩, ⟨by (with_reducible repeat (first | apply Kd.R_alloc | apply Kd.R_drewN | apply Kd.R_drew)); exact HO_3.out⟩, ⟨by repeat (first | (with_reducible first | exact HB.out | apply below_alloc | apply pw_below_drewN | apply below_drew1) | exact HB.out)⟩⟩
    case rest =>
     clear HC3
     try clear c1
     try clear c2
     try clear c2b0
     try clear p2
     try clear c4
     try clear c4b0
     try clear c6
     try clear c6b0
     try clear p6
     try clear c7
     try clear c7b0
     try clear p8
     try clear q8
     try clear hx8
     try clear c9
     try clear c9b0
     try clear c9b1
     try clear c10
     try clear c10b0
     try clear c11
     try clear c11b0
     try clear c11b1
     try clear p8
     try clear q8
     obtain ⟨kq, x30_2, rfl, HA, HJ2, HO_3, HB⟩ := hcut
     cases kq with
     | zero => exact absurd HA.out (by simp [r19_hosts.j1])
     | succ kj2 =>
      have H := HA.out
      clear HA
      simp only [r19_hosts.j1] at H
      by_cases c13 : x30_2 = true
      ·subst c13
       have H1 : (r19_hosts.l0 kj2 a0 x3_1 (wrap64 (x4_1 + 1))) = some r := by rw [if_pos rfl] at H; exact H
       clear H
       have H := H1
       clear H1
       have H' := Aside0.mk H
       clear H
       go_wp2
       go_roundg kj2
       case measure => have := HK1.out; have := HJ2.out; omega
       case rel => exact ⟨(x3_1), (wrap64 (x4_1 + 1)), (by first | rfl | (simp; done) | (simp [*]; done)), H', ⟨by have := HK1.out; have := HJ2.out; omega⟩, ⟨by (with_reducible repeat (first | apply Kd.R_alloc | apply Kd.R_drewN | apply Kd.R_drew)); exact HO_3.out⟩, ⟨by repeat (first | (with_reducible first | exact HB.out | apply below_alloc | apply pw_below_drewN | apply below_drew1) | exact HB.out)⟩⟩
      ·replace c13 := Bool.eq_false_iff.mpr c13
       subst c13
       have H1 : (r19_hosts.l1 kj2 a0 x3_1 x4_1 x4_1) = some r := by rw [if_neg (show ¬ (false = true) by decide)] at H; exact H
       clear H
       have H := H1
       clear H1
       have H' := Aside0.mk H
       clear H
       go_wp2
       go_loopg [3, 5] kj2 (fun kq v3 v5 w' => ∃ (x3_3 : List ByteArray) (x5_3 : Int), v5 = .int .i64 x5_3 ∧ Aside0 (r19_hosts.l1 kq a0 x3_3 x4_1 x5_3 = some r) ∧ Aside0 (kq ≤ kj2) ∧ Aside0 (Kd.R Kd.string 9 w' w.heap.size (fun _ => True) v3 x3_3) ∧ Aside0 (Below w.heap.size w w'))
       case atStart => exact ⟨(x3_1), (x4_1), (by first | rfl | (simp; done) | (simp [*]; done)), H', ⟨Nat.le_refl _⟩, ⟨by (with_reducible repeat (first | apply Kd.R_alloc | apply Kd.R_drewN | apply Kd.R_drew)); exact HO_3.out⟩, ⟨by repeat (first | (with_reducible first | exact HB.out | apply below_alloc | apply pw_below_drewN | apply below_drew1) | exact HB.out)⟩⟩
       case round =>
        clear H'
        try clear c1
        try clear c2
        try clear c2b0
        try clear p2
        try clear c4
        try clear c4b0
        try clear c6
        try clear c6b0
        try clear p6
        try clear c7
        try clear c7b0
        try clear p8
        try clear q8
        try clear hx8
        try clear c9
        try clear c9b0
        try clear c9b1
        try clear c10
        try clear c10b0
        try clear c11
        try clear c11b0
        try clear c11b1
        try clear c13
        try clear p2
        try clear p6
        try clear p8
        try clear q8
        obtain ⟨x3_3, x5_3, rfl, HA, HK3, HO_3, HB⟩ := hrel
        cases gk with
        | zero => exact absurd HA.out (by simp [r19_hosts.l1])
        | succ k3 =>
         have H := HA.out
         clear HA
         simp only [r19_hosts.l1] at H
         by_cases c14 : x5_3 ≤ (a0.size : Int)
         ·rw [if_pos c14] at H
          have c14b0 : decide (x5_3 ≤ (a0.size : Int)) = true := decide_eq_true c14
          clear c14
          have HC15 := Aside0.mk H
          clear H
          go_upto_region 10 with (fail)
          go_cut [51] (fun v51 wc => ∃ (kq : Nat) (x51_14 : Bool), v51 = .bool x51_14 ∧ Aside0 (r19_hosts.j3 kq a0 x3_3 x4_1 x5_3 (x5_3 == (a0.size : Int)) x51_14 = some r) ∧ Aside0 (kq ≤ k3) ∧ Aside0 (Kd.R Kd.string 9 wc w.heap.size (fun _ => True) u3 x3_3) ∧ Aside0 (Below w.heap.size w wc))
          case first =>
           have H := HC15.out
           clear HC15
           by_cases c16 : x5_3 < (a0.size : Int)
           ·rw [if_pos c16] at H
            have c16b0 : decide (x5_3 < (a0.size : Int)) = true := decide_eq_true c16
            clear c16
            (first | rw [c16b0] | (simp only [i64_w, i32_w]; rw [c16b0]) | skip)
            by_cases c17 : 0 ≤ x5_3
            ·rw [if_pos c17] at H
             have c17b0 : decide (0 ≤ x5_3) = true := decide_eq_true c17
             clear c17
             have H' := Aside0.mk H
             clear H
             have p18 : 0 ≤ (x5_3 : Int) := of_decide_eq_true (by first | (with_reducible assumption) | assumption)
             have q18 : x5_3 < (a0.size : Int) := of_decide_eq_true (by first | (with_reducible assumption) | assumption)
             have hx18 := bt_at a0 x5_3
             replace p18 := eq_true p18
             replace q18 := eq_true q18
             go_wp2
             go_meet
             case rel => exact ⟨_, (((bt a0 x5_3) == 58)), (by first | rfl | (simp; done) | (simp [*]; done)), H', ⟨by have := HK1.out; have := HJ2.out; have := HK3.out; first | omega | exact Nat.le_refl _⟩, ⟨by (with_reducible repeat (first | apply Kd.R_alloc | apply Kd.R_drewN | apply Kd.R_drew)); exact HO_3.out⟩, ⟨by repeat (first | (with_reducible first | exact HB.out | apply below_alloc | apply pw_below_drewN | apply below_drew1) | exact HB.out)⟩⟩
            ·rw [if_neg c17] at H
             exact absurd H (by simp)
           ·rw [if_neg c16] at H
            have c16b0 : decide (x5_3 < (a0.size : Int)) = false := decide_eq_false c16
            clear c16
            (first | rw [c16b0] | (simp only [i64_w, i32_w]; rw [c16b0]) | skip)
            have H' := Aside0.mk H
            clear H
            go_wp2
            go_meet
            case rel => exact ⟨_, (false), (by first | rfl | (simp; done) | (simp [*]; done)), H', ⟨by have := HK1.out; have := HJ2.out; have := HK3.out; first | omega | exact Nat.le_refl _⟩, ⟨by (with_reducible repeat (first | apply Kd.R_alloc | apply Kd.R_drewN | apply Kd.R_drew)); exact HO_3.out⟩, ⟨by repeat (first | (with_reducible first | exact HB.out | apply below_alloc | apply pw_below_drewN | apply below_drew1) | exact HB.out)⟩⟩
          case rest =>
           clear HC15
           try clear c1
           try clear p1
           try clear q1
           try clear hx1
           try clear c2
           try clear c2b0
           try clear p2
           try clear c4
           try clear c4b0
           try clear c6
           try clear c6b0
           try clear p6
           try clear c7
           try clear c7b0
           try clear p8
           try clear q8
           try clear hx8
           try clear c9
           try clear c9b0
           try clear c9b1
           try clear c10
           try clear c10b0
           try clear c11
           try clear c11b0
           try clear c11b1
           try clear c13
           try clear c14
           try clear c14b0
           try clear c16
           try clear c16b0
           try clear c17
           try clear c17b0
           try clear p18
           try clear q18
           try clear hx18
           try clear p18
           try clear p2
           try clear p6
           try clear p8
           try clear q18
           try clear q8
           obtain ⟨kq, x51_14, rfl, HA, HJ14, HO_3, HB⟩ := hcut
           cases kq with
           | zero => exact absurd HA.out (by simp [r19_hosts.j3])
           | succ kj14 =>
            have H := HA.out
            clear HA
            simp only [r19_hosts.j3] at H
            by_cases c19 : x51_14 = true
            ·subst c19
             have H1 : (r19_hosts.l2 kj14 a0 x3_3 x4_1 x5_3 true (wrap64 (x5_3 + 1))) = some r := by rw [if_pos rfl] at H; exact H
             clear H
             have H := H1
             clear H1
             have H' := Aside0.mk H
             clear H
             go_wp2
             go_loopg [6, 7] kj14 (fun kq v6 v7 w' => ∃ (x6_5 : Bool) (x7_5 : Int), v6 = .bool x6_5 ∧ v7 = .int .i64 x7_5 ∧ Aside0 (r19_hosts.l2 kq a0 x3_3 x4_1 x5_3 x6_5 x7_5 = some r) ∧ Aside0 (kq ≤ kj14) ∧ Aside0 (Kd.R Kd.string 9 w' w.heap.size (fun _ => True) u3 x3_3) ∧ Aside0 (Below w.heap.size w w'))
             case atStart => exact ⟨(true), (wrap64 (x5_3 + 1)), (by first | rfl | (simp; done) | (simp [*]; done)), (by first | rfl | (simp; done) | (simp [*]; done)), H', ⟨Nat.le_refl _⟩, ⟨by (with_reducible repeat (first | apply Kd.R_alloc | apply Kd.R_drewN | apply Kd.R_drew)); exact HO_3.out⟩, ⟨by repeat (first | (with_reducible first | exact HB.out | apply below_alloc | apply pw_below_drewN | apply below_drew1) | exact HB.out)⟩⟩
             case round =>
              clear H'
              try clear c1
              try clear p1
              try clear q1
              try clear hx1
              try clear c2
              try clear c2b0
              try clear p2
              try clear c4
              try clear c4b0
              try clear c6
              try clear c6b0
              try clear p6
              try clear c7
              try clear c7b0
              try clear p8
              try clear q8
              try clear hx8
              try clear c9
              try clear c9b0
              try clear c9b1
              try clear c10
              try clear c10b0
              try clear c11
              try clear c11b0
              try clear c11b1
              try clear c13
              try clear c14
              try clear c14b0
              try clear c16
              try clear c16b0
              try clear c17
              try clear c17b0
              try clear p18
              try clear q18
              try clear hx18
              try clear c19
              try clear p1
              try clear p18
              try clear p2
              try clear p6
              try clear p8
              try clear q1
              try clear q18
              try clear q8
              obtain ⟨x6_5, x7_5, rfl, rfl, HA, HK5, HO_3, HB⟩ := hrel
              cases gk with
              | zero => exact absurd HA.out (by simp [r19_hosts.l2])
              | succ k5 =>
               have H := HA.out
               clear HA
               simp only [r19_hosts.l2] at H
               by_cases c20 : x7_5 < (a0.size : Int)
               ·rw [if_pos c20] at H
                have c20b0 : decide (x7_5 < (a0.size : Int)) = true := decide_eq_true c20
                clear c20
                by_cases c21 : x6_5 = true
                ·subst c21
                 have H1 : (if 0 ≤ x7_5 then ((r18_Digit.f (bt a0 x7_5)).bind fun t314 => (r19_hosts.l2 k5 a0 x3_3 x4_1 x5_3 t314 (wrap64 (x7_5 + 1)))) else (none)) = some r := by rw [if_pos rfl] at H; exact H
                 clear H
                 have H := H1
                 clear H1
                 by_cases c22 : 0 ≤ x7_5
                 ·rw [if_pos c22] at H
                  have c22b0 : decide (0 ≤ x7_5) = true := decide_eq_true c22
                  clear c22
                  replace H := Option.bind_eq_some_iff.mp H
                  obtain ⟨t314, A240, H⟩ := H
                  replace H : (r19_hosts.l2 k5 a0 x3_3 x4_1 x5_3 t314 (wrap64 (x7_5 + 1))) = some r := H
                  have A24 := Aside0.mk A240
                  clear A240
                  have H' := Aside0.mk H
                  clear H
                  have p23 : 0 ≤ (x7_5 : Int) := of_decide_eq_true (by first | (with_reducible assumption) | assumption)
                  have q23 : x7_5 < (a0.size : Int) := of_decide_eq_true (by first | (with_reducible assumption) | assumption)
                  have hx23 := bt_at a0 x7_5
                  replace p23 := eq_true p23
                  replace q23 := eq_true q23
                  go_wp2_with (first | (go_at_call 58; (with_reducible refine (r18_Digit.calls (bt a0 x7_5) t314 _ A24.out).mono ?_); rintro e w' ⟨rfl, ⟨nd, rfl⟩⟩))
                  go_roundg k5
                  case measure => have := HK1.out; have := HJ2.out; have := HK3.out; have := HJ14.out; have := HK5.out; omega
                  case rel => exact ⟨(t314), (wrap64 (x7_5 + 1)), (by first | rfl | (simp; done) | (simp [*]; done)), (by first | rfl | (simp; done) | (simp [*]; done)), H', ⟨by have := HK1.out; have := HJ2.out; have := HK3.out; have := HJ14.out; have := HK5.out; omega⟩, ⟨by (with_reducible repeat (first | apply Kd.R_alloc | apply Kd.R_drewN | apply Kd.R_drew)); exact HO_3.out⟩, ⟨by repeat (first | (with_reducible first | exact HB.out | apply below_alloc | apply pw_below_drewN | apply below_drew1) | exact HB.out)⟩⟩
                 ·rw [if_neg c22] at H
                  exact absurd H (by simp)
                ·replace c21 := Bool.eq_false_iff.mpr c21
                 subst c21
                 have H1 : (r19_hosts.l2 k5 a0 x3_3 x4_1 x5_3 false (wrap64 (x7_5 + 1))) = some r := by rw [if_neg (show ¬ (false = true) by decide)] at H; exact H
                 clear H
                 have H := H1
                 clear H1
                 have H' := Aside0.mk H
                 clear H
                 go_wp2
                 go_roundg k5
                 case measure => have := HK1.out; have := HJ2.out; have := HK3.out; have := HJ14.out; have := HK5.out; omega
                 case rel => exact ⟨(false), (wrap64 (x7_5 + 1)), (by first | rfl | (simp; done) | (simp [*]; done)), (by first | rfl | (simp; done) | (simp [*]; done)), H', ⟨by have := HK1.out; have := HJ2.out; have := HK3.out; have := HJ14.out; have := HK5.out; omega⟩, ⟨by (with_reducible repeat (first | apply Kd.R_alloc | apply Kd.R_drewN | apply Kd.R_drew)); exact HO_3.out⟩, ⟨by repeat (first | (with_reducible first | exact HB.out | apply below_alloc | apply pw_below_drewN | apply below_drew1) | exact HB.out)⟩⟩
               ·rw [if_neg c20] at H
                have c20b0 : decide (x7_5 < (a0.size : Int)) = false := decide_eq_false c20
                clear c20
                by_cases c25 : x6_5 = true
                ·subst c25
                 have H1 : (if 0 ≤ x4_1 then (if x4_1 ≤ x5_3 then (if x5_3 ≤ (a0.size : Int) then ((r19_isHost.f k5 (a0.extract (x4_1 : Int).toNat (x5_3 : Int).toNat)).bind fun t315 => (if t315 = true then (if x3_3.length < 8796093022208 then (r19_hosts.l1 k5 a0 (x3_3 ++ [a0.extract (x4_1 : Int).toNat (x5_3 : Int).toNat]) x4_1 (wrap64 (x5_3 + 1))) else (none)) else (r19_hosts.l1 k5 a0 x3_3 x4_1 (wrap64 (x5_3 + 1))))) else (none)) else (none)) else (none)) = some r := by rw [if_pos rfl] at H; exact H
                 clear H
                 have H := H1
                 clear H1
                 by_cases c26 : 0 ≤ x4_1
                 ·rw [if_pos c26] at H
                  have c26b0 := eq_true c26
                  have c26b1 : decide (0 ≤ x4_1) = true := decide_eq_true c26
                  clear c26
                  by_cases c27 : x4_1 ≤ x5_3
                  ·rw [if_pos c27] at H
                   have c27b0 := eq_true c27
                   have c27b1 : decide (x4_1 ≤ x5_3) = true := decide_eq_true c27
                   clear c27
                   by_cases c28 : x5_3 ≤ (a0.size : Int)
                   ·rw [if_pos c28] at H
                    have c28b0 := eq_true c28
                    have c28b1 : decide (x5_3 ≤ (a0.size : Int)) = true := decide_eq_true c28
                    clear c28
                    replace H := Option.bind_eq_some_iff.mp H
                    obtain ⟨t315, A290, H⟩ := H
                    replace H : (if t315 = true then (if x3_3.length < 8796093022208 then (r19_hosts.l1 k5 a0 (x3_3 ++ [a0.extract (x4_1 : Int).toNat (x5_3 : Int).toNat]) x4_1 (wrap64 (x5_3 + 1))) else (none)) else (r19_hosts.l1 k5 a0 x3_3 x4_1 (wrap64 (x5_3 + 1)))) = some r := H
                    have A29 := Aside0.mk A290
                    clear A290
                    by_cases c30 : t315 = true
                    ·subst c30
                     have H1 : (if x3_3.length < 8796093022208 then (r19_hosts.l1 k5 a0 (x3_3 ++ [a0.extract (x4_1 : Int).toNat (x5_3 : Int).toNat]) x4_1 (wrap64 (x5_3 + 1))) else (none)) = some r := by rw [if_pos rfl] at H; exact H
                     clear H
                     have H := H1
                     clear H1
                     have c31b0 := eq_true (of_decide_eq_true (by first | (with_reducible assumption) | assumption) : 0 ≤ x4_1)
                     have c32b0 := eq_true (of_decide_eq_true (by first | (with_reducible assumption) | assumption) : x4_1 ≤ x5_3)
                     have c33b0 := eq_true (of_decide_eq_true (by first | (with_reducible assumption) | assumption) : x5_3 ≤ (a0.size : Int))
                     by_cases c34 : x3_3.length < 8796093022208
                     ·rw [if_pos c34] at H
                      have LMc34 := Aside0.mk c34
                      clear c34
                      obtain ⟨y316, hy316⟩ : ∃ y_ : List ByteArray, y_ = (x3_3 ++ [a0.extract (x4_1 : Int).toNat (x5_3 : Int).toNat]) := ⟨_, rfl⟩
                      replace H : (r19_hosts.l1 k5 a0 y316 x4_1 (wrap64 (x5_3 + 1))) = some r := by first | (rw [hy316]; with_reducible exact H) | (have H2_ := (Option.bind_some _ _).symm.trans H; rw [hy316]; with_reducible exact H2_) | (have H2_ := (Option.bind_some _ _).symm.trans H; with_reducible exact H2_) | with_reducible exact H | (rw [hy316]; exact H) | exact H
                      have Ny316 := Aside0.mk hy316
                      clear hy316
                      have H' := Aside0.mk H
                      clear H
                      go_wp2_with (first | (go_at_call 59; (with_reducible refine (r19_isHost.calls k5 (a0.extract (x4_1 : Int).toNat (x5_3 : Int).toNat) true _ A29.out).mono ?_); rintro e w' ⟨rfl, ⟨nd, rfl⟩⟩) | ((with_reducible refine gate_builtin (b := .append) (xs := #[.tmp 75, .tmp 80]) rfl ?_); at_builtin; refine Kd.R_append Kd.string (w0 := w) w.heap.size rfl (.tmp 75) (.tmp 80) 22 9 (.string ⟨#[]⟩) 16 rfl Try.underlying22 info9 rfl (by decide) (by omega) u3 x3_3 (a0.extract (x4_1 : Int).toNat (x5_3 : Int).toNat) [.string (a0.extract (x4_1 : Int).toNat (x5_3 : Int).toNat)] (fun _ => True) (fun _ => False) rfl rfl ?aP (fun _ hk => hk.elim) ?aF ?aO ?aB ?aS ?aL ?_; (case aP => exact rfl); (case aB => exact (by repeat (first | (with_reducible first | exact HB.out | apply below_alloc | apply pw_below_drewN | apply below_drew1) | exact HB.out))); (case aF => exact (fun _ _ => trivial)); (case aO => exact (by (with_reducible repeat (first | apply Kd.R_alloc | apply Kd.R_drewN | apply Kd.R_drew)); exact HO_3.out)); (case aS => exact (below_size (by repeat (first | (with_reducible first | exact HB.out | apply below_alloc | apply pw_below_drewN | apply below_drew1) | exact HB.out)))); (case aL => have := LMc34.out; omega); intro v317 w35 ho hb hg hat; rw [← Ny316.out] at ho; have n0_ := Aside0.mk (hb); have n1_ := Aside0.mk (ho); clear HB; clear HO_3; have HB := n0_; have HO318 := n1_; clear n0_ n1_; clear ho hb hg hat))
                      go_roundg k5
                      case measure => have := HK1.out; have := HJ2.out; have := HK3.out; have := HJ14.out; have := HK5.out; omega
                      case rel => exact ⟨(y316), (wrap64 (x5_3 + 1)), (by first | rfl | (simp; done) | (simp [*]; done)), H', ⟨by have := HK1.out; have := HJ2.out; have := HK3.out; have := HJ14.out; have := HK5.out; omega⟩, ⟨by (with_reducible repeat (first | apply Kd.R_alloc | apply Kd.R_drewN | apply Kd.R_drew)); exact HO318.out⟩, ⟨by repeat (first | (with_reducible first | exact HB.out | apply below_alloc | apply pw_below_drewN | apply below_drew1) | exact HB.out)⟩⟩
                     ·rw [if_neg c34] at H
                      exact absurd H (by simp)
                    ·replace c30 := Bool.eq_false_iff.mpr c30
                     subst c30
                     have H1 : (r19_hosts.l1 k5 a0 x3_3 x4_1 (wrap64 (x5_3 + 1))) = some r := by rw [if_neg (show ¬ (false = true) by decide)] at H; exact H
                     clear H
                     have H := H1
                     clear H1
                     have H' := Aside0.mk H
                     clear H
                     go_wp2_with (first | (go_at_call 59; (with_reducible refine (r19_isHost.calls k5 (a0.extract (x4_1 : Int).toNat (x5_3 : Int).toNat) false _ A29.out).mono ?_); rintro e w' ⟨rfl, ⟨nd, rfl⟩⟩))
                     go_roundg k5
                     case measure => have := HK1.out; have := HJ2.out; have := HK3.out; have := HJ14.out; have := HK5.out; omega
                     case rel => exact ⟨(x3_3), (wrap64 (x5_3 + 1)), (by first | rfl | (simp; done) | (simp [*]; done)), H', ⟨by have := HK1.out; have := HJ2.out; have := HK3.out; have := HJ14.out; have := HK5.out; omega⟩, ⟨by (with_reducible repeat (first | apply Kd.R_alloc | apply Kd.R_drewN | apply Kd.R_drew)); exact HO_3.out⟩, ⟨by repeat (first | (with_reducible first | exact HB.out | apply below_alloc | apply pw_below_drewN | apply below_drew1) | exact HB.out)⟩⟩
                   ·rw [if_neg c28] at H
                    exact absurd H (by simp)
                  ·rw [if_neg c27] at H
                   exact absurd H (by simp)
                 ·rw [if_neg c26] at H
                  exact absurd H (by simp)
                ·replace c25 := Bool.eq_false_iff.mpr c25
                 subst c25
                 have H1 : (r19_hosts.l1 k5 a0 x3_3 x4_1 (wrap64 (x5_3 + 1))) = some r := by rw [if_neg (show ¬ (false = true) by decide)] at H; exact H
                 clear H
                 have H := H1
                 clear H1
                 have H' := Aside0.mk H
                 clear H
                 go_wp2
                 go_roundg k5
                 case measure => have := HK1.out; have := HJ2.out; have := HK3.out; have := HJ14.out; have := HK5.out; omega
                 case rel => exact ⟨(x3_3), (wrap64 (x5_3 + 1)), (by first | rfl | (simp; done) | (simp [*]; done)), H', ⟨by have := HK1.out; have := HJ2.out; have := HK3.out; have := HJ14.out; have := HK5.out; omega⟩, ⟨by (with_reducible repeat (first | apply Kd.R_alloc | apply Kd.R_drewN | apply Kd.R_drew)); exact HO_3.out⟩, ⟨by repeat (first | (with_reducible first | exact HB.out | apply below_alloc | apply pw_below_drewN | apply below_drew1) | exact HB.out)⟩⟩
            ·replace c19 := Bool.eq_false_iff.mpr c19
             subst c19
             have H1 : (if (x5_3 == (a0.size : Int)) = true then (if 0 ≤ x4_1 then (if x4_1 ≤ x5_3 then (if x5_3 ≤ (a0.size : Int) then ((r19_isHost.f kj14 (a0.extract (x4_1 : Int).toNat (x5_3 : Int).toNat)).bind fun t319 => (if t319 = true then (if x3_3.length < 8796093022208 then (r19_hosts.l1 kj14 a0 (x3_3 ++ [a0.extract (x4_1 : Int).toNat (x5_3 : Int).toNat]) x4_1 (wrap64 (x5_3 + 1))) else (none)) else (r19_hosts.l1 kj14 a0 x3_3 x4_1 (wrap64 (x5_3 + 1))))) else (none)) else (none)) else (none)) else (r19_hosts.l1 kj14 a0 x3_3 x4_1 (wrap64 (x5_3 + 1)))) = some r := by rw [if_neg (show ¬ (false = true) by decide)] at H; exact H
             clear H
             have H := H1
             clear H1
             by_cases c36 : (x5_3 == (a0.size : Int)) = true
             ·rw [if_pos c36] at H
              have c36b0 : (x5_3 == (a0.size : Int)) = true := c36
              (try (have c36b1 : decide (x5_3 = (a0.size : Int)) = true := by simpa using c36))
              (try (have c36b2 : (x5_3 == (a0.size : Int)) = true := by simpa using c36))
              clear c36
              by_cases c37 : 0 ≤ x4_1
              ·rw [if_pos c37] at H
               have c37b0 := eq_true c37
               have c37b1 : decide (0 ≤ x4_1) = true := decide_eq_true c37
               clear c37
               by_cases c38 : x4_1 ≤ x5_3
               ·rw [if_pos c38] at H
                have c38b0 := eq_true c38
                have c38b1 : decide (x4_1 ≤ x5_3) = true := decide_eq_true c38
                clear c38
                by_cases c39 : x5_3 ≤ (a0.size : Int)
                ·rw [if_pos c39] at H
                 have c39b0 := eq_true c39
                 have c39b1 : decide (x5_3 ≤ (a0.size : Int)) = true := decide_eq_true c39
                 clear c39
                 replace H := Option.bind_eq_some_iff.mp H
                 obtain ⟨t319, A400, H⟩ := H
                 replace H : (if t319 = true then (if x3_3.length < 8796093022208 then (r19_hosts.l1 kj14 a0 (x3_3 ++ [a0.extract (x4_1 : Int).toNat (x5_3 : Int).toNat]) x4_1 (wrap64 (x5_3 + 1))) else (none)) else (r19_hosts.l1 kj14 a0 x3_3 x4_1 (wrap64 (x5_3 + 1)))) = some r := H
                 have A40 := Aside0.mk A400
                 clear A400
                 by_cases c41 : t319 = true
                 ·subst c41
                  have H1 : (if x3_3.length < 8796093022208 then (r19_hosts.l1 kj14 a0 (x3_3 ++ [a0.extract (x4_1 : Int).toNat (x5_3 : Int).toNat]) x4_1 (wrap64 (x5_3 + 1))) else (none)) = some r := by rw [if_pos rfl] at H; exact H
                  clear H
                  have H := H1
                  clear H1
                  have c42b0 := eq_true (of_decide_eq_true (by first | (with_reducible assumption) | assumption) : 0 ≤ x4_1)
                  have c43b0 := eq_true (of_decide_eq_true (by first | (with_reducible assumption) | assumption) : x4_1 ≤ x5_3)
                  have c44b0 := eq_true (of_decide_eq_true (by first | (with_reducible assumption) | assumption) : x5_3 ≤ (a0.size : Int))
                  by_cases c45 : x3_3.length < 8796093022208
                  ·rw [if_pos c45] at H
                   have LMc45 := Aside0.mk c45
                   clear c45
                   obtain ⟨y320, hy320⟩ : ∃ y_ : List ByteArray, y_ = (x3_3 ++ [a0.extract (x4_1 : Int).toNat (x5_3 : Int).toNat]) := ⟨_, rfl⟩
                   replace H : (r19_hosts.l1 kj14 a0 y320 x4_1 (wrap64 (x5_3 + 1))) = some r := by first | (rw [hy320]; with_reducible exact H) | (have H2_ := (Option.bind_some _ _).symm.trans H; rw [hy320]; with_reducible exact H2_) | (have H2_ := (Option.bind_some _ _).symm.trans H; with_reducible exact H2_) | with_reducible exact H | (rw [hy320]; exact H) | exact H
                   have Ny320 := Aside0.mk hy320
                   clear hy320
                   have H' := Aside0.mk H
                   clear H
                   go_wp2_with (first | (go_at_call 59; (with_reducible refine (r19_isHost.calls kj14 (a0.extract (x4_1 : Int).toNat (x5_3 : Int).toNat) true _ A40.out).mono ?_); rintro e w' ⟨rfl, ⟨nd, rfl⟩⟩) | ((with_reducible refine gate_builtin (b := .append) (xs := #[.tmp 75, .tmp 80]) rfl ?_); at_builtin; refine Kd.R_append Kd.string (w0 := w) w.heap.size rfl (.tmp 75) (.tmp 80) 22 9 (.string ⟨#[]⟩) 16 rfl Try.underlying22 info9 rfl (by decide) (by omega) u3 x3_3 (a0.extract (x4_1 : Int).toNat (x5_3 : Int).toNat) [.string (a0.extract (x4_1 : Int).toNat (x5_3 : Int).toNat)] (fun _ => True) (fun _ => False) rfl rfl ?aP (fun _ hk => hk.elim) ?aF ?aO ?aB ?aS ?aL ?_; (case aP => exact rfl); (case aB => exact (by repeat (first | (with_reducible first | exact HB.out | apply below_alloc | apply pw_below_drewN | apply below_drew1) | exact HB.out))); (case aF => exact (fun _ _ => trivial)); (case aO => exact (by (with_reducible repeat (first | apply Kd.R_alloc | apply Kd.R_drewN | apply Kd.R_drew)); exact HO_3.out)); (case aS => exact (below_size (by repeat (first | (with_reducible first | exact HB.out | apply below_alloc | apply pw_below_drewN | apply below_drew1) | exact HB.out)))); (case aL => have := LMc45.out; omega); intro v321 w46 ho hb hg hat; rw [← Ny320.out] at ho; have n0_ := Aside0.mk (hb); have n1_ := Aside0.mk (ho); clear HB; clear HO_3; have HB := n0_; have HO322 := n1_; clear n0_ n1_; clear ho hb hg hat))
                   go_roundg kj14
                   case measure => have := HK1.out; have := HJ2.out; have := HK3.out; have := HJ14.out; omega
                   case rel => exact ⟨(y320), (wrap64 (x5_3 + 1)), (by first | rfl | (simp; done) | (simp [*]; done)), H', ⟨by have := HK1.out; have := HJ2.out; have := HK3.out; have := HJ14.out; omega⟩, ⟨by (with_reducible repeat (first | apply Kd.R_alloc | apply Kd.R_drewN | apply Kd.R_drew)); exact HO322.out⟩, ⟨by repeat (first | (with_reducible first | exact HB.out | apply below_alloc | apply pw_below_drewN | apply below_drew1) | exact HB.out)⟩⟩
                  ·rw [if_neg c45] at H
                   exact absurd H (by simp)
                 ·replace c41 := Bool.eq_false_iff.mpr c41
                  subst c41
                  have H1 : (r19_hosts.l1 kj14 a0 x3_3 x4_1 (wrap64 (x5_3 + 1))) = some r := by rw [if_neg (show ¬ (false = true) by decide)] at H; exact H
                  clear H
                  have H := H1
                  clear H1
                  have H' := Aside0.mk H
                  clear H
                  go_wp2_with (first | (go_at_call 59; (with_reducible refine (r19_isHost.calls kj14 (a0.extract (x4_1 : Int).toNat (x5_3 : Int).toNat) false _ A40.out).mono ?_); rintro e w' ⟨rfl, ⟨nd, rfl⟩⟩))
                  go_roundg kj14
                  case measure => have := HK1.out; have := HJ2.out; have := HK3.out; have := HJ14.out; omega
                  case rel => exact ⟨(x3_3), (wrap64 (x5_3 + 1)), (by first | rfl | (simp; done) | (simp [*]; done)), H', ⟨by have := HK1.out; have := HJ2.out; have := HK3.out; have := HJ14.out; omega⟩, ⟨by (with_reducible repeat (first | apply Kd.R_alloc | apply Kd.R_drewN | apply Kd.R_drew)); exact HO_3.out⟩, ⟨by repeat (first | (with_reducible first | exact HB.out | apply below_alloc | apply pw_below_drewN | apply below_drew1) | exact HB.out)⟩⟩
                ·rw [if_neg c39] at H
                 exact absurd H (by simp)
               ·rw [if_neg c38] at H
                exact absurd H (by simp)
              ·rw [if_neg c37] at H
               exact absurd H (by simp)
             ·rw [if_neg c36] at H
              have c36b0 : (x5_3 == (a0.size : Int)) = false := by simpa using c36
              (try (have c36b1 : decide (x5_3 = (a0.size : Int)) = false := by simpa using c36))
              (try (have c36b2 : (x5_3 == (a0.size : Int)) = false := by simpa using c36))
              (try (have c36b3 : ¬ (x5_3 = (a0.size : Int)) := by simpa using c36))
              clear c36
              have H' := Aside0.mk H
              clear H
              go_wp2
              go_roundg kj14
              case measure => have := HK1.out; have := HJ2.out; have := HK3.out; have := HJ14.out; omega
              case rel => exact ⟨(x3_3), (wrap64 (x5_3 + 1)), (by first | rfl | (simp; done) | (simp [*]; done)), H', ⟨by have := HK1.out; have := HJ2.out; have := HK3.out; have := HJ14.out; omega⟩, ⟨by (with_reducible repeat (first | apply Kd.R_alloc | apply Kd.R_drewN | apply Kd.R_drew)); exact HO_3.out⟩, ⟨by repeat (first | (with_reducible first | exact HB.out | apply below_alloc | apply pw_below_drewN | apply below_drew1) | exact HB.out)⟩⟩
         ·rw [if_neg c14] at H
          have c14b0 : decide (x5_3 ≤ (a0.size : Int)) = false := decide_eq_false c14
          clear c14
          have H' := Aside0.mk H
          clear H
          go_wp2
          go_roundg k3
          case measure => have := HK1.out; have := HJ2.out; have := HK3.out; omega
          case rel => exact ⟨(x3_3), (wrap64 (x4_1 + 1)), (by first | rfl | (simp; done) | (simp [*]; done)), H', ⟨by have := HK1.out; have := HJ2.out; have := HK3.out; omega⟩, ⟨by (with_reducible repeat (first | apply Kd.R_alloc | apply Kd.R_drewN | apply Kd.R_drew)); exact HO_3.out⟩, ⟨by repeat (first | (with_reducible first | exact HB.out | apply below_alloc | apply pw_below_drewN | apply below_drew1) | exact HB.out)⟩⟩
   ·rw [if_neg c2] at H
    have c2b0 : decide (x4_1 ≤ (a0.size : Int)) = false := decide_eq_false c2
    clear c2
    obtain rfl := Option.some.inj H
    go_wp2
    go_ret
    exact ⟨_, by first | rfl | (simp [errW_none, errW_some] <;> rfl) | (simp [*, errW_none, errW_some] <;> rfl), by (with_reducible repeat (first | apply Kd.R_alloc | apply Kd.R_drewN | apply Kd.R_drew)); exact HO_3.out, by repeat (first | (with_reducible first | exact HB.out | apply below_alloc | apply pw_below_drewN | apply below_drew1) | exact HB.out)⟩

end Go.Proofs.Ytiihgddpejmehaa.ZA

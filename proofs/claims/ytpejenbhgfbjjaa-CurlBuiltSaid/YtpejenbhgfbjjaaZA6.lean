/- My own print (tools/mp.py) of functions of this seat: each function as a plain Lean function, and the proof that the code does what that function says. -/
import Derived.Test.YtpejenbhgfbjjaaZA0
import Derived.Test.YtpejenbhgfbjjaaZA3
namespace Go.Proofs.Ytpejenbhgfbjjaa.ZA
open Go.RowKit Go.Proofs.YtpejenbhgfbjjaaW.PrintWords Go.Proofs.YtpejenbhgfbjjaaW.PrintLast Go.Proofs.YtpejenbhgfbjjaaW.PrintMore
attribute [local go_sem] max2_int min2_int max_two min_two max_three min_three max_four min_four   -- for this text's walks alone
set_option linter.unusedVariables false
set_option linter.unusedSimpArgs false

/-! ### octets_Not: function 5 -/
/-- All bits turned (words: function 14's text). -/
def notw (x : Int) : Int := 18446744073709551615 - x
def octets_Not.f (a0_0 a0_1 a0_2 a0_3 : Int) : Option (Int × Int × Int × Int) :=
  if (0 ≤ a0_0 ∧ a0_0 ≤ 18446744073709551615) ∧ (0 ≤ a0_1 ∧ a0_1 ≤ 18446744073709551615) ∧ (0 ≤ a0_2 ∧ a0_2 ≤ 18446744073709551615) ∧ (0 ≤ a0_3 ∧ a0_3 ≤ 18446744073709551615) then some (notw a0_0, notw a0_1, notw a0_2, notw a0_3) else none
theorem octets_Not.word (x : Int) (h : 0 ≤ x ∧ x ≤ 18446744073709551615) : Go.bits .xor .u64 (-1) x = notw x := Base.xor_all x h
theorem octets_Not.set (p : Nat → Bool) : octets_Not.f (Base.wd p 0) (Base.wd p 1) (Base.wd p 2) (Base.wd p 3) = some (Base.wd (fun n => !p n) 0, Base.wd (fun n => !p n) 1, Base.wd (fun n => !p n) 2, Base.wd (fun n => !p n) 3) := by
  have h : ∀ j, 0 ≤ Base.wd p j ∧ Base.wd p j ≤ 18446744073709551615 := fun j => by have := Base.wd_lt p j; unfold Base.wd; omega
  unfold octets_Not.f notw
  rw [if_pos ⟨h 0, h 1, h 2, h 3⟩]
  simp only [Base.wd_not]
set_option maxHeartbeats 1000000 in
set_option maxRecDepth 100000 in
theorem octets_Not.any (x0 x1 x2 x3 : Int) (hx : (0 ≤ x0 ∧ x0 ≤ 18446744073709551615) ∧ (0 ≤ x1 ∧ x1 ≤ 18446744073709551615) ∧ (0 ≤ x2 ∧ x2 ≤ 18446744073709551615) ∧ (0 ≤ x3 ∧ x3 ≤ 18446744073709551615)) (w : World) :
    Calls Try.prog 5 #[.agg #[.int .u64 x0, .int .u64 x1, .int .u64 x2, .int .u64 x3]] w fun e w' => e = .returned (.agg #[.int .u64 (notw x0), .int .u64 (notw x1), .int .u64 (notw x2), .int .u64 (notw x3)]) ∧ Below w.heap.size w w' := by
  have HX := Aside0.mk hx
  clear hx
  go_enter Try.func5, Try.ntmps5
  go_wp2
  go_loopw [4] (fun i wr => ∃ (k : Nat) (a b c d : Int), k ≤ 4 ∧ i = .int .i64 k ∧ Aside0 (a = (if 0 < k then notw x0 else x0) ∧ b = (if 1 < k then notw x1 else x1) ∧ c = (if 2 < k then notw x2 else x2) ∧ d = (if 3 < k then notw x3 else x3)) ∧ Aside0 (octets_words.B4 wr w.heap.size a b c d) ∧ Aside0 (octets_words.B4 wr (w.heap.size + 1) 0 0 0 0) ∧ Aside0 (Below w.heap.size w wr)) (fun i _ => 4 - (intOf i).toNat)
  case atStart =>
    refine ⟨0, x0, x1, x2, x3, by omega, rfl, ⟨by simp⟩, ⟨?_⟩, ⟨?_⟩, ⟨?_⟩⟩
    · exact blk_alloc (blk_new _ _) _
    · have := blk_new (w.alloc (Obj.cells #[Value.int .u64 x0, Value.int .u64 x1, Value.int .u64 x2, Value.int .u64 x3] 25)) (Obj.cells #[Value.int .u64 0, Value.int .u64 0, Value.int .u64 0, Value.int .u64 0] 25)
      simpa [octets_words.B4] using this
    · exact (((Below.refl _ _).alloc (Nat.le_refl _) _).alloc (by simp) _)
  case round =>
    obtain ⟨k, a, b, c, d, hk, rfl, he, ha, hc, hd⟩ := hrel
    have fa := fun i => octets_words.free ha.out i
    obtain ⟨a0, a1, a2, a3⟩ := octets_words.cells ha.out
    by_cases hlt : k < 4
    · have q : k = 0 ∨ k = 1 ∨ k = 2 ∨ k = 3 := by omega
      rcases q with rfl | rfl | rfl | rfl
      · have f0 := fa 0
        clear hk hlt fa a1 a2 a3
        go_wp2
        go_roundw
        case rel =>
          obtain ⟨e0, e1, e2, e3⟩ := he.out
          obtain ⟨h0, h1, h2, h3⟩ := HX.out
          refine ⟨1, _, b, c, d, by omega, by go_num, ⟨?_⟩, ⟨blk_put ha.out 0 _ rfl⟩, ⟨blk_far hc.out (by show w.heap.size + 1 ≠ w.heap.size; omega) _⟩, ⟨hd.out.setCell (by simp) _⟩⟩
          simp [e0, e1, e2, e3]
          try exact octets_Not.word _ h0
        case measure => simp [intOf]
      · have f1 := fa 1
        clear hk hlt fa a0 a2 a3
        go_wp2
        go_roundw
        case rel =>
          obtain ⟨e0, e1, e2, e3⟩ := he.out
          obtain ⟨h0, h1, h2, h3⟩ := HX.out
          refine ⟨2, a, _, c, d, by omega, by go_num, ⟨?_⟩, ⟨blk_put ha.out 1 _ rfl⟩, ⟨blk_far hc.out (by show w.heap.size + 1 ≠ w.heap.size; omega) _⟩, ⟨hd.out.setCell (by simp) _⟩⟩
          simp [e0, e1, e2, e3]
          try exact octets_Not.word _ h1
        case measure => simp [intOf]
      · have f2 := fa 2
        clear hk hlt fa a0 a1 a3
        go_wp2
        go_roundw
        case rel =>
          obtain ⟨e0, e1, e2, e3⟩ := he.out
          obtain ⟨h0, h1, h2, h3⟩ := HX.out
          refine ⟨3, a, b, _, d, by omega, by go_num, ⟨?_⟩, ⟨blk_put ha.out 2 _ rfl⟩, ⟨blk_far hc.out (by show w.heap.size + 1 ≠ w.heap.size; omega) _⟩, ⟨hd.out.setCell (by simp) _⟩⟩
          simp [e0, e1, e2, e3]
          try exact octets_Not.word _ h2
        case measure => simp [intOf]
      · have f3 := fa 3
        clear hk hlt fa a0 a1 a2
        go_wp2
        go_roundw
        case rel =>
          obtain ⟨e0, e1, e2, e3⟩ := he.out
          obtain ⟨h0, h1, h2, h3⟩ := HX.out
          refine ⟨4, a, b, c, _, by omega, by go_num, ⟨?_⟩, ⟨blk_put ha.out 3 _ rfl⟩, ⟨blk_far hc.out (by show w.heap.size + 1 ≠ w.heap.size; omega) _⟩, ⟨hd.out.setCell (by simp) _⟩⟩
          simp [e0, e1, e2, e3]
          try exact octets_Not.word _ h3
        case measure => simp [intOf]
    · obtain rfl : k = 4 := by omega
      have fc := fun i => octets_words.free hc.out i
      obtain ⟨c0, c1, c2, c3⟩ := octets_words.cells hc.out
      have f0 := fc 0
      have f1 := fc 1
      have f2 := fc 2
      have f3 := fc 3
      clear fa fc hk hlt
      go_wp2
      obtain ⟨e0, e1, e2, e3⟩ := he.out
      have hz := Aside0.mk (show octets_words.B4 _ (w.heap.size + 1) a b c d from blk_put (blk_put (blk_put (blk_put hc.out 0 (.int .u64 a) rfl) 1 (.int .u64 b) rfl) 2 (.int .u64 c) rfl) 3 (.int .u64 d) rfl)
      have hb4 := Aside0.mk ((((hd.out.setCell (p := ⟨w.heap.size + 1, 0, none⟩) (by simp; try omega) (.int .u64 a)).setCell (p := ⟨w.heap.size + 1, 1, none⟩) (by simp; try omega) (.int .u64 b)).setCell (p := ⟨w.heap.size + 1, 2, none⟩) (by simp; try omega) (.int .u64 c)).setCell (p := ⟨w.heap.size + 1, 3, none⟩) (by simp; try omega) (.int .u64 d))
      revert hz hb4
      generalize ((((wr.setCell ⟨w.heap.size + 1, 0, none⟩ (.int .u64 a)).setCell ⟨w.heap.size + 1, 1, none⟩ (.int .u64 b)).setCell ⟨w.heap.size + 1, 2, none⟩ (.int .u64 c)).setCell ⟨w.heap.size + 1, 3, none⟩ (.int .u64 d)) = W
      intro hz hb4
      obtain ⟨z0, z1, z2, z3⟩ := octets_words.cells hz.out
      refine bodyPost_ret (v := .agg #[.int .u64 a, .int .u64 b, .int .u64 c, .int .u64 d]) (by simp [results, Try.results5, go_sem, z0, z1, z2, z3]) rfl ⟨?_, hb4.out⟩
      simp [e0, e1, e2, e3]
theorem octets_Not.calls (a0_0 a0_1 a0_2 a0_3 : Int) (r1 r2 r3 r4 : Int) (w : World) (h : octets_Not.f a0_0 a0_1 a0_2 a0_3 = some (r1, r2, r3, r4)) :
    Calls Try.prog 5 #[.agg #[.int .u64 a0_0, .int .u64 a0_1, .int .u64 a0_2, .int .u64 a0_3]] w fun e w' => e = .returned (.agg #[.int .u64 r1, .int .u64 r2, .int .u64 r3, .int .u64 r4]) ∧ Below w.heap.size w w' := by
  unfold octets_Not.f at h
  by_cases hc : (0 ≤ a0_0 ∧ a0_0 ≤ 18446744073709551615) ∧ (0 ≤ a0_1 ∧ a0_1 ≤ 18446744073709551615) ∧ (0 ≤ a0_2 ∧ a0_2 ≤ 18446744073709551615) ∧ (0 ≤ a0_3 ∧ a0_3 ≤ 18446744073709551615)
  · rw [if_pos hc] at h
    simp only [Option.some.injEq, Prod.mk.injEq] at h
    obtain ⟨rfl, rfl, rfl, rfl⟩ := h
    exact octets_Not.any _ _ _ _ hc w
  · rw [if_neg hc] at h; exact absurd h (by simp)

/-! ### octets_Or: function 6 -/
-- words: function 14's text
def octets_Or.f (a0_0 a0_1 a0_2 a0_3 a1_0 a1_1 a1_2 a1_3 : Int) : Option (Int × Int × Int × Int) := some (Go.bits .or .u64 a0_0 a1_0, Go.bits .or .u64 a0_1 a1_1, Go.bits .or .u64 a0_2 a1_2, Go.bits .or .u64 a0_3 a1_3)
set_option maxHeartbeats 1000000 in
set_option maxRecDepth 100000 in
theorem octets_Or.any (x0 x1 x2 x3 y0 y1 y2 y3 : Int) (w : World) :
    Calls Try.prog 6 #[.agg #[.int .u64 x0, .int .u64 x1, .int .u64 x2, .int .u64 x3], .agg #[.int .u64 y0, .int .u64 y1, .int .u64 y2, .int .u64 y3]] w fun e w' => e = .returned (.agg #[.int .u64 (Go.bits .or .u64 x0 y0), .int .u64 (Go.bits .or .u64 x1 y1), .int .u64 (Go.bits .or .u64 x2 y2), .int .u64 (Go.bits .or .u64 x3 y3)]) ∧ Below w.heap.size w w' := by
  go_enter Try.func6, Try.ntmps6
  go_wp2
  go_loopw [6] (fun i wr => ∃ (k : Nat) (a b c d : Int), k ≤ 4 ∧ i = .int .i64 k ∧ Aside0 (a = (if 0 < k then Go.bits .or .u64 x0 y0 else x0) ∧ b = (if 1 < k then Go.bits .or .u64 x1 y1 else x1) ∧ c = (if 2 < k then Go.bits .or .u64 x2 y2 else x2) ∧ d = (if 3 < k then Go.bits .or .u64 x3 y3 else x3)) ∧ Aside0 (octets_words.B4 wr w.heap.size a b c d) ∧ Aside0 (octets_words.B4 wr (w.heap.size + 1) y0 y1 y2 y3) ∧ Aside0 (octets_words.B4 wr (w.heap.size + 1 + 1) 0 0 0 0) ∧ Aside0 (Below w.heap.size w wr)) (fun i _ => 4 - (intOf i).toNat)
  case atStart =>
    refine ⟨0, x0, x1, x2, x3, by omega, rfl, ⟨by simp⟩, ⟨?_⟩, ⟨?_⟩, ⟨?_⟩, ⟨?_⟩⟩
    · exact blk_alloc (blk_alloc (blk_new _ _) _) _
    · refine blk_alloc ?_ _; simpa using blk_new (w.alloc _) _
    · have := blk_new ((w.alloc (Obj.cells #[Value.int .u64 x0, Value.int .u64 x1, Value.int .u64 x2, Value.int .u64 x3] 25)).alloc (Obj.cells #[Value.int .u64 y0, Value.int .u64 y1, Value.int .u64 y2, Value.int .u64 y3] 25)) (Obj.cells #[Value.int .u64 0, Value.int .u64 0, Value.int .u64 0, Value.int .u64 0] 25)
      simpa [octets_words.B4] using this
    · exact ((((Below.refl _ _).alloc (Nat.le_refl _) _).alloc (by simp) _).alloc (by simp; omega) _)
  case round =>
    obtain ⟨k, a, b, c, d, hk, rfl, he, ha, hb, hc, hd⟩ := hrel
    have fa := fun i => octets_words.free ha.out i
    obtain ⟨a0, a1, a2, a3⟩ := octets_words.cells ha.out
    obtain ⟨b0, b1, b2, b3⟩ := octets_words.cells hb.out
    by_cases hlt : k < 4
    · have q : k = 0 ∨ k = 1 ∨ k = 2 ∨ k = 3 := by omega
      rcases q with rfl | rfl | rfl | rfl
      · have f0 := fa 0
        clear hk hlt fa a1 b1 a2 b2 a3 b3
        go_wp2
        go_region
        all_goals go_wp2
        all_goals go_roundw
        case rel =>
          obtain ⟨e0, e1, e2, e3⟩ := he.out
          refine ⟨1, _, b, c, d, by omega, by go_num, ⟨?_⟩, ⟨blk_put ha.out 0 _ rfl⟩, ⟨blk_far hb.out (by show w.heap.size + 1 ≠ w.heap.size; omega) _⟩, ⟨blk_far hc.out (by show w.heap.size + 1 + 1 ≠ w.heap.size; omega) _⟩, ⟨(hd.out.setCell (by simp) _).drew⟩⟩
          simp [e0, e1, e2, e3]
        case measure => simp [intOf]
      · have f1 := fa 1
        clear hk hlt fa a0 b0 a2 b2 a3 b3
        go_wp2
        go_region
        all_goals go_wp2
        all_goals go_roundw
        case rel =>
          obtain ⟨e0, e1, e2, e3⟩ := he.out
          refine ⟨2, a, _, c, d, by omega, by go_num, ⟨?_⟩, ⟨blk_put ha.out 1 _ rfl⟩, ⟨blk_far hb.out (by show w.heap.size + 1 ≠ w.heap.size; omega) _⟩, ⟨blk_far hc.out (by show w.heap.size + 1 + 1 ≠ w.heap.size; omega) _⟩, ⟨(hd.out.setCell (by simp) _).drew⟩⟩
          simp [e0, e1, e2, e3]
        case measure => simp [intOf]
      · have f2 := fa 2
        clear hk hlt fa a0 b0 a1 b1 a3 b3
        go_wp2
        go_region
        all_goals go_wp2
        all_goals go_roundw
        case rel =>
          obtain ⟨e0, e1, e2, e3⟩ := he.out
          refine ⟨3, a, b, _, d, by omega, by go_num, ⟨?_⟩, ⟨blk_put ha.out 2 _ rfl⟩, ⟨blk_far hb.out (by show w.heap.size + 1 ≠ w.heap.size; omega) _⟩, ⟨blk_far hc.out (by show w.heap.size + 1 + 1 ≠ w.heap.size; omega) _⟩, ⟨(hd.out.setCell (by simp) _).drew⟩⟩
          simp [e0, e1, e2, e3]
        case measure => simp [intOf]
      · have f3 := fa 3
        clear hk hlt fa a0 b0 a1 b1 a2 b2
        go_wp2
        go_region
        all_goals go_wp2
        all_goals go_roundw
        case rel =>
          obtain ⟨e0, e1, e2, e3⟩ := he.out
          refine ⟨4, a, b, c, _, by omega, by go_num, ⟨?_⟩, ⟨blk_put ha.out 3 _ rfl⟩, ⟨blk_far hb.out (by show w.heap.size + 1 ≠ w.heap.size; omega) _⟩, ⟨blk_far hc.out (by show w.heap.size + 1 + 1 ≠ w.heap.size; omega) _⟩, ⟨(hd.out.setCell (by simp) _).drew⟩⟩
          simp [e0, e1, e2, e3]
        case measure => simp [intOf]
    · obtain rfl : k = 4 := by omega
      have fc := fun i => octets_words.free hc.out i
      obtain ⟨c0, c1, c2, c3⟩ := octets_words.cells hc.out
      have f0 := fc 0
      have f1 := fc 1
      have f2 := fc 2
      have f3 := fc 3
      clear fa fc hk hlt
      go_wp2
      obtain ⟨e0, e1, e2, e3⟩ := he.out
      have hz := Aside0.mk (show octets_words.B4 _ (w.heap.size + 1 + 1) a b c d from blk_put (blk_put (blk_put (blk_put hc.out 0 (.int .u64 a) rfl) 1 (.int .u64 b) rfl) 2 (.int .u64 c) rfl) 3 (.int .u64 d) rfl)
      have hb4 := Aside0.mk ((((hd.out.setCell (p := ⟨w.heap.size + 1 + 1, 0, none⟩) (by simp; try omega) (.int .u64 a)).setCell (p := ⟨w.heap.size + 1 + 1, 1, none⟩) (by simp; try omega) (.int .u64 b)).setCell (p := ⟨w.heap.size + 1 + 1, 2, none⟩) (by simp; try omega) (.int .u64 c)).setCell (p := ⟨w.heap.size + 1 + 1, 3, none⟩) (by simp; try omega) (.int .u64 d))
      revert hz hb4
      generalize ((((wr.setCell ⟨w.heap.size + 1 + 1, 0, none⟩ (.int .u64 a)).setCell ⟨w.heap.size + 1 + 1, 1, none⟩ (.int .u64 b)).setCell ⟨w.heap.size + 1 + 1, 2, none⟩ (.int .u64 c)).setCell ⟨w.heap.size + 1 + 1, 3, none⟩ (.int .u64 d)) = W
      intro hz hb4
      obtain ⟨z0, z1, z2, z3⟩ := octets_words.cells hz.out
      refine bodyPost_ret (v := .agg #[.int .u64 a, .int .u64 b, .int .u64 c, .int .u64 d]) (by simp [results, Try.results6, go_sem, z0, z1, z2, z3]) rfl ⟨?_, hb4.out⟩
      simp [e0, e1, e2, e3]
theorem octets_Or.calls (a0_0 a0_1 a0_2 a0_3 a1_0 a1_1 a1_2 a1_3 : Int) (r1 r2 r3 r4 : Int) (w : World) (h : octets_Or.f a0_0 a0_1 a0_2 a0_3 a1_0 a1_1 a1_2 a1_3 = some (r1, r2, r3, r4)) :
    Calls Try.prog 6 #[.agg #[.int .u64 a0_0, .int .u64 a0_1, .int .u64 a0_2, .int .u64 a0_3], .agg #[.int .u64 a1_0, .int .u64 a1_1, .int .u64 a1_2, .int .u64 a1_3]] w fun e w' => e = .returned (.agg #[.int .u64 r1, .int .u64 r2, .int .u64 r3, .int .u64 r4]) ∧ Below w.heap.size w w' := by
  simp only [octets_Or.f, Option.some.injEq, Prod.mk.injEq] at h
  obtain ⟨rfl, rfl, rfl, rfl⟩ := h
  exact octets_Or.any _ _ _ _ _ _ _ _ w
theorem octets_Or.set (p q : Nat → Bool) : octets_Or.f (Base.wd p 0) (Base.wd p 1) (Base.wd p 2) (Base.wd p 3) (Base.wd q 0) (Base.wd q 1) (Base.wd q 2) (Base.wd q 3) = some (Base.wd (fun n => p n || q n) 0, Base.wd (fun n => p n || q n) 1, Base.wd (fun n => p n || q n) 2, Base.wd (fun n => p n || q n) 3) := by
  simp only [octets_Or.f, Base.wd_or]


/-! ### octets_Range: function 7 -/
-- words: function 14's text
/-- The bytes from a on, below b. -/
def octets_Range.p (a b : Int) : Nat → Bool := fun n => decide (a ≤ (n : Int)) && decide ((n : Int) < b)
theorem octets_Range.step (a : Int) (k : Nat) (h : a ≤ k) : (fun n => octets_Range.p a k n || n == k) = octets_Range.p a (k + 1 : Nat) := by
  funext n
  unfold octets_Range.p
  rw [Bool.eq_iff_iff]
  simp only [Bool.or_eq_true, Bool.and_eq_true, decide_eq_true_eq, beq_iff_eq]
  omega
theorem octets_Range.empty (a : Int) : octets_Range.p a a = fun _ => false := by
  funext n
  unfold octets_Range.p
  rw [Bool.eq_false_iff]
  simp only [ne_eq, Bool.and_eq_true, decide_eq_true_eq]
  omega
def octets_Range.f (a0 a1 : Int) : Option (Int × Int × Int × Int) :=
  if 0 ≤ a0 ∧ a0 ≤ a1 ∧ a1 ≤ 255 then some (Base.wd (octets_Range.p a0 (a1 + 1)) 0, Base.wd (octets_Range.p a0 (a1 + 1)) 1, Base.wd (octets_Range.p a0 (a1 + 1)) 2, Base.wd (octets_Range.p a0 (a1 + 1)) 3) else none
set_option maxHeartbeats 1000000 in
set_option maxRecDepth 100000 in
theorem octets_Range.any (x y : Int) (h0 : 0 ≤ x) (h1 : x ≤ y) (h2 : y ≤ 255) (w : World) :
    Calls Try.prog 7 #[.int .u8 x, .int .u8 y] w fun e w' => e = .returned (.agg #[.int .u64 (Base.wd (octets_Range.p x (y + 1)) 0), .int .u64 (Base.wd (octets_Range.p x (y + 1)) 1), .int .u64 (Base.wd (octets_Range.p x (y + 1)) 2), .int .u64 (Base.wd (octets_Range.p x (y + 1)) 3)]) ∧ Below w.heap.size w w' := by
  go_enter Try.func7, Try.ntmps7
  go_wp2
  go_loopw [6] (fun i wr => ∃ (k : Nat) (a b c d : Int), x ≤ k ∧ k ≤ y + 1 ∧ i = .int .i64 k ∧ Aside0 (a = Base.wd (octets_Range.p x k) 0 ∧ b = Base.wd (octets_Range.p x k) 1 ∧ c = Base.wd (octets_Range.p x k) 2 ∧ d = Base.wd (octets_Range.p x k) 3) ∧ Aside0 (octets_words.B4 wr w.heap.size 0 0 0 0) ∧ Aside0 (octets_words.B4 wr (w.heap.size + 1) a b c d) ∧ Aside0 (Below w.heap.size w wr)) (fun i _ => 256 - (intOf i).toNat)
  case atStart =>
    refine ⟨x.toNat, 0, 0, 0, 0, by omega, by omega, by go_num, ⟨?_⟩, ⟨?_⟩, ⟨?_⟩, ⟨?_⟩⟩
    · have e : ((x.toNat : Nat) : Int) = x := by omega
      rw [e, octets_Range.empty]
      simp only [Base.wd_none, and_self]
    · exact blk_alloc (blk_new _ _) _
    · have := blk_new (w.alloc (Obj.cells #[Value.int .u64 0, Value.int .u64 0, Value.int .u64 0, Value.int .u64 0] 25)) (Obj.cells #[Value.int .u64 0, Value.int .u64 0, Value.int .u64 0, Value.int .u64 0] 25)
      simpa [octets_words.B4] using this
    · exact (((Below.refl _ _).alloc (Nat.le_refl _) _).alloc (by simp) _)
  case round =>
    obtain ⟨k, a, b, c, d, hk, hk2, rfl, he, hb, ha, hd⟩ := hrel
    have fa := fun i => octets_words.free ha.out i
    obtain ⟨a0, a1, a2, a3⟩ := octets_words.cells ha.out
    by_cases hlt : (k : Int) ≤ y
    · have q : k / 64 = 0 ∨ k / 64 = 1 ∨ k / 64 = 2 ∨ k / 64 = 3 := by omega
      have hk8 : (k : Int) < 256 := by omega
      rcases q with q | q | q | q
      · have f0 := fa 0
        have Q := Aside0.mk q
        have hd64 : Aside0 (((k : Nat) : Int) / 64 = 0) := ⟨by omega⟩
        clear q fa a1 a2 a3 
        go_wp2_with fail
        refine (octets_words.bit (k : Int) (by omega) (by omega) _).mono ?_
        rintro e w' ⟨rfl, rfl⟩
        rw [hd64.out]
        go_wp2_with fail
        go_roundw
        case rel =>
          obtain ⟨e0, e1, e2, e3⟩ := he.out
          have q := Q.out
          refine ⟨k + 1, _, b, c, d, by omega, by omega, by go_num, ⟨?_⟩, ⟨blk_far hb.out (by show w.heap.size ≠ w.heap.size + 1; omega) _⟩, ⟨blk_put ha.out 0 _ rfl⟩, ⟨hd.out.setCell (by simp) _⟩⟩
          rw [← octets_Range.step x k hk]
          refine ⟨by rw [e0]; exact Base.wd_add _ 0 _ (by omega), by rw [e1]; exact Base.wd_other _ 1 _ (by omega), by rw [e2]; exact Base.wd_other _ 2 _ (by omega), by rw [e3]; exact Base.wd_other _ 3 _ (by omega)⟩
        case measure => simp [intOf]; omega
      · have f1 := fa 1
        have Q := Aside0.mk q
        have hd64 : Aside0 (((k : Nat) : Int) / 64 = 1) := ⟨by omega⟩
        clear q fa a0 a2 a3 
        go_wp2_with fail
        refine (octets_words.bit (k : Int) (by omega) (by omega) _).mono ?_
        rintro e w' ⟨rfl, rfl⟩
        rw [hd64.out]
        go_wp2_with fail
        go_roundw
        case rel =>
          obtain ⟨e0, e1, e2, e3⟩ := he.out
          have q := Q.out
          refine ⟨k + 1, a, _, c, d, by omega, by omega, by go_num, ⟨?_⟩, ⟨blk_far hb.out (by show w.heap.size ≠ w.heap.size + 1; omega) _⟩, ⟨blk_put ha.out 1 _ rfl⟩, ⟨hd.out.setCell (by simp) _⟩⟩
          rw [← octets_Range.step x k hk]
          refine ⟨by rw [e0]; exact Base.wd_other _ 0 _ (by omega), by rw [e1]; exact Base.wd_add _ 1 _ (by omega), by rw [e2]; exact Base.wd_other _ 2 _ (by omega), by rw [e3]; exact Base.wd_other _ 3 _ (by omega)⟩
        case measure => simp [intOf]; omega
      · have f2 := fa 2
        have Q := Aside0.mk q
        have hd64 : Aside0 (((k : Nat) : Int) / 64 = 2) := ⟨by omega⟩
        clear q fa a0 a1 a3 
        go_wp2_with fail
        refine (octets_words.bit (k : Int) (by omega) (by omega) _).mono ?_
        rintro e w' ⟨rfl, rfl⟩
        rw [hd64.out]
        go_wp2_with fail
        go_roundw
        case rel =>
          obtain ⟨e0, e1, e2, e3⟩ := he.out
          have q := Q.out
          refine ⟨k + 1, a, b, _, d, by omega, by omega, by go_num, ⟨?_⟩, ⟨blk_far hb.out (by show w.heap.size ≠ w.heap.size + 1; omega) _⟩, ⟨blk_put ha.out 2 _ rfl⟩, ⟨hd.out.setCell (by simp) _⟩⟩
          rw [← octets_Range.step x k hk]
          refine ⟨by rw [e0]; exact Base.wd_other _ 0 _ (by omega), by rw [e1]; exact Base.wd_other _ 1 _ (by omega), by rw [e2]; exact Base.wd_add _ 2 _ (by omega), by rw [e3]; exact Base.wd_other _ 3 _ (by omega)⟩
        case measure => simp [intOf]; omega
      · have f3 := fa 3
        have Q := Aside0.mk q
        have hd64 : Aside0 (((k : Nat) : Int) / 64 = 3) := ⟨by omega⟩
        clear q fa a0 a1 a2 
        go_wp2_with fail
        refine (octets_words.bit (k : Int) (by omega) (by omega) _).mono ?_
        rintro e w' ⟨rfl, rfl⟩
        rw [hd64.out]
        go_wp2_with fail
        go_roundw
        case rel =>
          obtain ⟨e0, e1, e2, e3⟩ := he.out
          have q := Q.out
          refine ⟨k + 1, a, b, c, _, by omega, by omega, by go_num, ⟨?_⟩, ⟨blk_far hb.out (by show w.heap.size ≠ w.heap.size + 1; omega) _⟩, ⟨blk_put ha.out 3 _ rfl⟩, ⟨hd.out.setCell (by simp) _⟩⟩
          rw [← octets_Range.step x k hk]
          refine ⟨by rw [e0]; exact Base.wd_other _ 0 _ (by omega), by rw [e1]; exact Base.wd_other _ 1 _ (by omega), by rw [e2]; exact Base.wd_other _ 2 _ (by omega), by rw [e3]; exact Base.wd_add _ 3 _ (by omega)⟩
        case measure => simp [intOf]; omega
    · have hy : (k : Int) = y + 1 := by omega
      have fc := fun i => octets_words.free hb.out i
      obtain ⟨c0, c1, c2, c3⟩ := octets_words.cells hb.out
      have f0 := fc 0
      have f1 := fc 1
      have f2 := fc 2
      have f3 := fc 3
      have HY := Aside0.mk hy
      clear fa fc hy
      go_wp2
      obtain ⟨e0, e1, e2, e3⟩ := he.out
      have hz := Aside0.mk (show octets_words.B4 _ (w.heap.size) a b c d from blk_put (blk_put (blk_put (blk_put hb.out 0 (.int .u64 a) rfl) 1 (.int .u64 b) rfl) 2 (.int .u64 c) rfl) 3 (.int .u64 d) rfl)
      have hb4 := Aside0.mk ((((hd.out.setCell (p := ⟨w.heap.size, 0, none⟩) (by simp; try omega) (.int .u64 a)).setCell (p := ⟨w.heap.size, 1, none⟩) (by simp; try omega) (.int .u64 b)).setCell (p := ⟨w.heap.size, 2, none⟩) (by simp; try omega) (.int .u64 c)).setCell (p := ⟨w.heap.size, 3, none⟩) (by simp; try omega) (.int .u64 d))
      revert hz hb4
      generalize ((((wr.setCell ⟨w.heap.size, 0, none⟩ (.int .u64 a)).setCell ⟨w.heap.size, 1, none⟩ (.int .u64 b)).setCell ⟨w.heap.size, 2, none⟩ (.int .u64 c)).setCell ⟨w.heap.size, 3, none⟩ (.int .u64 d)) = W
      intro hz hb4
      obtain ⟨z0, z1, z2, z3⟩ := octets_words.cells hz.out
      refine bodyPost_ret (v := .agg #[.int .u64 a, .int .u64 b, .int .u64 c, .int .u64 d]) (by simp [results, Try.results7, go_sem, z0, z1, z2, z3]) rfl ⟨?_, hb4.out⟩
      rw [HY.out] at e0 e1 e2 e3
      rw [e0, e1, e2, e3]
theorem octets_Range.calls (a0 a1 : Int) (r1 r2 r3 r4 : Int) (w : World) (h : octets_Range.f a0 a1 = some (r1, r2, r3, r4)) :
    Calls Try.prog 7 #[.int .u8 a0, .int .u8 a1] w fun e w' => e = .returned (.agg #[.int .u64 r1, .int .u64 r2, .int .u64 r3, .int .u64 r4]) ∧ Below w.heap.size w w' := by
  unfold octets_Range.f at h
  by_cases hc : 0 ≤ a0 ∧ a0 ≤ a1 ∧ a1 ≤ 255
  · rw [if_pos hc] at h
    simp only [Option.some.injEq, Prod.mk.injEq] at h
    obtain ⟨rfl, rfl, rfl, rfl⟩ := h
    exact octets_Range.any a0 a1 hc.1 hc.2.1 hc.2.2 w
  · rw [if_neg hc] at h; exact absurd h (by simp)


/-! ### shibbolethlaw22_only: function 9 -/
def shibbolethlaw22_only.l0 : Nat → ByteArray → List Int → Int → Int → Int → Int → Int → Option (ByteArray)
  | 0, _, _, _, _, _, _, _ => none
  | k + 1, x0, x5, x6, x142000, x142001, x142002, x142003 => if x6 < (x0.size : Int) then (if 0 ≤ x6 then ((octets_Has.f x142000 x142001 x142002 x142003 (bt x0 x6)).bind fun t142 => (if t142 = true then (if x5.length < 140737488355328 then (shibbolethlaw22_only.l0 k x0 (x5 ++ [bt x0 x6]) (wrap64 (x6 + 1)) x142000 x142001 x142002 x142003) else (none)) else (shibbolethlaw22_only.l0 k x0 x5 (wrap64 (x6 + 1)) x142000 x142001 x142002 x142003))) else (none)) else (some (strOfNums x5))
def shibbolethlaw22_only.f (k : Nat) (a0 : ByteArray) (a1_0 : Int) (a1_1 : Int) (a1_2 : Int) (a1_3 : Int) : Option (ByteArray) := shibbolethlaw22_only.l0 k a0 ([] : List Int) 0 a1_0 a1_1 a1_2 a1_3
theorem shibbolethlaw22_only.mono_l : ∀ k, (∀ y0 y1 y2 y3 y4 y5 y6, LeO (shibbolethlaw22_only.l0 k y0 y1 y2 y3 y4 y5 y6) (shibbolethlaw22_only.l0 (k + 1) y0 y1 y2 y3 y4 y5 y6))
  | 0 => fun _ _ _ _ _ _ _ r h => by simp [shibbolethlaw22_only.l0] at h
  | k + 1 => by
    have ih0 := shibbolethlaw22_only.mono_l k
    · intro y0 y1 y2 y3 y4 y5 y6
      unfold shibbolethlaw22_only.l0
      repeat' first
      | (with_reducible exact ih0 _ _ _ _ _ _ _)
      | (with_reducible exact LeO.refl _)
      | (with_reducible exact LeO.none _)
      | (with_reducible refine LeO.ite ?_ ?_)
      | (with_reducible refine LeO.bind ?_ (fun _ => ?_))
      | exact ih0 _ _ _ _ _ _ _
      | exact LeO.none _
      | refine LeO.ite ?_ ?_
      | refine LeO.bind ?_ (fun _ => ?_)
theorem shibbolethlaw22_only.mono : ∀ a0 a1 a2 a3 a4 k, LeO (shibbolethlaw22_only.f k a0 a1 a2 a3 a4) (shibbolethlaw22_only.f (k + 1) a0 a1 a2 a3 a4) := by
  intro a0 a1 a2 a3 a4 k
  have ih0 := shibbolethlaw22_only.mono_l k
  unfold shibbolethlaw22_only.f
  repeat' first
      | (with_reducible exact ih0 _ _ _ _ _ _ _)
      | (with_reducible exact LeO.refl _)
      | (with_reducible exact LeO.none _)
      | (with_reducible refine LeO.ite ?_ ?_)
      | (with_reducible refine LeO.bind ?_ (fun _ => ?_))
      | exact ih0 _ _ _ _ _ _ _
      | exact LeO.none _
      | refine LeO.ite ?_ ?_
      | refine LeO.bind ?_ (fun _ => ?_)
set_option maxHeartbeats 8000000 in
set_option maxRecDepth 100000 in
theorem shibbolethlaw22_only.calls (k : Nat) (a0 : ByteArray) (a1_0 : Int) (a1_1 : Int) (a1_2 : Int) (a1_3 : Int) (r : ByteArray) (w : World) (h : shibbolethlaw22_only.f k a0 a1_0 a1_1 a1_2 a1_3 = some r) :
    Calls Try.prog 9 #[.string a0, .agg #[.int .u64 a1_0, .int .u64 a1_1, .int .u64 a1_2, .int .u64 a1_3]] w fun e w' => e = .returned (.string r) ∧ Below w.heap.size w w' := by
  have hu25 := Try.underlying25
  have HB := Aside0.mk (Below.refl w.heap.size w)
  have H : (shibbolethlaw22_only.l0 k a0 ([] : List Int) 0 a1_0 a1_1 a1_2 a1_3) = some r := h
  clear h
  have H' := Aside0.mk H
  clear H
  go_enter Try.func9, Try.ntmps9
  go_wp2_with (first | ((with_reducible refine gate_dst (N := 3) rfl ?_); refine box_event ?hg (N := 3) ?hd (cs := #[.int .u64 a1_0, .int .u64 a1_1, .int .u64 a1_2, .int .u64 a1_3]) (t := 25) ?hr ?_; (case hd => rfl); (case hg => rfl); (case hr => first | (go_simp; done) | (go_simp; rfl)); intro gb141 hg w3 hbox hb; have n0_ := Aside0.mk (below_step (by repeat (first | (with_reducible first | exact HB.out | apply below_alloc | apply pw_below_drewN | apply below_drew1) | exact HB.out)) hb); have n1_ := Aside0.mk (hbox); have n2_ := Aside0.mk ((by rw [hg]; exact (below_size (by repeat (first | (with_reducible first | exact HB.out | apply below_alloc | apply pw_below_drewN | apply below_drew1) | exact HB.out))) : w.heap.size ≤ gb141)); have n3_ := Aside0.mk ((by rw [hg]; exact (below_size (by repeat (first | (with_reducible first | exact HB.out | apply below_alloc | apply pw_below_drewN | apply below_drew1) | exact HB.out))) : w.heap.size ≤ gb141)); clear HB; have HB := n0_; have BK141 := n1_; have GW141 := n2_; have GE141 := n3_; clear n0_ n1_ n2_ n3_; clear hb hbox hg))
  go_loopg [5, 6] k (fun kq v5 v6 w' => ∃ (x5_1 : List Int) (x6_1 : Int), v6 = .int .i64 x6_1 ∧ Aside0 (shibbolethlaw22_only.l0 kq a0 x5_1 x6_1 a1_0 a1_1 a1_2 a1_3 = some r) ∧ Aside0 (kq ≤ k) ∧ Aside0 (Kd.R (Kd.int .u8) 5 w' w.heap.size (fun _ => True) v5 x5_1) ∧ Aside0 (w'.heap[gb141]? = some (.cells #[.int .u64 a1_0, .int .u64 a1_1, .int .u64 a1_2, .int .u64 a1_3] 25 (0, 0))) ∧ Aside0 (Below w.heap.size w w'))
  case atStart => exact ⟨(([] : List Int)), (0), (by first | rfl | (simp; done) | (simp [*]; done)), H', ⟨Nat.le_refl _⟩, ⟨by first | exact Kd.R_nil _ _ _ _ _ | exact Kd.N_nil _ _ _ _ _ | exact Kd.V_nil _ _ _ _ _ | exact Kd.Q_nil _ _ _ _ _ | exact Kd.S_nil _ _ _ _ _⟩, ⟨by (with_reducible repeat (first | refine blk_drewN ?_ _ | refine blk_drew ?_ | refine blk_alloc ?_ _)); exact BK141.out⟩, ⟨by repeat (first | (with_reducible first | exact HB.out | apply below_alloc | apply pw_below_drewN | apply below_drew1 | refine below_set ?_ GE141.out) | exact HB.out)⟩⟩
  case round =>
    clear H'
    try clear p2
    obtain ⟨x5_1, x6_1, rfl, HA, HK1, HO_5, BK141, HB⟩ := hrel
    cases gk with
    | zero => exact absurd HA.out (by simp [shibbolethlaw22_only.l0])
    | succ k1 =>
      have H := HA.out
      clear HA
      simp only [shibbolethlaw22_only.l0] at H
      by_cases c4 : x6_1 < (a0.size : Int)
      · rw [if_pos c4] at H
        have c4b0 : decide (x6_1 < (a0.size : Int)) = true := decide_eq_true c4
        clear c4
        by_cases c5 : 0 ≤ x6_1
        · rw [if_pos c5] at H
          have c5b0 : decide (0 ≤ x6_1) = true := decide_eq_true c5
          clear c5
          replace H := Option.bind_eq_some_iff.mp H
          obtain ⟨t142, A70, H⟩ := H
          replace H : (if t142 = true then (if x5_1.length < 140737488355328 then (shibbolethlaw22_only.l0 k1 a0 (x5_1 ++ [bt a0 x6_1]) (wrap64 (x6_1 + 1)) a1_0 a1_1 a1_2 a1_3) else (none)) else (shibbolethlaw22_only.l0 k1 a0 x5_1 (wrap64 (x6_1 + 1)) a1_0 a1_1 a1_2 a1_3)) = some r := H
          have A7 := Aside0.mk A70
          clear A70
          by_cases c8 : t142 = true
          · subst c8
            have H1 : (if x5_1.length < 140737488355328 then (shibbolethlaw22_only.l0 k1 a0 (x5_1 ++ [bt a0 x6_1]) (wrap64 (x6_1 + 1)) a1_0 a1_1 a1_2 a1_3) else (none)) = some r := by rw [if_pos rfl] at H; exact H
            clear H
            have H := H1
            clear H1
            by_cases c10 : x5_1.length < 140737488355328
            · rw [if_pos c10] at H
              have LMc10 := Aside0.mk c10
              clear c10
              obtain ⟨y143, hy143⟩ : ∃ y_ : List Int, y_ = (x5_1 ++ [bt a0 x6_1]) := ⟨_, rfl⟩
              replace H : (shibbolethlaw22_only.l0 k1 a0 y143 (wrap64 (x6_1 + 1)) a1_0 a1_1 a1_2 a1_3) = some r := by first | (rw [hy143]; with_reducible exact H) | (have H2_ := (Option.bind_some _ _).symm.trans H; rw [hy143]; with_reducible exact H2_) | (have H2_ := (Option.bind_some _ _).symm.trans H; with_reducible exact H2_) | with_reducible exact H | (rw [hy143]; exact H) | exact H
              have Ny143 := Aside0.mk hy143
              clear hy143
              have H' := Aside0.mk H
              clear H
              try go_wp2
              have n0_ := Aside0.mk (Kd.R_drew HO_5.out)
              have n1_ := Aside0.mk (blk_drew BK141.out)
              have n2_ := Aside0.mk (below_drew1 HB.out)
              clear HO_5
              clear BK141
              clear HB
              have HO_5 := n0_
              have BK141 := n1_
              have HB := n2_
              clear n0_ n1_ n2_
              have p6 : 0 ≤ (x6_1 : Int) := of_decide_eq_true (by first | (with_reducible assumption) | assumption)
              have q6 : x6_1 < (a0.size : Int) := of_decide_eq_true (by first | (with_reducible assumption) | assumption)
              have hx6 := bt_at a0 x6_1
              replace p6 := eq_true p6
              replace q6 := eq_true q6
              refine start_ (n := 5) (S := fun w' => w'.cell? ⟨gb141, 0, none⟩ = some (.int .u64 a1_0) ∧ w'.cell? ⟨gb141, 1, none⟩ = some (.int .u64 a1_1) ∧ w'.cell? ⟨gb141, 2, none⟩ = some (.int .u64 a1_2) ∧ w'.cell? ⟨gb141, 3, none⟩ = some (.int .u64 a1_3)) (ds := []) #[false, false, false, false, false] (by kernel_rfl) rfl rfl ⟨(blk_cell BK141.out 0).trans rfl, (blk_cell BK141.out 1).trans rfl, (blk_cell BK141.out 2).trans rfl, (blk_cell BK141.out 3).trans rfl⟩ (fun hHeld => ?_)
              generalize wr.drew = w11 at HO_5 BK141 HB hHeld ⊢
              refine pure_ (i := 1) (N := some 14) (v := ?_) (a' := ?_) #[false, true, false, false, false] rfl rfl (by kernel_rfl) (fun _ _ _ h => h) (Or.inl ⟨by rfl, ?_⟩) ?_ ?_
              rotate_left
              · intro w'
                go_simp
                with_reducible rfl
              rotate_left
              · simp only [Act.put, List.setIfInBounds_toArray, List.set_cons_zero, List.set_cons_succ, i64_w, i32_w]
                rfl
              refine pure_ (i := 2) (N := some 15) (v := ?_) (a' := ?_) #[false, true, true, false, false] rfl rfl (by kernel_rfl) (fun _ _ _ h => h) (Or.inl ⟨by rfl, ?_⟩) ?_ ?_
              rotate_left
              · intro w'
                go_simp
                with_reducible rfl
              rotate_left
              · simp only [Act.put, List.setIfInBounds_toArray, List.set_cons_zero, List.set_cons_succ, i64_w, i32_w]
                rfl
              refine take_ (i := 0) (N := some 13) (v := ?_) (a' := ?_) #[true, true, true, false, false] rfl rfl (by kernel_rfl) (fun _ _ _ h => h) (Or.inl ⟨by rfl, ?_⟩) hHeld ?_ ?_
              rotate_left
              · rintro w' ⟨s0, s1, s2, s3⟩
                go_simp
                with_reducible rfl
              rotate_left
              · simp only [Act.put, List.setIfInBounds_toArray, List.set_cons_zero, List.set_cons_succ, i64_w, i32_w]
                rfl
              refine take_ (i := 3) (N := some 16) (v := ?_) (a' := ?_) #[true, true, true, true, false] rfl rfl (by kernel_rfl) (fun _ _ _ h => h) (Or.inl ⟨by rfl, ?_⟩) hHeld ?_ ?_
              rotate_left
              · rintro w' ⟨s0, s1, s2, s3⟩
                go_simp
                with_reducible rfl
              rotate_left
              · simp only [Act.put, List.setIfInBounds_toArray, List.set_cons_zero, List.set_cons_succ, i64_w, i32_w]
                rfl
              refine one_ (i := 4) (N := some 17) #[true, true, true, true, true] rfl rfl (by kernel_rfl) (by decide) (fun K hK => ?_)
              refine goes_ Try.func14 (by kernel_rfl) rfl #[.agg #[.int .u64 a1_0, .int .u64 a1_1, .int .u64 a1_2, .int .u64 a1_3], .int .u8 (bt a0 x6_1)] (by rfl) rfl rfl (by (try simp only [List.map_toArray, List.map_cons, List.map_nil]); first | done | rfl | (simp only [List.length_drop, List.length_take]; rfl)) ?_
              with_reducible refine (octets_Has.calls a1_0 a1_1 a1_2 a1_3 (bt a0 x6_1) true _ A7.out).mono ?_
              rintro e w12 ⟨rfl, hb⟩
              refine ⟨_, rfl, ?_⟩
              have n0_ := Aside0.mk (Kd.R_below (by (with_reducible repeat (first | apply Kd.R_alloc | apply Kd.R_drewN | apply Kd.R_drew)); exact HO_5.out) hb)
              have n1_ := Aside0.mk (blk_below (g := gb141) (o := .cells #[.int .u64 a1_0, .int .u64 a1_1, .int .u64 a1_2, .int .u64 a1_3] 25 (0, 0)) (by (with_reducible repeat (first | refine blk_drewN ?_ _ | refine blk_drew ?_ | refine blk_alloc ?_ _)); exact BK141.out) hb)
              have n2_ := Aside0.mk (below_step (by repeat (first | (with_reducible first | exact HB.out | apply below_alloc | apply pw_below_drewN | apply below_drew1 | refine below_set ?_ GE141.out) | exact HB.out)) hb)
              clear HO_5
              clear BK141
              clear HB
              have HO_5 := n0_
              have BK141 := n1_
              have HB := n2_
              clear n0_ n1_ n2_
              (try clear hb)
              (try clear hb2)
              (try clear hk)
              (try clear hi)
              refine hK.out _ _ ⟨(blk_cell BK141.out 0).trans rfl, (blk_cell BK141.out 1).trans rfl, (blk_cell BK141.out 2).trans rfl, (blk_cell BK141.out 3).trans rfl⟩ (fun hHeld => ?_)
              clear hK K
              refine norm_ (a' := ?_) ?_ ?_
              rotate_left
              · show Act.put _ (some 17) _ = _
                simp only [Act.put, List.setIfInBounds_toArray, List.set_cons_zero, List.set_cons_succ, i64_w, i32_w]
                rfl
              refine done_ (by kernel_rfl) ?_
              have p9 : 0 ≤ (x6_1 : Int) := of_decide_eq_true (by first | (with_reducible assumption) | assumption)
              have q9 : x6_1 < (a0.size : Int) := of_decide_eq_true (by first | (with_reducible assumption) | assumption)
              have hx9 := bt_at a0 x6_1
              replace p9 := eq_true p9
              replace q9 := eq_true q9
              try go_wp2_with (first | ((with_reducible refine gate_builtin (b := .append) (xs := #[.tmp 18, .tmp 22]) rfl ?_); at_builtin; refine Kd.R_append (Kd.int .u8) (w0 := w) w.heap.size rfl (.tmp 18) (.tmp 22) 30 5 (.int .u8 0) 1 rfl Try.underlying30 info5 rfl (by decide) (by omega) u5 x5_1 (bt a0 x6_1) [.int .u8 (bt a0 x6_1)] (fun _ => True) (fun _ => False) rfl rfl ?aP (fun _ hk => hk.elim) ?aF ?aO ?aB ?aS ?aL ?_; (case aP => exact rfl); (case aB => exact (by repeat (first | (with_reducible first | exact HB.out | apply below_alloc | apply pw_below_drewN | apply below_drew1 | refine below_set ?_ GE141.out) | exact HB.out))); (case aF => exact (fun _ _ => trivial)); (case aO => exact (by (with_reducible repeat (first | apply Kd.R_alloc | apply Kd.R_drewN | apply Kd.R_drew)); exact HO_5.out)); (case aS => exact (below_size (by repeat (first | (with_reducible first | exact HB.out | apply below_alloc | apply pw_below_drewN | apply below_drew1 | refine below_set ?_ GE141.out) | exact HB.out)))); (case aL => have := LMc10.out; omega); intro v144 w13 ho hb hg hat; rw [← Ny143.out] at ho; have n0_ := Aside0.mk (blk_grown (g := gb141) (o := .cells #[.int .u64 a1_0, .int .u64 a1_1, .int .u64 a1_2, .int .u64 a1_3] 25 (0, 0)) (by (with_reducible repeat (first | refine blk_drewN ?_ _ | refine blk_drew ?_ | refine blk_alloc ?_ _)); exact BK141.out) hg (Kd.R_ne HO_5.out BK141.out (by decide))); have n1_ := Aside0.mk (hb); have n2_ := Aside0.mk (ho); clear BK141; clear HB; clear HO_5; have BK141 := n0_; have HB := n1_; have HO145 := n2_; clear n0_ n1_ n2_; clear ho hb hg hat))
              go_roundg k1
              case measure => have := HK1.out; omega
              case rel => exact ⟨(y143), (wrap64 (x6_1 + 1)), (by first | rfl | (simp; done) | (simp [*]; done)), H', ⟨by have := HK1.out; omega⟩, ⟨by (with_reducible repeat (first | apply Kd.R_alloc | apply Kd.R_drewN | apply Kd.R_drew)); exact HO145.out⟩, ⟨by (with_reducible repeat (first | refine blk_drewN ?_ _ | refine blk_drew ?_ | refine blk_alloc ?_ _)); exact BK141.out⟩, ⟨by repeat (first | (with_reducible first | exact HB.out | apply below_alloc | apply pw_below_drewN | apply below_drew1 | refine below_set ?_ GE141.out) | exact HB.out)⟩⟩
            · rw [if_neg c10] at H
              exact absurd H (by simp)
          · replace c8 := Bool.eq_false_iff.mpr c8
            subst c8
            have H1 : (shibbolethlaw22_only.l0 k1 a0 x5_1 (wrap64 (x6_1 + 1)) a1_0 a1_1 a1_2 a1_3) = some r := by rw [if_neg (show ¬ (false = true) by decide)] at H; exact H
            clear H
            have H := H1
            clear H1
            have H' := Aside0.mk H
            clear H
            try go_wp2
            have n0_ := Aside0.mk (Kd.R_drew HO_5.out)
            have n1_ := Aside0.mk (blk_drew BK141.out)
            have n2_ := Aside0.mk (below_drew1 HB.out)
            clear HO_5
            clear BK141
            clear HB
            have HO_5 := n0_
            have BK141 := n1_
            have HB := n2_
            clear n0_ n1_ n2_
            have p6 : 0 ≤ (x6_1 : Int) := of_decide_eq_true (by first | (with_reducible assumption) | assumption)
            have q6 : x6_1 < (a0.size : Int) := of_decide_eq_true (by first | (with_reducible assumption) | assumption)
            have hx6 := bt_at a0 x6_1
            replace p6 := eq_true p6
            replace q6 := eq_true q6
            refine start_ (n := 5) (S := fun w' => w'.cell? ⟨gb141, 0, none⟩ = some (.int .u64 a1_0) ∧ w'.cell? ⟨gb141, 1, none⟩ = some (.int .u64 a1_1) ∧ w'.cell? ⟨gb141, 2, none⟩ = some (.int .u64 a1_2) ∧ w'.cell? ⟨gb141, 3, none⟩ = some (.int .u64 a1_3)) (ds := []) #[false, false, false, false, false] (by kernel_rfl) rfl rfl ⟨(blk_cell BK141.out 0).trans rfl, (blk_cell BK141.out 1).trans rfl, (blk_cell BK141.out 2).trans rfl, (blk_cell BK141.out 3).trans rfl⟩ (fun hHeld => ?_)
            generalize wr.drew = w14 at HO_5 BK141 HB hHeld ⊢
            refine pure_ (i := 1) (N := some 14) (v := ?_) (a' := ?_) #[false, true, false, false, false] rfl rfl (by kernel_rfl) (fun _ _ _ h => h) (Or.inl ⟨by rfl, ?_⟩) ?_ ?_
            rotate_left
            · intro w'
              go_simp
              with_reducible rfl
            rotate_left
            · simp only [Act.put, List.setIfInBounds_toArray, List.set_cons_zero, List.set_cons_succ, i64_w, i32_w]
              rfl
            refine pure_ (i := 2) (N := some 15) (v := ?_) (a' := ?_) #[false, true, true, false, false] rfl rfl (by kernel_rfl) (fun _ _ _ h => h) (Or.inl ⟨by rfl, ?_⟩) ?_ ?_
            rotate_left
            · intro w'
              go_simp
              with_reducible rfl
            rotate_left
            · simp only [Act.put, List.setIfInBounds_toArray, List.set_cons_zero, List.set_cons_succ, i64_w, i32_w]
              rfl
            refine take_ (i := 0) (N := some 13) (v := ?_) (a' := ?_) #[true, true, true, false, false] rfl rfl (by kernel_rfl) (fun _ _ _ h => h) (Or.inl ⟨by rfl, ?_⟩) hHeld ?_ ?_
            rotate_left
            · rintro w' ⟨s0, s1, s2, s3⟩
              go_simp
              with_reducible rfl
            rotate_left
            · simp only [Act.put, List.setIfInBounds_toArray, List.set_cons_zero, List.set_cons_succ, i64_w, i32_w]
              rfl
            refine take_ (i := 3) (N := some 16) (v := ?_) (a' := ?_) #[true, true, true, true, false] rfl rfl (by kernel_rfl) (fun _ _ _ h => h) (Or.inl ⟨by rfl, ?_⟩) hHeld ?_ ?_
            rotate_left
            · rintro w' ⟨s0, s1, s2, s3⟩
              go_simp
              with_reducible rfl
            rotate_left
            · simp only [Act.put, List.setIfInBounds_toArray, List.set_cons_zero, List.set_cons_succ, i64_w, i32_w]
              rfl
            refine one_ (i := 4) (N := some 17) #[true, true, true, true, true] rfl rfl (by kernel_rfl) (by decide) (fun K hK => ?_)
            refine goes_ Try.func14 (by kernel_rfl) rfl #[.agg #[.int .u64 a1_0, .int .u64 a1_1, .int .u64 a1_2, .int .u64 a1_3], .int .u8 (bt a0 x6_1)] (by rfl) rfl rfl (by (try simp only [List.map_toArray, List.map_cons, List.map_nil]); first | done | rfl | (simp only [List.length_drop, List.length_take]; rfl)) ?_
            with_reducible refine (octets_Has.calls a1_0 a1_1 a1_2 a1_3 (bt a0 x6_1) false _ A7.out).mono ?_
            rintro e w15 ⟨rfl, hb⟩
            refine ⟨_, rfl, ?_⟩
            have n0_ := Aside0.mk (Kd.R_below (by (with_reducible repeat (first | apply Kd.R_alloc | apply Kd.R_drewN | apply Kd.R_drew)); exact HO_5.out) hb)
            have n1_ := Aside0.mk (blk_below (g := gb141) (o := .cells #[.int .u64 a1_0, .int .u64 a1_1, .int .u64 a1_2, .int .u64 a1_3] 25 (0, 0)) (by (with_reducible repeat (first | refine blk_drewN ?_ _ | refine blk_drew ?_ | refine blk_alloc ?_ _)); exact BK141.out) hb)
            have n2_ := Aside0.mk (below_step (by repeat (first | (with_reducible first | exact HB.out | apply below_alloc | apply pw_below_drewN | apply below_drew1 | refine below_set ?_ GE141.out) | exact HB.out)) hb)
            clear HO_5
            clear BK141
            clear HB
            have HO_5 := n0_
            have BK141 := n1_
            have HB := n2_
            clear n0_ n1_ n2_
            (try clear hb)
            (try clear hb2)
            (try clear hk)
            (try clear hi)
            refine hK.out _ _ ⟨(blk_cell BK141.out 0).trans rfl, (blk_cell BK141.out 1).trans rfl, (blk_cell BK141.out 2).trans rfl, (blk_cell BK141.out 3).trans rfl⟩ (fun hHeld => ?_)
            clear hK K
            refine norm_ (a' := ?_) ?_ ?_
            rotate_left
            · show Act.put _ (some 17) _ = _
              simp only [Act.put, List.setIfInBounds_toArray, List.set_cons_zero, List.set_cons_succ, i64_w, i32_w]
              rfl
            refine done_ (by kernel_rfl) ?_
            try go_wp2
            go_roundg k1
            case measure => have := HK1.out; omega
            case rel => exact ⟨(x5_1), (wrap64 (x6_1 + 1)), (by first | rfl | (simp; done) | (simp [*]; done)), H', ⟨by have := HK1.out; omega⟩, ⟨by (with_reducible repeat (first | apply Kd.R_alloc | apply Kd.R_drewN | apply Kd.R_drew)); exact HO_5.out⟩, ⟨by (with_reducible repeat (first | refine blk_drewN ?_ _ | refine blk_drew ?_ | refine blk_alloc ?_ _)); exact BK141.out⟩, ⟨by repeat (first | (with_reducible first | exact HB.out | apply below_alloc | apply pw_below_drewN | apply below_drew1 | refine below_set ?_ GE141.out) | exact HB.out)⟩⟩
        · rw [if_neg c5] at H
          exact absurd H (by simp)
      · rw [if_neg c4] at H
        have c4b0 : decide (x6_1 < (a0.size : Int)) = false := decide_eq_false c4
        clear c4
        obtain rfl := Option.some.inj H
        have hcv16 := own_string (P := Try.prog) Try.underlying30 Try.underlying5 Try.underlying9 (Kd.own_of_R HO_5.out)
        go_wp2
        go_ret
        exact ⟨by first | rfl | (simp [errW_none, errW_some] <;> rfl) | (simp [*, errW_none, errW_some] <;> rfl), by repeat (first | (with_reducible first | exact HB.out | apply below_alloc | apply pw_below_drewN | apply below_drew1 | refine below_set ?_ GE141.out) | exact HB.out)⟩

/-! ### octets_And: function 10 -/
-- words: function 14's text
def octets_And.f (a0_0 a0_1 a0_2 a0_3 a1_0 a1_1 a1_2 a1_3 : Int) : Option (Int × Int × Int × Int) := some (Go.bits .and .u64 a0_0 a1_0, Go.bits .and .u64 a0_1 a1_1, Go.bits .and .u64 a0_2 a1_2, Go.bits .and .u64 a0_3 a1_3)
set_option maxHeartbeats 1000000 in
set_option maxRecDepth 100000 in
theorem octets_And.any (x0 x1 x2 x3 y0 y1 y2 y3 : Int) (w : World) :
    Calls Try.prog 10 #[.agg #[.int .u64 x0, .int .u64 x1, .int .u64 x2, .int .u64 x3], .agg #[.int .u64 y0, .int .u64 y1, .int .u64 y2, .int .u64 y3]] w fun e w' => e = .returned (.agg #[.int .u64 (Go.bits .and .u64 x0 y0), .int .u64 (Go.bits .and .u64 x1 y1), .int .u64 (Go.bits .and .u64 x2 y2), .int .u64 (Go.bits .and .u64 x3 y3)]) ∧ Below w.heap.size w w' := by
  go_enter Try.func10, Try.ntmps10
  go_wp2
  go_loopw [6] (fun i wr => ∃ (k : Nat) (a b c d : Int), k ≤ 4 ∧ i = .int .i64 k ∧ Aside0 (a = (if 0 < k then Go.bits .and .u64 x0 y0 else x0) ∧ b = (if 1 < k then Go.bits .and .u64 x1 y1 else x1) ∧ c = (if 2 < k then Go.bits .and .u64 x2 y2 else x2) ∧ d = (if 3 < k then Go.bits .and .u64 x3 y3 else x3)) ∧ Aside0 (octets_words.B4 wr w.heap.size a b c d) ∧ Aside0 (octets_words.B4 wr (w.heap.size + 1) y0 y1 y2 y3) ∧ Aside0 (octets_words.B4 wr (w.heap.size + 1 + 1) 0 0 0 0) ∧ Aside0 (Below w.heap.size w wr)) (fun i _ => 4 - (intOf i).toNat)
  case atStart =>
    refine ⟨0, x0, x1, x2, x3, by omega, rfl, ⟨by simp⟩, ⟨?_⟩, ⟨?_⟩, ⟨?_⟩, ⟨?_⟩⟩
    · exact blk_alloc (blk_alloc (blk_new _ _) _) _
    · refine blk_alloc ?_ _; simpa using blk_new (w.alloc _) _
    · have := blk_new ((w.alloc (Obj.cells #[Value.int .u64 x0, Value.int .u64 x1, Value.int .u64 x2, Value.int .u64 x3] 25)).alloc (Obj.cells #[Value.int .u64 y0, Value.int .u64 y1, Value.int .u64 y2, Value.int .u64 y3] 25)) (Obj.cells #[Value.int .u64 0, Value.int .u64 0, Value.int .u64 0, Value.int .u64 0] 25)
      simpa [octets_words.B4] using this
    · exact ((((Below.refl _ _).alloc (Nat.le_refl _) _).alloc (by simp) _).alloc (by simp; omega) _)
  case round =>
    obtain ⟨k, a, b, c, d, hk, rfl, he, ha, hb, hc, hd⟩ := hrel
    have fa := fun i => octets_words.free ha.out i
    obtain ⟨a0, a1, a2, a3⟩ := octets_words.cells ha.out
    obtain ⟨b0, b1, b2, b3⟩ := octets_words.cells hb.out
    by_cases hlt : k < 4
    · have q : k = 0 ∨ k = 1 ∨ k = 2 ∨ k = 3 := by omega
      rcases q with rfl | rfl | rfl | rfl
      · have f0 := fa 0
        clear hk hlt fa a1 b1 a2 b2 a3 b3
        go_wp2
        go_region
        all_goals go_wp2
        all_goals go_roundw
        case rel =>
          obtain ⟨e0, e1, e2, e3⟩ := he.out
          refine ⟨1, _, b, c, d, by omega, by go_num, ⟨?_⟩, ⟨blk_put ha.out 0 _ rfl⟩, ⟨blk_far hb.out (by show w.heap.size + 1 ≠ w.heap.size; omega) _⟩, ⟨blk_far hc.out (by show w.heap.size + 1 + 1 ≠ w.heap.size; omega) _⟩, ⟨(hd.out.setCell (by simp) _).drew⟩⟩
          simp [e0, e1, e2, e3]
        case measure => simp [intOf]
      · have f1 := fa 1
        clear hk hlt fa a0 b0 a2 b2 a3 b3
        go_wp2
        go_region
        all_goals go_wp2
        all_goals go_roundw
        case rel =>
          obtain ⟨e0, e1, e2, e3⟩ := he.out
          refine ⟨2, a, _, c, d, by omega, by go_num, ⟨?_⟩, ⟨blk_put ha.out 1 _ rfl⟩, ⟨blk_far hb.out (by show w.heap.size + 1 ≠ w.heap.size; omega) _⟩, ⟨blk_far hc.out (by show w.heap.size + 1 + 1 ≠ w.heap.size; omega) _⟩, ⟨(hd.out.setCell (by simp) _).drew⟩⟩
          simp [e0, e1, e2, e3]
        case measure => simp [intOf]
      · have f2 := fa 2
        clear hk hlt fa a0 b0 a1 b1 a3 b3
        go_wp2
        go_region
        all_goals go_wp2
        all_goals go_roundw
        case rel =>
          obtain ⟨e0, e1, e2, e3⟩ := he.out
          refine ⟨3, a, b, _, d, by omega, by go_num, ⟨?_⟩, ⟨blk_put ha.out 2 _ rfl⟩, ⟨blk_far hb.out (by show w.heap.size + 1 ≠ w.heap.size; omega) _⟩, ⟨blk_far hc.out (by show w.heap.size + 1 + 1 ≠ w.heap.size; omega) _⟩, ⟨(hd.out.setCell (by simp) _).drew⟩⟩
          simp [e0, e1, e2, e3]
        case measure => simp [intOf]
      · have f3 := fa 3
        clear hk hlt fa a0 b0 a1 b1 a2 b2
        go_wp2
        go_region
        all_goals go_wp2
        all_goals go_roundw
        case rel =>
          obtain ⟨e0, e1, e2, e3⟩ := he.out
          refine ⟨4, a, b, c, _, by omega, by go_num, ⟨?_⟩, ⟨blk_put ha.out 3 _ rfl⟩, ⟨blk_far hb.out (by show w.heap.size + 1 ≠ w.heap.size; omega) _⟩, ⟨blk_far hc.out (by show w.heap.size + 1 + 1 ≠ w.heap.size; omega) _⟩, ⟨(hd.out.setCell (by simp) _).drew⟩⟩
          simp [e0, e1, e2, e3]
        case measure => simp [intOf]
    · obtain rfl : k = 4 := by omega
      have fc := fun i => octets_words.free hc.out i
      obtain ⟨c0, c1, c2, c3⟩ := octets_words.cells hc.out
      have f0 := fc 0
      have f1 := fc 1
      have f2 := fc 2
      have f3 := fc 3
      clear fa fc hk hlt
      go_wp2
      obtain ⟨e0, e1, e2, e3⟩ := he.out
      have hz := Aside0.mk (show octets_words.B4 _ (w.heap.size + 1 + 1) a b c d from blk_put (blk_put (blk_put (blk_put hc.out 0 (.int .u64 a) rfl) 1 (.int .u64 b) rfl) 2 (.int .u64 c) rfl) 3 (.int .u64 d) rfl)
      have hb4 := Aside0.mk ((((hd.out.setCell (p := ⟨w.heap.size + 1 + 1, 0, none⟩) (by simp; try omega) (.int .u64 a)).setCell (p := ⟨w.heap.size + 1 + 1, 1, none⟩) (by simp; try omega) (.int .u64 b)).setCell (p := ⟨w.heap.size + 1 + 1, 2, none⟩) (by simp; try omega) (.int .u64 c)).setCell (p := ⟨w.heap.size + 1 + 1, 3, none⟩) (by simp; try omega) (.int .u64 d))
      revert hz hb4
      generalize ((((wr.setCell ⟨w.heap.size + 1 + 1, 0, none⟩ (.int .u64 a)).setCell ⟨w.heap.size + 1 + 1, 1, none⟩ (.int .u64 b)).setCell ⟨w.heap.size + 1 + 1, 2, none⟩ (.int .u64 c)).setCell ⟨w.heap.size + 1 + 1, 3, none⟩ (.int .u64 d)) = W
      intro hz hb4
      obtain ⟨z0, z1, z2, z3⟩ := octets_words.cells hz.out
      refine bodyPost_ret (v := .agg #[.int .u64 a, .int .u64 b, .int .u64 c, .int .u64 d]) (by simp [results, Try.results10, go_sem, z0, z1, z2, z3]) rfl ⟨?_, hb4.out⟩
      simp [e0, e1, e2, e3]
theorem octets_And.calls (a0_0 a0_1 a0_2 a0_3 a1_0 a1_1 a1_2 a1_3 : Int) (r1 r2 r3 r4 : Int) (w : World) (h : octets_And.f a0_0 a0_1 a0_2 a0_3 a1_0 a1_1 a1_2 a1_3 = some (r1, r2, r3, r4)) :
    Calls Try.prog 10 #[.agg #[.int .u64 a0_0, .int .u64 a0_1, .int .u64 a0_2, .int .u64 a0_3], .agg #[.int .u64 a1_0, .int .u64 a1_1, .int .u64 a1_2, .int .u64 a1_3]] w fun e w' => e = .returned (.agg #[.int .u64 r1, .int .u64 r2, .int .u64 r3, .int .u64 r4]) ∧ Below w.heap.size w w' := by
  simp only [octets_And.f, Option.some.injEq, Prod.mk.injEq] at h
  obtain ⟨rfl, rfl, rfl, rfl⟩ := h
  exact octets_And.any _ _ _ _ _ _ _ _ w
theorem octets_And.set (p q : Nat → Bool) : octets_And.f (Base.wd p 0) (Base.wd p 1) (Base.wd p 2) (Base.wd p 3) (Base.wd q 0) (Base.wd q 1) (Base.wd q 2) (Base.wd q 3) = some (Base.wd (fun n => p n && q n) 0, Base.wd (fun n => p n && q n) 1, Base.wd (fun n => p n && q n) 2, Base.wd (fun n => p n && q n) 3) := by
  simp only [octets_And.f, Base.wd_and]


end Go.Proofs.Ytpejenbhgfbjjaa.ZA

/- My own print (tools/mp.py). -/
import Derived.Test.YtiihgddpejmehaaZA0
import Derived.Test.YtiihgddpejmehaaZA3
namespace Go.Proofs.Ytiihgddpejmehaa.ZA
open Go.RowKit Go.Proofs.YtiihgddpejmehaaW.PrintWords Go.Proofs.YtiihgddpejmehaaW.PrintLast Go.Proofs.YtiihgddpejmehaaW.PrintMore
attribute [local go_sem] max2_int min2_int max_two min_two max_three min_three max_four min_four   -- for this text's walks alone
set_option linter.unusedVariables false
set_option linter.unusedSimpArgs false

/-! ### octets_Range: function 33 -/
-- words: function 17's text
/-- The bytes from a on, below b. -/
def octets_Range.p (a b : Int) : Nat → Bool := fun n => decide (a ≤ (n : Int)) && decide ((n : Int) < b)
theorem octets_Range.step (a : Int) (k : Nat) (h : a ≤ k) : (fun n => octets_Range.p a k n || n == k) = octets_Range.p a (k + 1 : Nat) := by
 funext n
 unfold octets_Range.p
 rw [Bool.eq_iff_iff]
 simp only [Bool.or_eq_true, Bool.and_eq_true, decide_eq_true_eq, beq_iff_eq]
 omega
theorem octets_Range.empty (a : Int) : octets_Range.p a a = fun _ => false := by
 funext n
 unfold octets_Range.p
 rw [Bool.eq_false_iff]
 simp only [ne_eq, Bool.and_eq_true, decide_eq_true_eq]
 omega
def octets_Range.f (a0 a1 : Int) : Option (Int × Int × Int × Int) :=
 if 0 ≤ a0 ∧ a0 ≤ a1 ∧ a1 ≤ 255 then some (Base.wd (octets_Range.p a0 (a1 + 1)) 0, Base.wd (octets_Range.p a0 (a1 + 1)) 1, Base.wd (octets_Range.p a0 (a1 + 1)) 2, Base.wd (octets_Range.p a0 (a1 + 1)) 3) else none
set_option maxHeartbeats 1000000 in
set_option maxRecDepth 100000 in
theorem octets_Range.any (x y : Int) (h0 : 0 ≤ x) (h1 : x ≤ y) (h2 : y ≤ 255) (w : World) :
  Calls Try.prog 33 #[.int .u8 x, .int .u8 y] w fun e w' => e = .returned (.agg #[.int .u64 (Base.wd (octets_Range.p x (y + 1)) 0), .int .u64 (Base.wd (octets_Range.p x (y + 1)) 1), .int .u64 (Base.wd (octets_Range.p x (y + 1)) 2), .int .u64 (Base.wd (octets_Range.p x (y + 1)) 3)]) ∧ Below w.heap.size w w' := by
 go_enter Try.func33, Try.ntmps33
 go_wp2
 go_loopw [6] (fun i wr => ∃ (k : Nat) (a b c d : Int), x ≤ k ∧ k ≤ y + 1 ∧ i = .int .i64 k ∧ Aside0 (a = Base.wd (octets_Range.p x k) 0 ∧ b = Base.wd (octets_Range.p x k) 1 ∧ c = Base.wd (octets_Range.p x k) 2 ∧ d = Base.wd (octets_Range.p x k) 3) ∧ Aside0 (octets_words.B4 wr w.heap.size 0 0 0 0) ∧ Aside0 (octets_words.B4 wr (w.heap.size + 1) a b c d) ∧ Aside0 (Below w.heap.size w wr)) (fun i _ => 256 - (intOf i).toNat)
 case atStart =>
  refine ⟨x.toNat, 0, 0, 0, 0, by omega, by omega, by go_num, ⟨?_⟩, ⟨?_⟩, ⟨?_⟩, ⟨?_⟩⟩
  ·have e : ((x.toNat : Nat) : Int) = x := by omega
   rw [e, octets_Range.empty]
   simp only [Base.wd_none, and_self]
  ·exact blk_alloc (blk_new _ _) _
  ·have := blk_new (w.alloc (Obj.cells #[Value.int .u64 0, Value.int .u64 0, Value.int .u64 0, Value.int .u64 0] 41)) (Obj.cells #[Value.int .u64 0, Value.int .u64 0, Value.int .u64 0, Value.int .u64 0] 41)
   simpa [octets_words.B4] using this
  ·exact (((Below.refl _ _).alloc (Nat.le_refl _) _).alloc (by simp) _)
 case round =>
  obtain ⟨k, a, b, c, d, hk, hk2, rfl, he, hb, ha, hd⟩ := hrel
  have fa := fun i => octets_words.free ha.out i
  obtain ⟨a0, a1, a2, a3⟩ := octets_words.cells ha.out
  by_cases hlt : (k : Int) ≤ y
  ·have q : k / 64 = 0 ∨ k / 64 = 1 ∨ k / 64 = 2 ∨ k / 64 = 3 := by omega
   have hk8 : (k : Int) < 256 := by omega
   rcases q with q | q | q | q
   ·have f0 := fa 0
    have Q := Aside0.mk q
    have hd64 : Aside0 (((k : Nat) : Int) / 64 = 0) := ⟨by omega⟩
    clear q fa a1 a2 a3 
    go_wp2_with fail
    refine (octets_words.bit (k : Int) (by omega) (by omega) _).mono ?_
    rintro e w' ⟨rfl, rfl⟩
    rw [hd64.out]
    go_wp2_with fail
    go_roundw
    case rel =>
     obtain ⟨e0, e1, e2, e3⟩ := he.out
     have q := Q.out
     refine ⟨k + 1, _, b, c, d, by omega, by omega, by go_num, ⟨?_⟩, ⟨blk_far hb.out (by show w.heap.size ≠ w.heap.size + 1; omega) _⟩, ⟨blk_put ha.out 0 _ rfl⟩, ⟨hd.out.setCell (by simp) _⟩⟩
     rw [← octets_Range.step x k hk]
     refine ⟨by rw [e0]; exact Base.wd_add _ 0 _ (by omega), by rw [e1]; exact Base.wd_other _ 1 _ (by omega), by rw [e2]; exact Base.wd_other _ 2 _ (by omega), by rw [e3]; exact Base.wd_other _ 3 _ (by omega)⟩
    case measure => simp [intOf]; omega
   ·have f1 := fa 1
    have Q := Aside0.mk q
    have hd64 : Aside0 (((k : Nat) : Int) / 64 = 1) := ⟨by omega⟩
    clear q fa a0 a2 a3 
    go_wp2_with fail
    refine (octets_words.bit (k : Int) (by omega) (by omega) _).mono ?_
    rintro e w' ⟨rfl, rfl⟩
    rw [hd64.out]
    go_wp2_with fail
    go_roundw
    case rel =>
     obtain ⟨e0, e1, e2, e3⟩ := he.out
     have q := Q.out
     refine ⟨k + 1, a, _, c, d, by omega, by omega, by go_num, ⟨?_⟩, ⟨blk_far hb.out (by show w.heap.size ≠ w.heap.size + 1; omega) _⟩, ⟨blk_put ha.out 1 _ rfl⟩, ⟨hd.out.setCell (by simp) _⟩⟩
     rw [← octets_Range.step x k hk]
     refine ⟨by rw [e0]; exact Base.wd_other _ 0 _ (by omega), by rw [e1]; exact Base.wd_add _ 1 _ (by omega), by rw [e2]; exact Base.wd_other _ 2 _ (by omega), by rw [e3]; exact Base.wd_other _ 3 _ (by omega)⟩
    case measure => simp [intOf]; omega
   ·have f2 := fa 2
    have Q := Aside0.mk q
    have hd64 : Aside0 (((k : Nat) : Int) / 64 = 2) := ⟨by omega⟩
    clear q fa a0 a1 a3 
    go_wp2_with fail
    refine (octets_words.bit (k : Int) (by omega) (by omega) _).mono ?_
    rintro e w' ⟨rfl, rfl⟩
    rw [hd64.out]
    go_wp2_with fail
    go_roundw
    case rel =>
     obtain ⟨e0, e1, e2, e3⟩ := he.out
     have q := Q.out
     refine ⟨k + 1, a, b, _, d, by omega, by omega, by go_num, ⟨?_⟩, ⟨blk_far hb.out (by show w.heap.size ≠ w.heap.size + 1; omega) _⟩, ⟨blk_put ha.out 2 _ rfl⟩, ⟨hd.out.setCell (by simp) _⟩⟩
     rw [← octets_Range.step x k hk]
     refine ⟨by rw [e0]; exact Base.wd_other _ 0 _ (by omega), by rw [e1]; exact Base.wd_other _ 1 _ (by omega), by rw [e2]; exact Base.wd_add _ 2 _ (by omega), by rw [e3]; exact Base.wd_other _ 3 _ (by omega)⟩
    case measure => simp [intOf]; omega
   ·have f3 := fa 3
    have Q := Aside0.mk q
    have hd64 : Aside0 (((k : Nat) : Int) / 64 = 3) := ⟨by omega⟩
    clear q fa a0 a1 a2 
    go_wp2_with fail
    refine (octets_words.bit (k : Int) (by omega) (by omega) _).mono ?_
    rintro e w' ⟨rfl, rfl⟩
    rw [hd64.out]
    go_wp2_with fail
    go_roundw
    case rel =>
     obtain ⟨e0, e1, e2, e3⟩ := he.out
     have q := Q.out
     refine ⟨k + 1, a, b, c, _, by omega, by omega, by go_num, ⟨?_⟩, ⟨blk_far hb.out (by show w.heap.size ≠ w.heap.size + 1; omega) _⟩, ⟨blk_put ha.out 3 _ rfl⟩, ⟨hd.out.setCell (by simp) _⟩⟩
     rw [← octets_Range.step x k hk]
     refine ⟨by rw [e0]; exact Base.wd_other _ 0 _ (by omega), by rw [e1]; exact Base.wd_other _ 1 _ (by omega), by rw [e2]; exact Base.wd_other _ 2 _ (by omega), by rw [e3]; exact Base.wd_add _ 3 _ (by omega)⟩
    case measure => simp [intOf]; omega
  ·have hy : (k : Int) = y + 1 := by omega
   have fc := fun i => octets_words.free hb.out i
   obtain ⟨c0, c1, c2, c3⟩ := octets_words.cells hb.out
   have f0 := fc 0
   have f1 := fc 1
   have f2 := fc 2
   have f3 := fc 3
   have HY := Aside0.mk hy
   clear fa fc hy
   go_wp2
   obtain ⟨e0, e1, e2, e3⟩ := he.out
   have hz := Aside0.mk (show octets_words.B4 _ (w.heap.size) a b c d from blk_put (blk_put (blk_put (blk_put hb.out 0 (.int .u64 a) rfl) 1 (.int .u64 b) rfl) 2 (.int .u64 c) rfl) 3 (.int .u64 d) rfl)
   have hb4 := Aside0.mk ((((hd.out.setCell (p := ⟨w.heap.size, 0, none⟩) (by simp; try omega) (.int .u64 a)).setCell (p := ⟨w.heap.size, 1, none⟩) (by simp; try omega) (.int .u64 b)).setCell (p := ⟨w.heap.size, 2, none⟩) (by simp; try omega) (.int .u64 c)).setCell (p := ⟨w.heap.size, 3, none⟩) (by simp; try omega) (.int .u64 d))
   revert hz hb4
   generalize ((((wr.setCell ⟨w.heap.size, 0, none⟩ (.int .u64 a)).setCell ⟨w.heap.size, 1, none⟩ (.int .u64 b)).setCell ⟨w.heap.size, 2, none⟩ (.int .u64 c)).setCell ⟨w.heap.size, 3, none⟩ (.int .u64 d)) = W
   intro hz hb4
   obtain ⟨z0, z1, z2, z3⟩ := octets_words.cells hz.out
   refine bodyPost_ret (v := .agg #[.int .u64 a, .int .u64 b, .int .u64 c, .int .u64 d]) (by simp [results, Try.results33, go_sem, z0, z1, z2, z3]) rfl ⟨?_, hb4.out⟩
   rw [HY.out] at e0 e1 e2 e3
   rw [e0, e1, e2, e3]
theorem octets_Range.calls (a0 a1 : Int) (r1 r2 r3 r4 : Int) (w : World) (h : octets_Range.f a0 a1 = some (r1, r2, r3, r4)) :
  Calls Try.prog 33 #[.int .u8 a0, .int .u8 a1] w fun e w' => e = .returned (.agg #[.int .u64 r1, .int .u64 r2, .int .u64 r3, .int .u64 r4]) ∧ Below w.heap.size w w' := by
 unfold octets_Range.f at h
 by_cases hc : 0 ≤ a0 ∧ a0 ≤ a1 ∧ a1 ≤ 255
 ·rw [if_pos hc] at h
  simp only [Option.some.injEq, Prod.mk.injEq] at h
  obtain ⟨rfl, rfl, rfl, rfl⟩ := h
  exact octets_Range.any a0 a1 hc.1 hc.2.1 hc.2.2 w
 ·rw [if_neg hc] at h; exact absurd h (by simp)


/-! ### rfc_letters: function 18 -/
def rfc_letters.f  : Option (Int × Int × Int × Int) := (octets_Range.f 97 122).bind fun bt131 => ((octets_Range.f 65 90).bind fun bt135 => ((octets_Or.f bt131.1 bt131.2.1 bt131.2.2.1 bt131.2.2.2 bt135.1 bt135.2.1 bt135.2.2.1 bt135.2.2.2).bind fun bt139 => (some (bt139.1, bt139.2.1, bt139.2.2.1, bt139.2.2.2))))
set_option maxHeartbeats 8000000 in
set_option maxRecDepth 100000 in
theorem rfc_letters.calls  (r1 : Int) (r2 : Int) (r3 : Int) (r4 : Int) (w : World) (h : rfc_letters.f  = some (r1, r2, r3, r4)) :
  Calls Try.prog 18 #[] w fun e w' => e = .returned (.agg #[.int .u64 r1, .int .u64 r2, .int .u64 r3, .int .u64 r4]) ∧ Below w.heap.size w w' := by
 have hu41 := Try.underlying41
 have HB := Aside0.mk (Below.refl w.heap.size w)
 have H : ((octets_Range.f 97 122).bind fun bt131 => ((octets_Range.f 65 90).bind fun bt135 => ((octets_Or.f bt131.1 bt131.2.1 bt131.2.2.1 bt131.2.2.2 bt135.1 bt135.2.1 bt135.2.2.1 bt135.2.2.2).bind fun bt139 => (some (bt139.1, bt139.2.1, bt139.2.2.1, bt139.2.2.2))))) = some (r1, r2, r3, r4) := h
 clear h
 replace H := Option.bind_eq_some_iff.mp H
 obtain ⟨⟨t131, t132, t133, t134⟩, A10, H⟩ := H
 replace H : ((octets_Range.f 65 90).bind fun bt135 => ((octets_Or.f t131 t132 t133 t134 bt135.1 bt135.2.1 bt135.2.2.1 bt135.2.2.2).bind fun bt139 => (some (bt139.1, bt139.2.1, bt139.2.2.1, bt139.2.2.2)))) = some (r1, r2, r3, r4) := H
 have A1 := Aside0.mk A10
 clear A10
 replace H := Option.bind_eq_some_iff.mp H
 obtain ⟨⟨t135, t136, t137, t138⟩, A20, H⟩ := H
 replace H : ((octets_Or.f t131 t132 t133 t134 t135 t136 t137 t138).bind fun bt139 => (some (bt139.1, bt139.2.1, bt139.2.2.1, bt139.2.2.2))) = some (r1, r2, r3, r4) := H
 have A2 := Aside0.mk A20
 clear A20
 replace H := Option.bind_eq_some_iff.mp H
 obtain ⟨⟨t139, t140, t141, t142⟩, A30, H⟩ := H
 replace H : (some (t139, t140, t141, t142)) = some (r1, r2, r3, r4) := H
 have A3 := Aside0.mk A30
 clear A30
 simp only [Option.some.injEq, Prod.mk.injEq] at H
 obtain ⟨rfl, rfl, rfl, rfl⟩ := H
 go_enter Try.func18, Try.ntmps18
 go_wp2_with (first | ((with_reducible refine gate_dst (N := 0) rfl ?_); refine box_event ?hg (N := 0) ?hd (cs := #[.int .u64 0, .int .u64 0, .int .u64 0, .int .u64 0]) (t := 41) ?hr ?_; (case hd => rfl); (case hg => rfl); (case hr => first | (go_simp; done) | (go_simp; rfl)); intro gb130 hg w4 hbox hb; have n0_ := Aside0.mk (below_step (by repeat (first | (with_reducible first | exact HB.out | apply below_alloc | apply pw_below_drewN | apply below_drew1) | exact HB.out)) hb); have n1_ := Aside0.mk (hbox); have n2_ := Aside0.mk ((by rw [hg]; exact (below_size (by repeat (first | (with_reducible first | exact HB.out | apply below_alloc | apply pw_below_drewN | apply below_drew1) | exact HB.out))) : w.heap.size ≤ gb130)); have n3_ := Aside0.mk ((by rw [hg]; exact (below_size (by repeat (first | (with_reducible first | exact HB.out | apply below_alloc | apply pw_below_drewN | apply below_drew1) | exact HB.out))) : w.heap.size ≤ gb130)); clear HB; have HB := n0_; have BK130 := n1_; have GW130 := n2_; have GE130 := n3_; clear n0_ n1_ n2_ n3_; clear hb hbox hg) | ((with_reducible refine gate_callee (f := 33) rfl ?_); refine goesL_ (some 1) rfl rfl Try.func33 (by kernel_rfl) rfl #[.int .u8 97, .int .u8 122] rfl (by (try simp only [List.map_toArray, List.map_cons, List.map_nil]); first | done | rfl | (simp only [List.length_drop, List.length_take]; rfl)) ?_; (with_reducible refine (octets_Range.calls 97 122 t131 t132 t133 t134 _ A1.out).mono ?_); rintro e w5 ⟨rfl, hb⟩; refine ⟨_, rfl, ?_⟩; have n0_ := Aside0.mk (blk_below (g := gb130) (o := .cells #[.int .u64 0, .int .u64 0, .int .u64 0, .int .u64 0] 41 (0, 0)) (by (with_reducible repeat (first | refine blk_drewN ?_ _ | refine blk_drew ?_ | refine blk_alloc ?_ _)); exact BK130.out) hb); have n1_ := Aside0.mk (below_step (by repeat (first | (with_reducible first | exact HB.out | apply below_alloc | apply pw_below_drewN | apply below_drew1 | refine below_set ?_ GE130.out) | exact HB.out)) hb); clear BK130; clear HB; have BK130 := n0_; have HB := n1_; clear n0_ n1_; (try clear hb); (try clear hb2); (try clear hk); (try clear hi)) | ((with_reducible refine gate_callee (f := 33) rfl ?_); refine goesL_ (some 2) rfl rfl Try.func33 (by kernel_rfl) rfl #[.int .u8 65, .int .u8 90] rfl (by (try simp only [List.map_toArray, List.map_cons, List.map_nil]); first | done | rfl | (simp only [List.length_drop, List.length_take]; rfl)) ?_; (with_reducible refine (octets_Range.calls 65 90 t135 t136 t137 t138 _ A2.out).mono ?_); rintro e w6 ⟨rfl, hb⟩; refine ⟨_, rfl, ?_⟩; have n0_ := Aside0.mk (blk_below (g := gb130) (o := .cells #[.int .u64 0, .int .u64 0, .int .u64 0, .int .u64 0] 41 (0, 0)) (by (with_reducible repeat (first | refine blk_drewN ?_ _ | refine blk_drew ?_ | refine blk_alloc ?_ _)); exact BK130.out) hb); have n1_ := Aside0.mk (below_step (by repeat (first | (with_reducible first | exact HB.out | apply below_alloc | apply pw_below_drewN | apply below_drew1 | refine below_set ?_ GE130.out) | exact HB.out)) hb); clear BK130; clear HB; have BK130 := n0_; have HB := n1_; clear n0_ n1_; (try clear hb); (try clear hb2); (try clear hk); (try clear hi)) | ((with_reducible refine gate_callee (f := 20) rfl ?_); refine goesL_ (some 3) rfl rfl Try.func20 (by kernel_rfl) rfl #[.agg #[.int .u64 t131, .int .u64 t132, .int .u64 t133, .int .u64 t134], .agg #[.int .u64 t135, .int .u64 t136, .int .u64 t137, .int .u64 t138]] rfl (by (try simp only [List.map_toArray, List.map_cons, List.map_nil]); first | done | rfl | (simp only [List.length_drop, List.length_take]; rfl)) ?_; (with_reducible refine (octets_Or.calls t131 t132 t133 t134 t135 t136 t137 t138 t139 t140 t141 t142 _ A3.out).mono ?_); rintro e w7 ⟨rfl, hb⟩; refine ⟨_, rfl, ?_⟩; have n0_ := Aside0.mk (blk_below (g := gb130) (o := .cells #[.int .u64 0, .int .u64 0, .int .u64 0, .int .u64 0] 41 (0, 0)) (by (with_reducible repeat (first | refine blk_drewN ?_ _ | refine blk_drew ?_ | refine blk_alloc ?_ _)); exact BK130.out) hb); have n1_ := Aside0.mk (below_step (by repeat (first | (with_reducible first | exact HB.out | apply below_alloc | apply pw_below_drewN | apply below_drew1 | refine below_set ?_ GE130.out) | exact HB.out)) hb); clear BK130; clear HB; have BK130 := n0_; have HB := n1_; clear n0_ n1_; (try clear hb); (try clear hb2); (try clear hk); (try clear hi); have hcz8_0 : w7.cell? ⟨gb130, 0, none⟩ = some (.int .u64 0) := (blk_cell BK130.out 0).trans rfl; have hcz8_1 : w7.cell? ⟨gb130, 1, none⟩ = some (.int .u64 0) := (blk_cell BK130.out 1).trans rfl; have hcz8_2 : w7.cell? ⟨gb130, 2, none⟩ = some (.int .u64 0) := (blk_cell BK130.out 2).trans rfl; have hcz8_3 : w7.cell? ⟨gb130, 3, none⟩ = some (.int .u64 0) := (blk_cell BK130.out 3).trans rfl; have hfz8_0 := blk_frozen BK130.out 0; have hfz8_1 := blk_frozen BK130.out 1; have hfz8_2 := blk_frozen BK130.out 2; have hfz8_3 := blk_frozen BK130.out 3))
 refine bodyPost_ret (results_cell_row rfl _ _ gb130 41 #[.int .u64 t139, .int .u64 t140, .int .u64 t141, .int .u64 t142] (0, 0) _ rfl (by (with_reducible repeat (first | refine blk_drewN ?_ _ | refine blk_drew ?_ | refine blk_alloc ?_ _)); refine blk_put (cs := #[.int .u64 t139, .int .u64 t140, .int .u64 t141, .int .u64 0]) ?_ 3 _ rfl; (with_reducible repeat (first | refine blk_drewN ?_ _ | refine blk_drew ?_ | refine blk_alloc ?_ _)); refine blk_put (cs := #[.int .u64 t139, .int .u64 t140, .int .u64 0, .int .u64 0]) ?_ 2 _ rfl; (with_reducible repeat (first | refine blk_drewN ?_ _ | refine blk_drew ?_ | refine blk_alloc ?_ _)); refine blk_put (cs := #[.int .u64 t139, .int .u64 0, .int .u64 0, .int .u64 0]) ?_ 1 _ rfl; (with_reducible repeat (first | refine blk_drewN ?_ _ | refine blk_drew ?_ | refine blk_alloc ?_ _)); refine blk_put (cs := #[.int .u64 0, .int .u64 0, .int .u64 0, .int .u64 0]) ?_ 0 _ rfl; (with_reducible repeat (first | refine blk_drewN ?_ _ | refine blk_drew ?_ | refine blk_alloc ?_ _)); exact BK130.out) Try.underlying41 rfl (by kernel_rfl)) rfl ?_
 exact ⟨by first | rfl | (simp [errW_none, errW_some] <;> rfl) | (simp [*, errW_none, errW_some] <;> rfl), by repeat (first | (with_reducible first | exact HB.out | apply below_alloc | apply pw_below_drewN | apply below_drew1 | refine below_set ?_ GE130.out) | exact HB.out)⟩

/-! ### octets_Of: function 34 -/
-- words: function 17's text
/-- The bytes of a list. -/
def octets_Of.p (l : List Int) : Nat → Bool := fun n => l.contains (n : Int)
theorem octets_Of.step (l : List Int) (k : Nat) (h : k < l.length) (h0 : 0 ≤ rd l k) : (fun n => octets_Of.p (l.take k) n || n == (rd l k).toNat) = octets_Of.p (l.take (k + 1)) := by
 funext n
 unfold octets_Of.p
 have e : rd l k = l[k] := by simp [rd, List.getD_eq_getElem?_getD, h]
 rw [e] at h0 ⊢
 rw [List.take_succ_eq_append_getElem h, Bool.eq_iff_iff]
 simp only [Bool.or_eq_true, List.contains_iff_mem, List.mem_append, List.mem_singleton, beq_iff_eq]
 constructor
 ·rintro (h | h)
  ·exact .inl h
  ·right; omega
 ·rintro (h | h)
  ·exact .inl h
  ·right; omega
theorem octets_Of.add (p : Nat → Bool) (j : Nat) (x : Int) (h0 : 0 ≤ x) (hj : x / 64 = j) : Go.bits .or .u64 (Base.wd p j) (2 ^ (x % 64).toNat) = Base.wd (fun n => p n || n == x.toNat) j := by
 have := Base.wd_add p j x.toNat (by omega)
 rwa [show ((x.toNat : Nat) : Int) = x from by omega] at this
def octets_Of.f (l0 : List Int) : Option (Int × Int × Int × Int) :=
 if (l0.all fun x => decide (0 ≤ x) && decide (x ≤ 255)) = true then some (Base.wd (octets_Of.p l0) 0, Base.wd (octets_Of.p l0) 1, Base.wd (octets_Of.p l0) 2, Base.wd (octets_Of.p l0) 3) else none
set_option maxHeartbeats 1000000 in
set_option maxRecDepth 100000 in
theorem octets_Of.any (A0 : Option Addr) (c0 : Nat) (l0 : List Int) (w : World) (hr0 : Kd.C (Kd.int .u8) w A0 l0.length l0) (hc0 : l0.length ≤ c0) (hl : ∀ x, x ∈ l0 → 0 ≤ x ∧ x ≤ 255) :
  Calls Try.prog 34 #[.slice A0 l0.length c0] w fun e w' => e = .returned (.agg #[.int .u64 (Base.wd (octets_Of.p l0) 0), .int .u64 (Base.wd (octets_Of.p l0) 1), .int .u64 (Base.wd (octets_Of.p l0) 2), .int .u64 (Base.wd (octets_Of.p l0) 3)]) ∧ Below w.heap.size w w' := by
 have hlen : l0.length ≤ 9223372036854775807 := hr0.2.1
 have HL := Aside0.mk hl
 have HR := Aside0.mk hr0
 clear hl hr0 hc0
 go_enter Try.func34, Try.ntmps34
 go_wp2
 go_loopw [10] (fun i wr => ∃ (k : Nat) (a b c d : Int), k ≤ l0.length ∧ i = .int .i64 k ∧ Aside0 (a = Base.wd (octets_Of.p (l0.take k)) 0 ∧ b = Base.wd (octets_Of.p (l0.take k)) 1 ∧ c = Base.wd (octets_Of.p (l0.take k)) 2 ∧ d = Base.wd (octets_Of.p (l0.take k)) 3) ∧ Aside0 (octets_words.B4 wr w.heap.size 0 0 0 0) ∧ Aside0 (octets_words.B4 wr (w.heap.size + 1) a b c d) ∧ Aside0 (Below w.heap.size w wr)) (fun i _ => l0.length - (intOf i).toNat)
 case atStart =>
  refine ⟨0, 0, 0, 0, 0, by omega, by go_num, ⟨?_⟩, ⟨?_⟩, ⟨?_⟩, ⟨?_⟩⟩
  ·have e : octets_Of.p (l0.take 0) = fun _ => false := by funext n; simp [octets_Of.p]
   rw [e]
   simp only [Base.wd_none, and_self]
  ·exact blk_alloc (blk_new _ _) _
  ·have := blk_new (w.alloc (Obj.cells #[Value.int .u64 0, Value.int .u64 0, Value.int .u64 0, Value.int .u64 0] 41)) (Obj.cells #[Value.int .u64 0, Value.int .u64 0, Value.int .u64 0, Value.int .u64 0] 41)
   simpa [octets_words.B4] using this
  ·exact (((Below.refl _ _).alloc (Nat.le_refl _) _).alloc (by simp) _)
 case round =>
  obtain ⟨k, a, b, c, d, hk, rfl, he, hb, ha, hd⟩ := hrel
  have fa := fun i => octets_words.free ha.out i
  obtain ⟨a0, a1, a2, a3⟩ := octets_words.cells ha.out
  by_cases hlt : k < l0.length
  ·obtain ⟨ad, rfl, hcell⟩ := Kd.at_int (Kd.C_below HR.out hd.out) (k : Int) (by omega) (by omega)
   have hmem : rd l0 k ∈ l0 := by
    have e : rd l0 k = l0[k] := by simp [rd, List.getD_eq_getElem?_getD, hlt]
    rw [e]; exact List.getElem_mem _
   obtain ⟨b0, b1⟩ := HL.out _ hmem
   have HS := Aside0.mk (octets_Of.step l0 k hlt b0)
   clear hmem
   obtain ⟨x, hx⟩ : ∃ x, rd l0 (k : Int) = x := ⟨_, rfl⟩
   rw [hx] at hcell b0 b1 HS
   have hcell' : wr.cell? (ad.add k) = some (.int .u8 x) := hcell
   clear hcell hx
   have q : x / 64 = 0 ∨ x / 64 = 1 ∨ x / 64 = 2 ∨ x / 64 = 3 := by omega
   rcases q with q | q | q | q
   ·have f0 := fa 0
    have Q := Aside0.mk q
    have hd64 : Aside0 (x / 64 = 0) := ⟨by omega⟩
    clear q fa a1 a2 a3 
    go_wp2_with fail
    refine (octets_words.bit x (by omega) (by omega) _).mono ?_
    rintro e w' ⟨rfl, rfl⟩
    rw [hd64.out]
    go_wp2_with fail
    go_roundw
    case rel =>
     obtain ⟨e0, e1, e2, e3⟩ := he.out
     have q := Q.out
     refine ⟨k + 1, _, b, c, d, by omega, by go_num, ⟨?_⟩, ⟨blk_far hb.out (by show w.heap.size ≠ w.heap.size + 1; omega) _⟩, ⟨blk_put ha.out 0 _ rfl⟩, ⟨hd.out.setCell (by simp) _⟩⟩
     rw [← HS.out]
     refine ⟨by rw [e0]; exact octets_Of.add _ 0 _ b0 (by omega), by rw [e1]; exact Base.wd_other _ 1 _ (by omega), by rw [e2]; exact Base.wd_other _ 2 _ (by omega), by rw [e3]; exact Base.wd_other _ 3 _ (by omega)⟩
    case measure => simp [intOf]; omega
   ·have f1 := fa 1
    have Q := Aside0.mk q
    have hd64 : Aside0 (x / 64 = 1) := ⟨by omega⟩
    clear q fa a0 a2 a3 
    go_wp2_with fail
    refine (octets_words.bit x (by omega) (by omega) _).mono ?_
    rintro e w' ⟨rfl, rfl⟩
    rw [hd64.out]
    go_wp2_with fail
    go_roundw
    case rel =>
     obtain ⟨e0, e1, e2, e3⟩ := he.out
     have q := Q.out
     refine ⟨k + 1, a, _, c, d, by omega, by go_num, ⟨?_⟩, ⟨blk_far hb.out (by show w.heap.size ≠ w.heap.size + 1; omega) _⟩, ⟨blk_put ha.out 1 _ rfl⟩, ⟨hd.out.setCell (by simp) _⟩⟩
     rw [← HS.out]
     refine ⟨by rw [e0]; exact Base.wd_other _ 0 _ (by omega), by rw [e1]; exact octets_Of.add _ 1 _ b0 (by omega), by rw [e2]; exact Base.wd_other _ 2 _ (by omega), by rw [e3]; exact Base.wd_other _ 3 _ (by omega)⟩
    case measure => simp [intOf]; omega
   ·have f2 := fa 2
    have Q := Aside0.mk q
    have hd64 : Aside0 (x / 64 = 2) := ⟨by omega⟩
    clear q fa a0 a1 a3 
    go_wp2_with fail
    refine (octets_words.bit x (by omega) (by omega) _).mono ?_
    rintro e w' ⟨rfl, rfl⟩
    rw [hd64.out]
    go_wp2_with fail
    go_roundw
    case rel =>
     obtain ⟨e0, e1, e2, e3⟩ := he.out
     have q := Q.out
     refine ⟨k + 1, a, b, _, d, by omega, by go_num, ⟨?_⟩, ⟨blk_far hb.out (by show w.heap.size ≠ w.heap.size + 1; omega) _⟩, ⟨blk_put ha.out 2 _ rfl⟩, ⟨hd.out.setCell (by simp) _⟩⟩
     rw [← HS.out]
     refine ⟨by rw [e0]; exact Base.wd_other _ 0 _ (by omega), by rw [e1]; exact Base.wd_other _ 1 _ (by omega), by rw [e2]; exact octets_Of.add _ 2 _ b0 (by omega), by rw [e3]; exact Base.wd_other _ 3 _ (by omega)⟩
    case measure => simp [intOf]; omega
   ·have f3 := fa 3
    have Q := Aside0.mk q
    have hd64 : Aside0 (x / 64 = 3) := ⟨by omega⟩
    clear q fa a0 a1 a2 
    go_wp2_with fail
    refine (octets_words.bit x (by omega) (by omega) _).mono ?_
    rintro e w' ⟨rfl, rfl⟩
    rw [hd64.out]
    go_wp2_with fail
    go_roundw
    case rel =>
     obtain ⟨e0, e1, e2, e3⟩ := he.out
     have q := Q.out
     refine ⟨k + 1, a, b, c, _, by omega, by go_num, ⟨?_⟩, ⟨blk_far hb.out (by show w.heap.size ≠ w.heap.size + 1; omega) _⟩, ⟨blk_put ha.out 3 _ rfl⟩, ⟨hd.out.setCell (by simp) _⟩⟩
     rw [← HS.out]
     refine ⟨by rw [e0]; exact Base.wd_other _ 0 _ (by omega), by rw [e1]; exact Base.wd_other _ 1 _ (by omega), by rw [e2]; exact Base.wd_other _ 2 _ (by omega), by rw [e3]; exact octets_Of.add _ 3 _ b0 (by omega)⟩
    case measure => simp [intOf]; omega
  ·obtain rfl : k = l0.length := by omega
   have fc := fun i => octets_words.free hb.out i
   obtain ⟨c0, c1, c2, c3⟩ := octets_words.cells hb.out
   have f0 := fc 0
   have f1 := fc 1
   have f2 := fc 2
   have f3 := fc 3
   clear fa fc
   go_wp2
   obtain ⟨e0, e1, e2, e3⟩ := he.out
   have hz := Aside0.mk (show octets_words.B4 _ (w.heap.size) a b c d from blk_put (blk_put (blk_put (blk_put hb.out 0 (.int .u64 a) rfl) 1 (.int .u64 b) rfl) 2 (.int .u64 c) rfl) 3 (.int .u64 d) rfl)
   have hb4 := Aside0.mk ((((hd.out.setCell (p := ⟨w.heap.size, 0, none⟩) (by simp; try omega) (.int .u64 a)).setCell (p := ⟨w.heap.size, 1, none⟩) (by simp; try omega) (.int .u64 b)).setCell (p := ⟨w.heap.size, 2, none⟩) (by simp; try omega) (.int .u64 c)).setCell (p := ⟨w.heap.size, 3, none⟩) (by simp; try omega) (.int .u64 d))
   revert hz hb4
   generalize ((((wr.setCell ⟨w.heap.size, 0, none⟩ (.int .u64 a)).setCell ⟨w.heap.size, 1, none⟩ (.int .u64 b)).setCell ⟨w.heap.size, 2, none⟩ (.int .u64 c)).setCell ⟨w.heap.size, 3, none⟩ (.int .u64 d)) = W
   intro hz hb4
   obtain ⟨z0, z1, z2, z3⟩ := octets_words.cells hz.out
   refine bodyPost_ret (v := .agg #[.int .u64 a, .int .u64 b, .int .u64 c, .int .u64 d]) (by simp [results, Try.results34, go_sem, z0, z1, z2, z3]) rfl ⟨?_, hb4.out⟩
   rw [List.take_length] at e0 e1 e2 e3
   rw [e0, e1, e2, e3]
theorem octets_Of.calls (A0 : Option Addr) (c0 : Nat) (l0 : List Int) (r1 r2 r3 r4 : Int) (w : World) (hr0 : Kd.C (Kd.int .u8) w A0 l0.length l0) (hc0 : l0.length ≤ c0) (h : octets_Of.f l0 = some (r1, r2, r3, r4)) :
  Calls Try.prog 34 #[.slice A0 l0.length c0] w fun e w' => e = .returned (.agg #[.int .u64 r1, .int .u64 r2, .int .u64 r3, .int .u64 r4]) ∧ Below w.heap.size w w' := by
 unfold octets_Of.f at h
 by_cases hc : (l0.all fun x => decide (0 ≤ x) && decide (x ≤ 255)) = true
 ·rw [if_pos hc] at h
  simp only [Option.some.injEq, Prod.mk.injEq] at h
  obtain ⟨rfl, rfl, rfl, rfl⟩ := h
  exact octets_Of.any A0 c0 l0 w hr0 hc0 (fun x hx => by have := List.all_eq_true.1 hc x hx; simpa using this)
 ·rw [if_neg hc] at h; exact absurd h (by simp)
theorem octets_Of.callsn (A0 : Option Addr) (c0 : Nat) (l0 : List Int) (r1 r2 r3 r4 : Int) (w : World) {n : Nat} (hr0 : Kd.C (Kd.int .u8) w A0 n l0) (hc0 : n ≤ c0) (h : octets_Of.f l0 = some (r1, r2, r3, r4)) :
  Calls Try.prog 34 #[.slice A0 n c0] w fun e w' => e = .returned (.agg #[.int .u64 r1, .int .u64 r2, .int .u64 r3, .int .u64 r4]) ∧ Below w.heap.size w w' := by
 have e := hr0.1
 subst e
 exact octets_Of.calls A0 c0 l0 r1 r2 r3 r4 w hr0 hc0 h
/-- A literal's row, with its mark. -/
theorem lit8_C (W0 : World) (e : TypeId) (xs : List Int) (fz : Nat × Nat) (hs : xs.length ≤ 9223372036854775807 := by decide) : Kd.C (Kd.int .u8) (W0.alloc (.cells (xs.map (Value.int .u8)).toArray e fz)) (some ⟨W0.heap.size, 0, none⟩) xs.length xs := by
 refine Kd.C_of_reads (d := (0 : Int)) (h1 := fun _ => rfl) ⟨rfl, hs, fun _ => ⟨_, rfl, fun j hj => ?_⟩⟩
 have h1 : (W0.alloc (.cells (xs.map (Value.int .u8)).toArray e fz)).heap[W0.heap.size]? = some (.cells (xs.map (Value.int .u8)).toArray e fz) := blk_new _ _
 have h2 := cell_of_row _ W0.heap.size j _ _ _ h1
 have e2 : (⟨W0.heap.size, 0, none⟩ : Addr).add j = ⟨W0.heap.size, j, none⟩ := by
  unfold Addr.add
  by_cases hz : j = 0
  ·subst hz; rfl
  ·simp [hz]
 rw [e2, h2]
 simp [List.getD_eq_getElem?_getD, hj]


/-! ### rfc_only: function 19 -/
-- words: functions 17, 34, 20
/-- Is a byte in four words' set? -/
def rfc_only.has (t0 t1 t2 t3 : Int) (c : UInt8) : Bool := Go.bits .and .u64 (if (c.toNat : Int) / 64 = 0 then t0 else if (c.toNat : Int) / 64 = 1 then t1 else if (c.toNat : Int) / 64 = 2 then t2 else t3) (2 ^ ((c.toNat : Int) % 64).toNat) != 0
theorem rfc_only.has_f (t0 t1 t2 t3 : Int) (c : UInt8) : octets_Has.f t0 t1 t2 t3 (c.toNat : Int) = some (rfc_only.has t0 t1 t2 t3 c) := by
 have := c.toNat_lt
 unfold octets_Has.f rfc_only.has
 rw [if_pos ⟨by omega, by omega⟩]
/-- A text's bytes, as numbers. -/
def rfc_only.nums (s : ByteArray) : List Int := s.data.toList.map fun b => (b.toNat : Int)
theorem rfc_only.nums_length (s : ByteArray) : (rfc_only.nums s).length = s.size := by rw [rfc_only.nums, List.length_map, data_length]
/-- A word with more in it. -/
def rfc_only.wor (p : Int) (s : ByteArray) (j : Nat) : Int := Go.bits .or .u64 p (Base.wd (octets_Of.p (rfc_only.nums s)) j)
def rfc_only.f (a0 : ByteArray) (a1_0 a1_1 a1_2 a1_3 : Int) (a2 : ByteArray) : Option Bool :=
 if a0.size ≤ 9223372036854775807 ∧ a2.size ≤ 9223372036854775807 then some (a0.data.toList.all (rfc_only.has (rfc_only.wor a1_0 a2 0) (rfc_only.wor a1_1 a2 1) (rfc_only.wor a1_2 a2 2) (rfc_only.wor a1_3 a2 3))) else none
theorem rfc_only.of_f (s : ByteArray) : octets_Of.f (rfc_only.nums s) = some (Base.wd (octets_Of.p (rfc_only.nums s)) 0, Base.wd (octets_Of.p (rfc_only.nums s)) 1, Base.wd (octets_Of.p (rfc_only.nums s)) 2, Base.wd (octets_Of.p (rfc_only.nums s)) 3) := by
 unfold octets_Of.f
 rw [if_pos]
 refine List.all_eq_true.2 fun x hx => ?_
 obtain ⟨b, _, rfl⟩ := List.mem_map.1 hx
 have := b.toNat_lt
 rw [Bool.and_eq_true, decide_eq_true_eq, decide_eq_true_eq]
 omega
theorem rfc_only.row (W0 : World) (e : TypeId) (s : ByteArray) (hs : s.size ≤ 9223372036854775807) : Kd.C (Kd.int .u8) (Lib.bytesWorld W0 e s) (some ⟨W0.heap.size, 0, none⟩) s.size (rfc_only.nums s) := by
 refine Kd.C_of_reads (d := (0 : Int)) (h1 := fun _ => rfl) ⟨rfc_only.nums_length s, hs, fun _ => ⟨_, rfl, fun j hj => ?_⟩⟩
 rw [add_plain, Lib.bytesWorld_cell _ _ _ _ hj]
 have h' : j < s.data.toList.length := by rw [data_length]; exact hj
 simp [rfc_only.nums, List.getD_eq_getElem?_getD, List.getElem?_eq_getElem h']
theorem rfc_only.B4_below {w w1 : World} {g : Nat} {a b c d : Int} (h : octets_words.B4 w g a b c d) (hb : Below w.heap.size w w1) : octets_words.B4 w1 g a b c d := blk_below h hb
theorem rfc_only.all_drop {p : UInt8 → Bool} {l : List UInt8} {k : Nat} (h : k < l.length) (hp : (l.take k).all p = true) (hk : p l[k] = false) : l.all p = false := by
 rw [← List.take_append_drop k l, List.all_append, hp, List.drop_eq_getElem_cons h, List.all_cons, hk]
 rfl
set_option maxHeartbeats 2000000 in
set_option maxRecDepth 100000 in
theorem rfc_only.any (a0 : ByteArray) (p0 p1 p2 p3 : Int) (a2 : ByteArray) (w : World) (h0 : a0.size ≤ 9223372036854775807) (h2 : a2.size ≤ 9223372036854775807) (r : Bool) (hr : a0.data.toList.all (rfc_only.has (rfc_only.wor p0 a2 0) (rfc_only.wor p1 a2 1) (rfc_only.wor p2 a2 2) (rfc_only.wor p3 a2 3)) = r) :
  Calls Try.prog 19 #[.string a0, .agg #[.int .u64 p0, .int .u64 p1, .int .u64 p2, .int .u64 p3], .string a2] w fun e w' => e = .returned (.bool r) ∧ Below w.heap.size w w' := by
 have hOr := Aside0.mk (show octets_Or.f p0 p1 p2 p3 (Base.wd (octets_Of.p (rfc_only.nums a2)) 0) (Base.wd (octets_Of.p (rfc_only.nums a2)) 1) (Base.wd (octets_Of.p (rfc_only.nums a2)) 2) (Base.wd (octets_Of.p (rfc_only.nums a2)) 3) = some (rfc_only.wor p0 a2 0, rfc_only.wor p1 a2 1, rfc_only.wor p2 a2 2, rfc_only.wor p3 a2 3) from rfl)
 generalize rfc_only.wor p0 a2 0 = t0 at *
 generalize rfc_only.wor p1 a2 1 = t1 at *
 generalize rfc_only.wor p2 a2 2 = t2 at *
 generalize rfc_only.wor p3 a2 3 = t3 at *
 have HR := Aside0.mk hr
 clear hr
 have kcs := fun (w : World) (s : ByteArray) => Lib.run_convert_string_bytes (P := Try.prog) w 9 58 5 s Try.underlying9 Try.underlying58 Try.underlying5
 have hB0 := Aside0.mk (show octets_words.B4 (w.alloc (Obj.cells #[.int .u64 p0, .int .u64 p1, .int .u64 p2, .int .u64 p3] 41)) w.heap.size p0 p1 p2 p3 from blk_new _ _)
 have hb0 := Aside0.mk ((Below.refl w.heap.size w).alloc (Nat.le_refl _) (Obj.cells #[.int .u64 p0, .int .u64 p1, .int .u64 p2, .int .u64 p3] 41))
 have hz0 : (w.alloc (Obj.cells #[.int .u64 p0, .int .u64 p1, .int .u64 p2, .int .u64 p3] 41)).heap.size = w.heap.size + 1 := by simp
 go_enter Try.func19, Try.ntmps19
 go_wp2_with fail
 revert hB0 hb0 hz0
 generalize (w.alloc (Obj.cells #[Value.int .u64 p0, .int .u64 p1, .int .u64 p2, .int .u64 p3] 41)) = W0
 intro hB0 hb0 hz0
 obtain ⟨c0, c1, c2, c3⟩ := octets_words.cells hB0.out
 have HZ := Aside0.mk hz0
 clear hz0
 have hbd : Below w.heap.size w W0.drew := ⟨hb0.out.os, hb0.out.tape, hb0.out.output, hb0.out.size, hb0.out.block⟩
 have hBd : octets_words.B4 W0.drew w.heap.size p0 p1 p2 p3 := hB0.out
 have HC := Aside0.mk (show Kd.C (Kd.int .u8) (Lib.bytesWorld W0.drew 5 a2) (some ⟨W0.heap.size, 0, none⟩) a2.size (rfc_only.nums a2) from rfc_only.row W0.drew 5 a2 h2)
 have hb1 := Aside0.mk (bytes_below hbd hbd.size 5 a2)
 have hB1 := Aside0.mk (rfc_only.B4_below hBd (bytes_below (Below.refl W0.drew.heap.size W0.drew) (Nat.le_refl _) 5 a2))
 have hcell := fun (i : Nat) => Lib.bytesWorld_old W0.drew 5 a2 ⟨w.heap.size, i, none⟩ (by have := HZ.out; show w.heap.size < W0.drew.heap.size; show w.heap.size < W0.heap.size; omega)
 have q0 := (hcell 0).trans (show W0.drew.cell? _ = _ from c0)
 have q1 := (hcell 1).trans (show W0.drew.cell? _ = _ from c1)
 have q2 := (hcell 2).trans (show W0.drew.cell? _ = _ from c2)
 have q3 := (hcell 3).trans (show W0.drew.cell? _ = _ from c3)
 clear hcell hbd hBd
 go_region_with (first | (go_at_call 34; (with_reducible refine (octets_Of.callsn _ _ (rfc_only.nums a2) _ _ _ _ _ HC.out (grownCap_ge _ _ _ _) (rfc_only.of_f a2)).mono ?_); rintro e w1 ⟨rfl, hb⟩; have hb2 := Aside0.mk (below_step hb1.out hb); have hB2 := Aside0.mk (rfc_only.B4_below hB1.out hb); clear hb; obtain ⟨s0, s1, s2, s3⟩ := octets_words.cells hB2.out) | (go_at_call 20; (with_reducible refine (octets_Or.calls _ _ _ _ _ _ _ _ _ _ _ _ _ hOr.out).mono ?_); rintro e w2 ⟨rfl, hb⟩; have hb3 := Aside0.mk (below_step hb2.out hb); have hB3 := Aside0.mk (rfc_only.B4_below hB2.out hb); clear hb; obtain ⟨d0, d1, d2, d3⟩ := octets_words.cells hB3.out; have f0 := octets_words.free hB3.out 0; have f1 := octets_words.free hB3.out 1; have f2 := octets_words.free hB3.out 2; have f3 := octets_words.free hB3.out 3))
 all_goals
  have hz := Aside0.mk (show octets_words.B4 _ (w.heap.size) t0 t1 t2 t3 from blk_put (blk_put (blk_put (blk_put hB3.out 0 (.int .u64 t0) rfl) 1 (.int .u64 t1) rfl) 2 (.int .u64 t2) rfl) 3 (.int .u64 t3) rfl)
  have hb4 := Aside0.mk ((((hb3.out.setCell (p := ⟨w.heap.size, 0, none⟩) (by simp) (.int .u64 t0)).setCell (p := ⟨w.heap.size, 1, none⟩) (by simp) (.int .u64 t1)).setCell (p := ⟨w.heap.size, 2, none⟩) (by simp) (.int .u64 t2)).setCell (p := ⟨w.heap.size, 3, none⟩) (by simp) (.int .u64 t3))
  clear hB3 hb3 d0 d1 d2 d3 f0 f1 f2 f3 hB0 hb0 c0 c1 c2 c3 HZ HC hb1 hB1 q0 q1 q2 q3 hOr kcs
  revert hz hb4
  generalize ((((w2.setCell ⟨w.heap.size, 0, none⟩ (.int .u64 t0)).setCell ⟨w.heap.size, 1, none⟩ (.int .u64 t1)).setCell ⟨w.heap.size, 2, none⟩ (.int .u64 t2)).setCell ⟨w.heap.size, 3, none⟩ (.int .u64 t3)) = W
  intro hz hb4
  go_wp2
  go_loopw [15] (fun i wr => ∃ (k : Nat), k ≤ a0.size ∧ i = .int .i64 k ∧ Aside0 ((a0.data.toList.take k).all (rfc_only.has t0 t1 t2 t3) = true) ∧ Aside0 (octets_words.B4 wr w.heap.size t0 t1 t2 t3) ∧ Aside0 (Below w.heap.size w wr)) (fun i _ => a0.size - (intOf i).toNat)
  case atStart => exact ⟨0, by omega, by go_num, ⟨by simp⟩, hz, hb4⟩
  case round =>
   clear hz hb4
   obtain ⟨k, hk, rfl, hall, hB, hb⟩ := hrel
   obtain ⟨c0, c1, c2, c3⟩ := octets_words.cells hB.out
   by_cases hlt : k < a0.size
   ·have hx := bt_at a0 (k : Int)
    have p9 := eq_true (show (0 : Int) ≤ (k : Int) by omega)
    have q9 := eq_true (show (k : Int) < (a0.size : Int) by omega)
    have hk2 : k < a0.data.toList.length := by rw [data_length]; exact hlt
    have hH := rfc_only.has_f t0 t1 t2 t3 (a0[k]'hlt)
    have hS : (rfc_only.has t0 t1 t2 t3 (a0[k]'hlt) = false → r = false) ∧ (rfc_only.has t0 t1 t2 t3 (a0[k]'hlt) = true → (a0.data.toList.take (k + 1)).all (rfc_only.has t0 t1 t2 t3) = true) := by
     have e : a0.data.toList[k]'hk2 = a0[k]'hlt := rfl
     refine ⟨fun h => HR.out.symm.trans (rfc_only.all_drop hk2 hall.out (by rw [e]; exact h)), fun h => ?_⟩
     rw [List.take_succ_eq_append_getElem hk2, List.all_append, hall.out, e, List.all_cons, h]
     rfl
    have HS := Aside0.mk hS
    have hbd : Below w.heap.size w wr.drew := ⟨hb.out.os, hb.out.tape, hb.out.output, hb.out.size, hb.out.block⟩
    have HD := Aside0.mk hbd
    have hBd := Aside0.mk (show octets_words.B4 wr.drew w.heap.size t0 t1 t2 t3 from hB.out)
    clear hS hbd hall
    generalize rfc_only.has t0 t1 t2 t3 (a0[k]'hlt) = b at *
    have hH2 := Aside0.mk hH
    clear hH
    go_wp2
    go_region_with (first | (go_at_call 17; (with_reducible refine (octets_Has.calls _ _ _ _ _ _ _ hH2.out).mono ?_); rintro e w3 ⟨rfl, hb5⟩))
    all_goals
     have hb6 := Aside0.mk (below_step HD.out hb5)
     have hB6 := Aside0.mk (rfc_only.B4_below hBd.out hb5)
     clear hb5 HD hBd hb hB c0 c1 c2 c3
     rcases b with _ | _
     ·go_wp2
      go_ret
      have h6 : r = false := HS.out.1 (by trivial)
      subst h6
      exact ⟨rfl, hb6.out⟩
     ·go_wp2
      go_roundw
      case rel => exact ⟨k + 1, by omega, by go_num, ⟨HS.out.2 (by trivial)⟩, hB6, hb6⟩
      case measure => simp [intOf]; omega
   ·obtain rfl : k = a0.size := by omega
    go_wp2
    go_ret
    have h5 := hall.out
    rw [List.take_of_length_le (by rw [data_length]; omega), HR.out] at h5
    subst h5
    exact ⟨rfl, hb.out⟩
theorem rfc_only.calls (a0 : ByteArray) (a1_0 a1_1 a1_2 a1_3 : Int) (a2 : ByteArray) (r : Bool) (w : World) (h : rfc_only.f a0 a1_0 a1_1 a1_2 a1_3 a2 = some r) :
  Calls Try.prog 19 #[.string a0, .agg #[.int .u64 a1_0, .int .u64 a1_1, .int .u64 a1_2, .int .u64 a1_3], .string a2] w fun e w' => e = .returned (.bool r) ∧ Below w.heap.size w w' := by
 unfold rfc_only.f at h
 by_cases hc : a0.size ≤ 9223372036854775807 ∧ a2.size ≤ 9223372036854775807
 ·rw [if_pos hc] at h
  simp only [Option.some.injEq] at h
  subst h
  exact rfc_only.any a0 _ _ _ _ a2 w hc.1 hc.2 _ rfl
 ·rw [if_neg hc] at h; exact absurd h (by simp)

/-! ### rfc_digits: function 21 -/
def rfc_digits.f  : Option (Int × Int × Int × Int) := (octets_Range.f 48 57).bind fun bt144 => (some (bt144.1, bt144.2.1, bt144.2.2.1, bt144.2.2.2))
set_option maxHeartbeats 8000000 in
set_option maxRecDepth 100000 in
theorem rfc_digits.calls  (r1 : Int) (r2 : Int) (r3 : Int) (r4 : Int) (w : World) (h : rfc_digits.f  = some (r1, r2, r3, r4)) :
  Calls Try.prog 21 #[] w fun e w' => e = .returned (.agg #[.int .u64 r1, .int .u64 r2, .int .u64 r3, .int .u64 r4]) ∧ Below w.heap.size w w' := by
 have hu41 := Try.underlying41
 have HB := Aside0.mk (Below.refl w.heap.size w)
 have H : ((octets_Range.f 48 57).bind fun bt144 => (some (bt144.1, bt144.2.1, bt144.2.2.1, bt144.2.2.2))) = some (r1, r2, r3, r4) := h
 clear h
 replace H := Option.bind_eq_some_iff.mp H
 obtain ⟨⟨t144, t145, t146, t147⟩, A10, H⟩ := H
 replace H : (some (t144, t145, t146, t147)) = some (r1, r2, r3, r4) := H
 have A1 := Aside0.mk A10
 clear A10
 simp only [Option.some.injEq, Prod.mk.injEq] at H
 obtain ⟨rfl, rfl, rfl, rfl⟩ := H
 go_enter Try.func21, Try.ntmps21
 go_wp2_with (first | ((with_reducible refine gate_dst (N := 0) rfl ?_); refine box_event ?hg (N := 0) ?hd (cs := #[.int .u64 0, .int .u64 0, .int .u64 0, .int .u64 0]) (t := 41) ?hr ?_; (case hd => rfl); (case hg => rfl); (case hr => first | (go_simp; done) | (go_simp; rfl)); intro gb143 hg w2 hbox hb; have n0_ := Aside0.mk (below_step (by repeat (first | (with_reducible first | exact HB.out | apply below_alloc | apply pw_below_drewN | apply below_drew1) | exact HB.out)) hb); have n1_ := Aside0.mk (hbox); have n2_ := Aside0.mk ((by rw [hg]; exact (below_size (by repeat (first | (with_reducible first | exact HB.out | apply below_alloc | apply pw_below_drewN | apply below_drew1) | exact HB.out))) : w.heap.size ≤ gb143)); have n3_ := Aside0.mk ((by rw [hg]; exact (below_size (by repeat (first | (with_reducible first | exact HB.out | apply below_alloc | apply pw_below_drewN | apply below_drew1) | exact HB.out))) : w.heap.size ≤ gb143)); clear HB; have HB := n0_; have BK143 := n1_; have GW143 := n2_; have GE143 := n3_; clear n0_ n1_ n2_ n3_; clear hb hbox hg) | ((with_reducible refine gate_callee (f := 33) rfl ?_); refine goesL_ (some 1) rfl rfl Try.func33 (by kernel_rfl) rfl #[.int .u8 48, .int .u8 57] rfl (by (try simp only [List.map_toArray, List.map_cons, List.map_nil]); first | done | rfl | (simp only [List.length_drop, List.length_take]; rfl)) ?_; (with_reducible refine (octets_Range.calls 48 57 t144 t145 t146 t147 _ A1.out).mono ?_); rintro e w3 ⟨rfl, hb⟩; refine ⟨_, rfl, ?_⟩; have n0_ := Aside0.mk (blk_below (g := gb143) (o := .cells #[.int .u64 0, .int .u64 0, .int .u64 0, .int .u64 0] 41 (0, 0)) (by (with_reducible repeat (first | refine blk_drewN ?_ _ | refine blk_drew ?_ | refine blk_alloc ?_ _)); exact BK143.out) hb); have n1_ := Aside0.mk (below_step (by repeat (first | (with_reducible first | exact HB.out | apply below_alloc | apply pw_below_drewN | apply below_drew1 | refine below_set ?_ GE143.out) | exact HB.out)) hb); clear BK143; clear HB; have BK143 := n0_; have HB := n1_; clear n0_ n1_; (try clear hb); (try clear hb2); (try clear hk); (try clear hi); have hcz4_0 : w3.cell? ⟨gb143, 0, none⟩ = some (.int .u64 0) := (blk_cell BK143.out 0).trans rfl; have hcz4_1 : w3.cell? ⟨gb143, 1, none⟩ = some (.int .u64 0) := (blk_cell BK143.out 1).trans rfl; have hcz4_2 : w3.cell? ⟨gb143, 2, none⟩ = some (.int .u64 0) := (blk_cell BK143.out 2).trans rfl; have hcz4_3 : w3.cell? ⟨gb143, 3, none⟩ = some (.int .u64 0) := (blk_cell BK143.out 3).trans rfl; have hfz4_0 := blk_frozen BK143.out 0; have hfz4_1 := blk_frozen BK143.out 1; have hfz4_2 := blk_frozen BK143.out 2; have hfz4_3 := blk_frozen BK143.out 3))
 refine bodyPost_ret (results_cell_row rfl _ _ gb143 41 #[.int .u64 t144, .int .u64 t145, .int .u64 t146, .int .u64 t147] (0, 0) _ rfl (by (with_reducible repeat (first | refine blk_drewN ?_ _ | refine blk_drew ?_ | refine blk_alloc ?_ _)); refine blk_put (cs := #[.int .u64 t144, .int .u64 t145, .int .u64 t146, .int .u64 0]) ?_ 3 _ rfl; (with_reducible repeat (first | refine blk_drewN ?_ _ | refine blk_drew ?_ | refine blk_alloc ?_ _)); refine blk_put (cs := #[.int .u64 t144, .int .u64 t145, .int .u64 0, .int .u64 0]) ?_ 2 _ rfl; (with_reducible repeat (first | refine blk_drewN ?_ _ | refine blk_drew ?_ | refine blk_alloc ?_ _)); refine blk_put (cs := #[.int .u64 t144, .int .u64 0, .int .u64 0, .int .u64 0]) ?_ 1 _ rfl; (with_reducible repeat (first | refine blk_drewN ?_ _ | refine blk_drew ?_ | refine blk_alloc ?_ _)); refine blk_put (cs := #[.int .u64 0, .int .u64 0, .int .u64 0, .int .u64 0]) ?_ 0 _ rfl; (with_reducible repeat (first | refine blk_drewN ?_ _ | refine blk_drew ?_ | refine blk_alloc ?_ _)); exact BK143.out) Try.underlying41 rfl (by kernel_rfl)) rfl ?_
 exact ⟨by first | rfl | (simp [errW_none, errW_some] <;> rfl) | (simp [*, errW_none, errW_some] <;> rfl), by repeat (first | (with_reducible first | exact HB.out | apply below_alloc | apply pw_below_drewN | apply below_drew1 | refine below_set ?_ GE143.out) | exact HB.out)⟩

/-! ### percent_Value: function 50 -/
mutual
def percent_Value.j0 : Nat → Int → Bool → Option (Int × Bool)
 | 0, _, _ => none
 | k + 1, x0, x4 => if x4 = true then (some ((x0 - 48) % 256, true)) else (if x0 ≥ 97 then (percent_Value.j1 k x0 (decide (x0 ≤ 102))) else (percent_Value.j1 k x0 false))
def percent_Value.j1 : Nat → Int → Bool → Option (Int × Bool)
 | 0, _, _ => none
 | k + 1, x0, x13 => if x13 = true then (some ((((x0 - 97) % 256) + 10) % 256, true)) else (if x0 ≥ 65 then (if x0 ≤ 70 then (some ((((x0 - 65) % 256) + 10) % 256, true)) else (some (0, false))) else (some (0, false)))
end
def percent_Value.f (k : Nat) (a0 : Int) : Option (Int × Bool) := if a0 ≥ 48 then (percent_Value.j0 k a0 (decide (a0 ≤ 57))) else (percent_Value.j0 k a0 false)
theorem percent_Value.mono_l : ∀ k, (∀ y0 y1, LeO (percent_Value.j0 k y0 y1) (percent_Value.j0 (k + 1) y0 y1)) ∧ (∀ y0 y1, LeO (percent_Value.j1 k y0 y1) (percent_Value.j1 (k + 1) y0 y1))
 | 0 => ⟨fun _ _ r h => by simp [percent_Value.j0] at h, fun _ _ r h => by simp [percent_Value.j1] at h⟩
 | k + 1 => by
  obtain ⟨ih0, ih1⟩ := percent_Value.mono_l k
  refine ⟨?_, ?_⟩
  ·intro y0 y1
   unfold percent_Value.j0
   repeat' first
   | (with_reducible exact ih0 _ _)
   | (with_reducible exact ih1 _ _)
   | (with_reducible exact LeO.refl _)
   | (with_reducible exact LeO.none _)
   | (with_reducible refine LeO.ite ?_ ?_)
   | (with_reducible refine LeO.bind ?_ (fun _ => ?_))
   | exact ih0 _ _
   | exact ih1 _ _
   | exact LeO.none _
   | refine LeO.ite ?_ ?_
   | refine LeO.bind ?_ (fun _ => ?_)
  ·intro y0 y1
   unfold percent_Value.j1
   repeat' first
   | (with_reducible exact ih0 _ _)
   | (with_reducible exact ih1 _ _)
   | (with_reducible exact LeO.refl _)
   | (with_reducible exact LeO.none _)
   | (with_reducible refine LeO.ite ?_ ?_)
   | (with_reducible refine LeO.bind ?_ (fun _ => ?_))
   | exact ih0 _ _
   | exact ih1 _ _
   | exact LeO.none _
   | refine LeO.ite ?_ ?_
   | refine LeO.bind ?_ (fun _ => ?_)
theorem percent_Value.mono : ∀ a0 k, LeO (percent_Value.f k a0) (percent_Value.f (k + 1) a0) := by
 intro a0 k
 obtain ⟨ih0, ih1⟩ := percent_Value.mono_l k
 unfold percent_Value.f
 repeat' first
   | (with_reducible exact ih0 _ _)
   | (with_reducible exact ih1 _ _)
   | (with_reducible exact LeO.refl _)
   | (with_reducible exact LeO.none _)
   | (with_reducible refine LeO.ite ?_ ?_)
   | (with_reducible refine LeO.bind ?_ (fun _ => ?_))
   | exact ih0 _ _
   | exact ih1 _ _
   | exact LeO.none _
   | refine LeO.ite ?_ ?_
   | refine LeO.bind ?_ (fun _ => ?_)
set_option maxHeartbeats 8000000 in
set_option maxRecDepth 100000 in
theorem percent_Value.calls (k : Nat) (a0 : Int) (r1 : Int) (r2 : Bool) (w : World) (h : percent_Value.f k a0 = some (r1, r2)) :
  Calls Try.prog 50 #[.int .u8 a0] w fun e w' => e = .returned (.tuple #[.int .u8 r1, .bool r2]) ∧ Drawn0 w w' := by
 have H : (if a0 ≥ 48 then (percent_Value.j0 k a0 (decide (a0 ≤ 57))) else (percent_Value.j0 k a0 false)) = some (r1, r2) := h
 clear h
 have HC2 := Aside0.mk H
 clear H
 go_enter Try.func50, Try.ntmps50
 go_upto_region 1 with (fail)
 go_cut [4] (fun v4 wc => ∃ (kq : Nat) (x4_1 : Bool), v4 = .bool x4_1 ∧ Aside0 (percent_Value.j0 kq a0 x4_1 = some (r1, r2)) ∧ Aside0 (kq ≤ k) ∧ Drawn0 w wc)
 case first =>
  have H := HC2.out
  clear HC2
  by_cases c3 : a0 ≥ 48
  ·rw [if_pos c3] at H
   have c3b0 : decide (48 ≤ a0) = true := decide_eq_true c3
   clear c3
   (first | rw [c3b0] | (simp only [i64_w, i32_w]; rw [c3b0]) | skip)
   have H' := Aside0.mk H
   clear H
   go_wp2
   go_meet
   case rel => exact ⟨_, (decide (a0 ≤ 57)), (by first | rfl | (simp; done) | (simp [*]; done)), H', ⟨by first | omega | exact Nat.le_refl _⟩, by repeat (first | exact Drawn0.refl _ | apply Drawn0.step)⟩
  ·rw [if_neg c3] at H
   have c3b0 : decide (48 ≤ a0) = false := decide_eq_false c3
   clear c3
   (first | rw [c3b0] | (simp only [i64_w, i32_w]; rw [c3b0]) | skip)
   have H' := Aside0.mk H
   clear H
   go_wp2
   go_meet
   case rel => exact ⟨_, (false), (by first | rfl | (simp; done) | (simp [*]; done)), H', ⟨by first | omega | exact Nat.le_refl _⟩, by repeat (first | exact Drawn0.refl _ | apply Drawn0.step)⟩
 case rest =>
  clear HC2
  try clear p2
  try clear c3
  try clear c3b0
  obtain ⟨kq, x4_1, rfl, HA, HJ1, ⟨mc1, rfl⟩⟩ := hcut
  cases kq with
  | zero => exact absurd HA.out (by simp [percent_Value.j0])
  | succ kj1 =>
   have H := HA.out
   clear HA
   simp only [percent_Value.j0] at H
   by_cases c4 : x4_1 = true
   ·subst c4
    have H1 : (some ((a0 - 48) % 256, true)) = some (r1, r2) := by rw [if_pos rfl] at H; exact H
    clear H
    have H := H1
    clear H1
    simp only [Option.some.injEq, Prod.mk.injEq] at H
    obtain ⟨rfl, rfl⟩ := H
    go_wp2
    go_ret2
    exact ⟨by first | rfl | (simp; done) | (simp [*]; done), by repeat (first | exact Drawn0.refl _ | apply Drawn0.step)⟩
   ·replace c4 := Bool.eq_false_iff.mpr c4
    subst c4
    have H1 : (if a0 ≥ 97 then (percent_Value.j1 kj1 a0 (decide (a0 ≤ 102))) else (percent_Value.j1 kj1 a0 false)) = some (r1, r2) := by rw [if_neg (show ¬ (false = true) by decide)] at H; exact H
    clear H
    have H := H1
    clear H1
    have HC5 := Aside0.mk H
    clear H
    go_upto_region 3 with (fail)
    go_cut [13] (fun v13 wc => ∃ (kq : Nat) (x13_4 : Bool), v13 = .bool x13_4 ∧ Aside0 (percent_Value.j1 kq a0 x13_4 = some (r1, r2)) ∧ Aside0 (kq ≤ kj1) ∧ Drawn0 w wc)
    case first =>
     have H := HC5.out
     clear HC5
     by_cases c6 : a0 ≥ 97
     ·rw [if_pos c6] at H
      have c6b0 : decide (97 ≤ a0) = true := decide_eq_true c6
      clear c6
      (first | rw [c6b0] | (simp only [i64_w, i32_w]; rw [c6b0]) | skip)
      have H' := Aside0.mk H
      clear H
      go_wp2
      go_meet
      case rel => exact ⟨_, (decide (a0 ≤ 102)), (by first | rfl | (simp; done) | (simp [*]; done)), H', ⟨by have := HJ1.out; first | omega | exact Nat.le_refl _⟩, by repeat (first | exact Drawn0.refl _ | apply Drawn0.step)⟩
     ·rw [if_neg c6] at H
      have c6b0 : decide (97 ≤ a0) = false := decide_eq_false c6
      clear c6
      (first | rw [c6b0] | (simp only [i64_w, i32_w]; rw [c6b0]) | skip)
      have H' := Aside0.mk H
      clear H
      go_wp2
      go_meet
      case rel => exact ⟨_, (false), (by first | rfl | (simp; done) | (simp [*]; done)), H', ⟨by have := HJ1.out; first | omega | exact Nat.le_refl _⟩, by repeat (first | exact Drawn0.refl _ | apply Drawn0.step)⟩
    case rest =>
     clear HC5
     try clear c1
     try clear p2
     try clear c3
     try clear c3b0
     try clear c4
     try clear c5
     try clear c6
     try clear c6b0
     try clear p2
     obtain ⟨kq, x13_4, rfl, HA, HJ4, ⟨mc4, rfl⟩⟩ := hcut
     cases kq with
     | zero => exact absurd HA.out (by simp [percent_Value.j1])
     | succ kj4 =>
      have H := HA.out
      clear HA
      simp only [percent_Value.j1] at H
      by_cases c7 : x13_4 = true
      ·subst c7
       have H1 : (some ((((a0 - 97) % 256) + 10) % 256, true)) = some (r1, r2) := by rw [if_pos rfl] at H; exact H
       clear H
       have H := H1
       clear H1
       simp only [Option.some.injEq, Prod.mk.injEq] at H
       obtain ⟨rfl, rfl⟩ := H
       go_wp2
       go_ret2
       exact ⟨by first | rfl | (simp; done) | (simp [*]; done), by repeat (first | exact Drawn0.refl _ | apply Drawn0.step)⟩
      ·replace c7 := Bool.eq_false_iff.mpr c7
       subst c7
       have H1 : (if a0 ≥ 65 then (if a0 ≤ 70 then (some ((((a0 - 65) % 256) + 10) % 256, true)) else (some (0, false))) else (some (0, false))) = some (r1, r2) := by rw [if_neg (show ¬ (false = true) by decide)] at H; exact H
       clear H
       have H := H1
       clear H1
       by_cases c8 : a0 ≥ 65
       ·rw [if_pos c8] at H
        have c8b0 : decide (65 ≤ a0) = true := decide_eq_true c8
        clear c8
        by_cases c9 : a0 ≤ 70
        ·rw [if_pos c9] at H
         have c9b0 : decide (a0 ≤ 70) = true := decide_eq_true c9
         clear c9
         simp only [Option.some.injEq, Prod.mk.injEq] at H
         obtain ⟨rfl, rfl⟩ := H
         go_wp2
         go_ret2
         exact ⟨by first | rfl | (simp; done) | (simp [*]; done), by repeat (first | exact Drawn0.refl _ | apply Drawn0.step)⟩
        ·rw [if_neg c9] at H
         have c9b0 : decide (a0 ≤ 70) = false := decide_eq_false c9
         clear c9
         simp only [Option.some.injEq, Prod.mk.injEq] at H
         obtain ⟨rfl, rfl⟩ := H
         go_wp2
         go_ret2
         exact ⟨by first | rfl | (simp; done) | (simp [*]; done), by repeat (first | exact Drawn0.refl _ | apply Drawn0.step)⟩
       ·rw [if_neg c8] at H
        have c8b0 : decide (65 ≤ a0) = false := decide_eq_false c8
        clear c8
        simp only [Option.some.injEq, Prod.mk.injEq] at H
        obtain ⟨rfl, rfl⟩ := H
        go_wp2
        go_ret2
        exact ⟨by first | rfl | (simp; done) | (simp [*]; done), by repeat (first | exact Drawn0.refl _ | apply Drawn0.step)⟩

/-! ### percent_escape: function 31 -/
def percent_escape.j0 : Nat → ByteArray → Bool → Option (Int × Bool)
 | 0, _, _ => none
 | k + 1, x0, x15 => if x15 = true then (some (0, false)) else (if 1 < (x0.size : Int) then ((percent_Value.f k (bt x0 1)).bind fun bt148 => (if 2 < (x0.size : Int) then ((percent_Value.f k (bt x0 2)).bind fun bt150 => (if bt148.2 = true then (some (Go.bits .or .u8 ((bt148.1 * 16) % 256) bt150.1, bt150.2)) else (some (Go.bits .or .u8 ((bt148.1 * 16) % 256) bt150.1, false)))) else (none))) else (none))
def percent_escape.f (k : Nat) (a0 : ByteArray) : Option (Int × Bool) := if (a0.size : Int) < 3 then (percent_escape.j0 k a0 true) else (if 0 < (a0.size : Int) then (percent_escape.j0 k a0 ((bt a0 0) != 37)) else (none))
theorem percent_escape.mono_l : ∀ k, (∀ y0 y1, LeO (percent_escape.j0 k y0 y1) (percent_escape.j0 (k + 1) y0 y1))
 | 0 => fun _ _ r h => by simp [percent_escape.j0] at h
 | k + 1 => by
  have ih0 := percent_escape.mono_l k
  ·intro y0 y1
   unfold percent_escape.j0
   repeat' first
   | (with_reducible exact ih0 _ _)
   | (with_reducible exact percent_Value.mono _ _)
   | (with_reducible exact LeO.refl _)
   | (with_reducible exact LeO.none _)
   | (with_reducible refine LeO.ite ?_ ?_)
   | (with_reducible refine LeO.bind ?_ (fun _ => ?_))
   | exact ih0 _ _
   | exact percent_Value.mono _ _
   | exact LeO.none _
   | refine LeO.ite ?_ ?_
   | refine LeO.bind ?_ (fun _ => ?_)
theorem percent_escape.mono : ∀ a0 k, LeO (percent_escape.f k a0) (percent_escape.f (k + 1) a0) := by
 intro a0 k
 have ih0 := percent_escape.mono_l k
 unfold percent_escape.f
 repeat' first
   | (with_reducible exact ih0 _ _)
   | (with_reducible exact percent_Value.mono _ _)
   | (with_reducible exact LeO.refl _)
   | (with_reducible exact LeO.none _)
   | (with_reducible refine LeO.ite ?_ ?_)
   | (with_reducible refine LeO.bind ?_ (fun _ => ?_))
   | exact ih0 _ _
   | exact percent_Value.mono _ _
   | exact LeO.none _
   | refine LeO.ite ?_ ?_
   | refine LeO.bind ?_ (fun _ => ?_)
set_option maxHeartbeats 8000000 in
set_option maxRecDepth 100000 in
theorem percent_escape.calls (k : Nat) (a0 : ByteArray) (r1 : Int) (r2 : Bool) (w : World) (h : percent_escape.f k a0 = some (r1, r2)) :
  Calls Try.prog 31 #[.string a0] w fun e w' => e = .returned (.tuple #[.int .u8 r1, .bool r2]) ∧ Drawn0 w w' := by
 have H : (if (a0.size : Int) < 3 then (percent_escape.j0 k a0 true) else (if 0 < (a0.size : Int) then (percent_escape.j0 k a0 ((bt a0 0) != 37)) else (none))) = some (r1, r2) := h
 clear h
 have HC2 := Aside0.mk H
 clear H
 go_enter Try.func31, Try.ntmps31
 go_upto_region 1 with (fail)
 go_cut [15] (fun v15 wc => ∃ (kq : Nat) (x15_1 : Bool), v15 = .bool x15_1 ∧ Aside0 (percent_escape.j0 kq a0 x15_1 = some (r1, r2)) ∧ Aside0 (kq ≤ k) ∧ Drawn0 w wc)
 case first =>
  have H := HC2.out
  clear HC2
  by_cases c3 : (a0.size : Int) < 3
  ·rw [if_pos c3] at H
   have c3b0 : decide ((a0.size : Int) < 3) = true := decide_eq_true c3
   have c3b1 : decide (a0.size < 3) = true := decide_eq_true (by omega)
   clear c3
   (first | rw [c3b0] | (simp only [i64_w, i32_w]; rw [c3b0]) | skip)
   have H' := Aside0.mk H
   clear H
   go_wp2
   go_meet
   case rel => exact ⟨_, (true), (by first | rfl | (simp; done) | (simp [*]; done)), H', ⟨by first | omega | exact Nat.le_refl _⟩, by repeat (first | exact Drawn0.refl _ | apply Drawn0.step)⟩
  ·rw [if_neg c3] at H
   have c3b0 : decide ((a0.size : Int) < 3) = false := decide_eq_false c3
   have c3b1 : decide (a0.size < 3) = false := decide_eq_false (by omega)
   clear c3
   (first | rw [c3b0] | (simp only [i64_w, i32_w]; rw [c3b0]) | skip)
   by_cases c4 : 0 < (a0.size : Int)
   ·rw [if_pos c4] at H
    have c4b0 : decide (0 < (a0.size : Int)) = true := decide_eq_true c4
    have c4b1 : decide (0 < a0.size) = true := decide_eq_true (by omega)
    clear c4
    have H' := Aside0.mk H
    clear H
    have p5 : 0 ≤ (0 : Int) := (by omega)
    have q5 : 0 < a0.size := (by have : (0 : Int) < (a0.size : Int) := of_decide_eq_true (by first | (with_reducible assumption) | assumption); omega)
    have hx5 : ∀ h : 0 < a0.size, ((a0[0]'h).toNat : Int) = bt a0 0 := bt_at a0 0
    clear p5
    have qi5 : (0 < (a0.size : Int)) = True := eq_true (of_decide_eq_true (by first | (with_reducible assumption) | assumption))
    replace q5 := eq_true q5
    go_wp2
    go_meet
    case rel => exact ⟨_, (((bt a0 0) != 37)), (by first | rfl | (simp; done) | (simp [*]; done)), H', ⟨by first | omega | exact Nat.le_refl _⟩, by repeat (first | exact Drawn0.refl _ | apply Drawn0.step)⟩
   ·rw [if_neg c4] at H
    exact absurd H (by simp)
 case rest =>
  clear HC2
  try clear p2
  try clear c3
  try clear c3b0
  try clear c3b1
  try clear c4
  try clear c4b0
  try clear c4b1
  try clear p5
  try clear q5
  try clear hx5
  try clear qi5
  try clear p5
  try clear q5
  obtain ⟨kq, x15_1, rfl, HA, HJ1, ⟨mc1, rfl⟩⟩ := hcut
  cases kq with
  | zero => exact absurd HA.out (by simp [percent_escape.j0])
  | succ kj1 =>
   have H := HA.out
   clear HA
   simp only [percent_escape.j0] at H
   by_cases c6 : x15_1 = true
   ·subst c6
    have H1 : (some (0, false)) = some (r1, r2) := by rw [if_pos rfl] at H; exact H
    clear H
    have H := H1
    clear H1
    simp only [Option.some.injEq, Prod.mk.injEq] at H
    obtain ⟨rfl, rfl⟩ := H
    go_wp2
    go_ret2
    exact ⟨by first | rfl | (simp; done) | (simp [*]; done), by repeat (first | exact Drawn0.refl _ | apply Drawn0.step)⟩
   ·replace c6 := Bool.eq_false_iff.mpr c6
    subst c6
    have H1 : (if 1 < (a0.size : Int) then ((percent_Value.f kj1 (bt a0 1)).bind fun bt148 => (if 2 < (a0.size : Int) then ((percent_Value.f kj1 (bt a0 2)).bind fun bt150 => (if bt148.2 = true then (some (Go.bits .or .u8 ((bt148.1 * 16) % 256) bt150.1, bt150.2)) else (some (Go.bits .or .u8 ((bt148.1 * 16) % 256) bt150.1, false)))) else (none))) else (none)) = some (r1, r2) := by rw [if_neg (show ¬ (false = true) by decide)] at H; exact H
    clear H
    have H := H1
    clear H1
    by_cases c7 : 1 < (a0.size : Int)
    ·rw [if_pos c7] at H
     have c7b0 : decide (1 < (a0.size : Int)) = true := decide_eq_true c7
     have c7b1 : decide (1 < a0.size) = true := decide_eq_true (by omega)
     clear c7
     replace H := Option.bind_eq_some_iff.mp H
     obtain ⟨⟨t148, t149⟩, A90, H⟩ := H
     replace H : (if 2 < (a0.size : Int) then ((percent_Value.f kj1 (bt a0 2)).bind fun bt150 => (if t149 = true then (some (Go.bits .or .u8 ((t148 * 16) % 256) bt150.1, bt150.2)) else (some (Go.bits .or .u8 ((t148 * 16) % 256) bt150.1, false)))) else (none)) = some (r1, r2) := H
     have A9 := Aside0.mk A90
     clear A90
     by_cases c10 : 2 < (a0.size : Int)
     ·rw [if_pos c10] at H
      have c10b0 : decide (2 < (a0.size : Int)) = true := decide_eq_true c10
      have c10b1 : decide (2 < a0.size) = true := decide_eq_true (by omega)
      clear c10
      replace H := Option.bind_eq_some_iff.mp H
      obtain ⟨⟨t150, t151⟩, A120, H⟩ := H
      replace H : (if t149 = true then (some (Go.bits .or .u8 ((t148 * 16) % 256) t150, t151)) else (some (Go.bits .or .u8 ((t148 * 16) % 256) t150, false))) = some (r1, r2) := H
      have A12 := Aside0.mk A120
      clear A120
      by_cases c13 : t149 = true
      ·subst c13
       have H1 : (some (Go.bits .or .u8 ((t148 * 16) % 256) t150, t151)) = some (r1, r2) := by rw [if_pos rfl] at H; exact H
       clear H
       have H := H1
       clear H1
       simp only [Option.some.injEq, Prod.mk.injEq] at H
       obtain ⟨rfl, rfl⟩ := H
       have p8 : 0 ≤ (1 : Int) := (by omega)
       have q8 : 1 < a0.size := (by have : (1 : Int) < (a0.size : Int) := of_decide_eq_true (by first | (with_reducible assumption) | assumption); omega)
       have hx8 : ∀ h : 1 < a0.size, ((a0[1]'h).toNat : Int) = bt a0 1 := bt_at a0 1
       clear p8
       have qi8 : (1 < (a0.size : Int)) = True := eq_true (of_decide_eq_true (by first | (with_reducible assumption) | assumption))
       replace q8 := eq_true q8
       go_wp2_with (first | ((with_reducible refine gate_callee (f := 50) rfl ?_); refine goesL_ (some 19) rfl rfl Try.func50 (by kernel_rfl) rfl #[.int .u8 (bt a0 1)] rfl (by (try simp only [List.map_toArray, List.map_cons, List.map_nil]); first | done | rfl | (simp only [List.length_drop, List.length_take]; rfl)) ?_; (with_reducible refine (percent_Value.calls kj1 (bt a0 1) t148 true _ A9.out).mono ?_); rintro e w' ⟨rfl, ⟨nd, rfl⟩⟩; refine ⟨_, rfl, ?_⟩; have p11 : 0 ≤ (2 : Int) := (by omega); have q11 : 2 < a0.size := (by have : (2 : Int) < (a0.size : Int) := of_decide_eq_true (by first | (with_reducible assumption) | assumption); omega); have hx11 : ∀ h : 2 < a0.size, ((a0[2]'h).toNat : Int) = bt a0 2 := bt_at a0 2; clear p11; have qi11 : (2 < (a0.size : Int)) = True := eq_true (of_decide_eq_true (by first | (with_reducible assumption) | assumption)); replace q11 := eq_true q11) | ((with_reducible refine gate_callee (f := 50) rfl ?_); refine goesL_ (some 25) rfl rfl Try.func50 (by kernel_rfl) rfl #[.int .u8 (bt a0 2)] rfl (by (try simp only [List.map_toArray, List.map_cons, List.map_nil]); first | done | rfl | (simp only [List.length_drop, List.length_take]; rfl)) ?_; (with_reducible refine (percent_Value.calls kj1 (bt a0 2) t150 t151 _ A12.out).mono ?_); rintro e w' ⟨rfl, ⟨nd, rfl⟩⟩; refine ⟨_, rfl, ?_⟩))
       go_ret2
       exact ⟨by first | rfl | (simp; done) | (simp [*]; done), by repeat (first | exact Drawn0.refl _ | apply Drawn0.step)⟩
      ·replace c13 := Bool.eq_false_iff.mpr c13
       subst c13
       have H1 : (some (Go.bits .or .u8 ((t148 * 16) % 256) t150, false)) = some (r1, r2) := by rw [if_neg (show ¬ (false = true) by decide)] at H; exact H
       clear H
       have H := H1
       clear H1
       simp only [Option.some.injEq, Prod.mk.injEq] at H
       obtain ⟨rfl, rfl⟩ := H
       have p8 : 0 ≤ (1 : Int) := (by omega)
       have q8 : 1 < a0.size := (by have : (1 : Int) < (a0.size : Int) := of_decide_eq_true (by first | (with_reducible assumption) | assumption); omega)
       have hx8 : ∀ h : 1 < a0.size, ((a0[1]'h).toNat : Int) = bt a0 1 := bt_at a0 1
       clear p8
       have qi8 : (1 < (a0.size : Int)) = True := eq_true (of_decide_eq_true (by first | (with_reducible assumption) | assumption))
       replace q8 := eq_true q8
       go_wp2_with (first | ((with_reducible refine gate_callee (f := 50) rfl ?_); refine goesL_ (some 19) rfl rfl Try.func50 (by kernel_rfl) rfl #[.int .u8 (bt a0 1)] rfl (by (try simp only [List.map_toArray, List.map_cons, List.map_nil]); first | done | rfl | (simp only [List.length_drop, List.length_take]; rfl)) ?_; (with_reducible refine (percent_Value.calls kj1 (bt a0 1) t148 false _ A9.out).mono ?_); rintro e w' ⟨rfl, ⟨nd, rfl⟩⟩; refine ⟨_, rfl, ?_⟩; have p11 : 0 ≤ (2 : Int) := (by omega); have q11 : 2 < a0.size := (by have : (2 : Int) < (a0.size : Int) := of_decide_eq_true (by first | (with_reducible assumption) | assumption); omega); have hx11 : ∀ h : 2 < a0.size, ((a0[2]'h).toNat : Int) = bt a0 2 := bt_at a0 2; clear p11; have qi11 : (2 < (a0.size : Int)) = True := eq_true (of_decide_eq_true (by first | (with_reducible assumption) | assumption)); replace q11 := eq_true q11) | ((with_reducible refine gate_callee (f := 50) rfl ?_); refine goesL_ (some 25) rfl rfl Try.func50 (by kernel_rfl) rfl #[.int .u8 (bt a0 2)] rfl (by (try simp only [List.map_toArray, List.map_cons, List.map_nil]); first | done | rfl | (simp only [List.length_drop, List.length_take]; rfl)) ?_; (with_reducible refine (percent_Value.calls kj1 (bt a0 2) t150 t151 _ A12.out).mono ?_); rintro e w' ⟨rfl, ⟨nd, rfl⟩⟩; refine ⟨_, rfl, ?_⟩))
       go_ret2
       exact ⟨by first | rfl | (simp; done) | (simp [*]; done), by repeat (first | exact Drawn0.refl _ | apply Drawn0.step)⟩
     ·rw [if_neg c10] at H
      exact absurd H (by simp)
    ·rw [if_neg c7] at H
     exact absurd H (by simp)

end Go.Proofs.Ytiihgddpejmehaa.ZA

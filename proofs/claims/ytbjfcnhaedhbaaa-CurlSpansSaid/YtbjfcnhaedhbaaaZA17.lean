/- My own print (tools/mp.py) of functions of this seat: each function as a plain Lean function, and the proof that the code does what that function says. -/
import Derived.Test.YtbjfcnhaedhbaaaZA0
import Derived.Test.YtbjfcnhaedhbaaaZA1
import Derived.Test.YtbjfcnhaedhbaaaZA2
import Derived.Test.YtbjfcnhaedhbaaaZA14
namespace Go.Proofs.Ytbjfcnhaedhbaaa.ZA
open Go.RowKit Go.Proofs.YtbjfcnhaedhbaaaW.PrintWords Go.Proofs.YtbjfcnhaedhbaaaW.PrintLast Go.Proofs.YtbjfcnhaedhbaaaW.PrintMore
attribute [local go_sem] max2_int min2_int max_two min_two max_three min_three max_four min_four   -- for this text's walks alone
set_option linter.unusedVariables false
set_option linter.unusedSimpArgs false

attribute [local go_sem high] eqA24
/-! ### octets_Not: function 22 -/
/-- All bits turned (words: function 46's text). -/
def notw (x : Int) : Int := 18446744073709551615 - x
def octets_Not.f (a0_0 a0_1 a0_2 a0_3 : Int) : Option (Int × Int × Int × Int) :=
  if (0 ≤ a0_0 ∧ a0_0 ≤ 18446744073709551615) ∧ (0 ≤ a0_1 ∧ a0_1 ≤ 18446744073709551615) ∧ (0 ≤ a0_2 ∧ a0_2 ≤ 18446744073709551615) ∧ (0 ≤ a0_3 ∧ a0_3 ≤ 18446744073709551615) then some (notw a0_0, notw a0_1, notw a0_2, notw a0_3) else none
theorem octets_Not.word (x : Int) (h : 0 ≤ x ∧ x ≤ 18446744073709551615) : Go.bits .xor .u64 (-1) x = notw x := Base.xor_all x h
theorem octets_Not.set (p : Nat → Bool) : octets_Not.f (Base.wd p 0) (Base.wd p 1) (Base.wd p 2) (Base.wd p 3) = some (Base.wd (fun n => !p n) 0, Base.wd (fun n => !p n) 1, Base.wd (fun n => !p n) 2, Base.wd (fun n => !p n) 3) := by
  have h : ∀ j, 0 ≤ Base.wd p j ∧ Base.wd p j ≤ 18446744073709551615 := fun j => by have := Base.wd_lt p j; unfold Base.wd; omega
  unfold octets_Not.f notw
  rw [if_pos ⟨h 0, h 1, h 2, h 3⟩]
  simp only [Base.wd_not]
set_option maxHeartbeats 1000000 in
set_option maxRecDepth 100000 in
theorem octets_Not.any (x0 x1 x2 x3 : Int) (hx : (0 ≤ x0 ∧ x0 ≤ 18446744073709551615) ∧ (0 ≤ x1 ∧ x1 ≤ 18446744073709551615) ∧ (0 ≤ x2 ∧ x2 ≤ 18446744073709551615) ∧ (0 ≤ x3 ∧ x3 ≤ 18446744073709551615)) (w : World) :
    Calls Try.prog 22 #[.agg #[.int .u64 x0, .int .u64 x1, .int .u64 x2, .int .u64 x3]] w fun e w' => e = .returned (.agg #[.int .u64 (notw x0), .int .u64 (notw x1), .int .u64 (notw x2), .int .u64 (notw x3)]) ∧ Below w.heap.size w w' := by
  have HX := Aside0.mk hx
  clear hx
  go_enter Try.func22, Try.ntmps22
  go_wp2
  go_loopw [4] (fun i wr => ∃ (k : Nat) (a b c d : Int), k ≤ 4 ∧ i = .int .i64 k ∧ Aside0 (a = (if 0 < k then notw x0 else x0) ∧ b = (if 1 < k then notw x1 else x1) ∧ c = (if 2 < k then notw x2 else x2) ∧ d = (if 3 < k then notw x3 else x3)) ∧ Aside0 (octets_words.B4 wr w.heap.size a b c d) ∧ Aside0 (octets_words.B4 wr (w.heap.size + 1) 0 0 0 0) ∧ Aside0 (Below w.heap.size w wr)) (fun i _ => 4 - (intOf i).toNat)
  case atStart =>
    refine ⟨0, x0, x1, x2, x3, by omega, rfl, ⟨by simp⟩, ⟨?_⟩, ⟨?_⟩, ⟨?_⟩⟩
    · exact blk_alloc (blk_new _ _) _
    · have := blk_new (w.alloc (Obj.cells #[Value.int .u64 x0, Value.int .u64 x1, Value.int .u64 x2, Value.int .u64 x3] 38)) (Obj.cells #[Value.int .u64 0, Value.int .u64 0, Value.int .u64 0, Value.int .u64 0] 38)
      simpa [octets_words.B4] using this
    · exact (((Below.refl _ _).alloc (Nat.le_refl _) _).alloc (by simp) _)
  case round =>
    obtain ⟨k, a, b, c, d, hk, rfl, he, ha, hc, hd⟩ := hrel
    have fa := fun i => octets_words.free ha.out i
    obtain ⟨a0, a1, a2, a3⟩ := octets_words.cells ha.out
    by_cases hlt : k < 4
    · have q : k = 0 ∨ k = 1 ∨ k = 2 ∨ k = 3 := by omega
      rcases q with rfl | rfl | rfl | rfl
      · have f0 := fa 0
        clear hk hlt fa a1 a2 a3
        go_wp2
        go_roundw
        case rel =>
          obtain ⟨e0, e1, e2, e3⟩ := he.out
          obtain ⟨h0, h1, h2, h3⟩ := HX.out
          refine ⟨1, _, b, c, d, by omega, by go_num, ⟨?_⟩, ⟨blk_put ha.out 0 _ rfl⟩, ⟨blk_far hc.out (by show w.heap.size + 1 ≠ w.heap.size; omega) _⟩, ⟨hd.out.setCell (by simp) _⟩⟩
          simp [e0, e1, e2, e3]
          try exact octets_Not.word _ h0
        case measure => simp [intOf]
      · have f1 := fa 1
        clear hk hlt fa a0 a2 a3
        go_wp2
        go_roundw
        case rel =>
          obtain ⟨e0, e1, e2, e3⟩ := he.out
          obtain ⟨h0, h1, h2, h3⟩ := HX.out
          refine ⟨2, a, _, c, d, by omega, by go_num, ⟨?_⟩, ⟨blk_put ha.out 1 _ rfl⟩, ⟨blk_far hc.out (by show w.heap.size + 1 ≠ w.heap.size; omega) _⟩, ⟨hd.out.setCell (by simp) _⟩⟩
          simp [e0, e1, e2, e3]
          try exact octets_Not.word _ h1
        case measure => simp [intOf]
      · have f2 := fa 2
        clear hk hlt fa a0 a1 a3
        go_wp2
        go_roundw
        case rel =>
          obtain ⟨e0, e1, e2, e3⟩ := he.out
          obtain ⟨h0, h1, h2, h3⟩ := HX.out
          refine ⟨3, a, b, _, d, by omega, by go_num, ⟨?_⟩, ⟨blk_put ha.out 2 _ rfl⟩, ⟨blk_far hc.out (by show w.heap.size + 1 ≠ w.heap.size; omega) _⟩, ⟨hd.out.setCell (by simp) _⟩⟩
          simp [e0, e1, e2, e3]
          try exact octets_Not.word _ h2
        case measure => simp [intOf]
      · have f3 := fa 3
        clear hk hlt fa a0 a1 a2
        go_wp2
        go_roundw
        case rel =>
          obtain ⟨e0, e1, e2, e3⟩ := he.out
          obtain ⟨h0, h1, h2, h3⟩ := HX.out
          refine ⟨4, a, b, c, _, by omega, by go_num, ⟨?_⟩, ⟨blk_put ha.out 3 _ rfl⟩, ⟨blk_far hc.out (by show w.heap.size + 1 ≠ w.heap.size; omega) _⟩, ⟨hd.out.setCell (by simp) _⟩⟩
          simp [e0, e1, e2, e3]
          try exact octets_Not.word _ h3
        case measure => simp [intOf]
    · obtain rfl : k = 4 := by omega
      have fc := fun i => octets_words.free hc.out i
      obtain ⟨c0, c1, c2, c3⟩ := octets_words.cells hc.out
      have f0 := fc 0
      have f1 := fc 1
      have f2 := fc 2
      have f3 := fc 3
      clear fa fc hk hlt
      go_wp2
      obtain ⟨e0, e1, e2, e3⟩ := he.out
      have hz := Aside0.mk (show octets_words.B4 _ (w.heap.size + 1) a b c d from blk_put (blk_put (blk_put (blk_put hc.out 0 (.int .u64 a) rfl) 1 (.int .u64 b) rfl) 2 (.int .u64 c) rfl) 3 (.int .u64 d) rfl)
      have hb4 := Aside0.mk ((((hd.out.setCell (p := ⟨w.heap.size + 1, 0, none⟩) (by simp; try omega) (.int .u64 a)).setCell (p := ⟨w.heap.size + 1, 1, none⟩) (by simp; try omega) (.int .u64 b)).setCell (p := ⟨w.heap.size + 1, 2, none⟩) (by simp; try omega) (.int .u64 c)).setCell (p := ⟨w.heap.size + 1, 3, none⟩) (by simp; try omega) (.int .u64 d))
      revert hz hb4
      generalize ((((wr.setCell ⟨w.heap.size + 1, 0, none⟩ (.int .u64 a)).setCell ⟨w.heap.size + 1, 1, none⟩ (.int .u64 b)).setCell ⟨w.heap.size + 1, 2, none⟩ (.int .u64 c)).setCell ⟨w.heap.size + 1, 3, none⟩ (.int .u64 d)) = W
      intro hz hb4
      obtain ⟨z0, z1, z2, z3⟩ := octets_words.cells hz.out
      refine bodyPost_ret (v := .agg #[.int .u64 a, .int .u64 b, .int .u64 c, .int .u64 d]) (by simp [results, Try.results22, go_sem, z0, z1, z2, z3]) rfl ⟨?_, hb4.out⟩
      simp [e0, e1, e2, e3]
theorem octets_Not.calls (a0_0 a0_1 a0_2 a0_3 : Int) (r1 r2 r3 r4 : Int) (w : World) (h : octets_Not.f a0_0 a0_1 a0_2 a0_3 = some (r1, r2, r3, r4)) :
    Calls Try.prog 22 #[.agg #[.int .u64 a0_0, .int .u64 a0_1, .int .u64 a0_2, .int .u64 a0_3]] w fun e w' => e = .returned (.agg #[.int .u64 r1, .int .u64 r2, .int .u64 r3, .int .u64 r4]) ∧ Below w.heap.size w w' := by
  unfold octets_Not.f at h
  by_cases hc : (0 ≤ a0_0 ∧ a0_0 ≤ 18446744073709551615) ∧ (0 ≤ a0_1 ∧ a0_1 ≤ 18446744073709551615) ∧ (0 ≤ a0_2 ∧ a0_2 ≤ 18446744073709551615) ∧ (0 ≤ a0_3 ∧ a0_3 ≤ 18446744073709551615)
  · rw [if_pos hc] at h
    simp only [Option.some.injEq, Prod.mk.injEq] at h
    obtain ⟨rfl, rfl, rfl, rfl⟩ := h
    exact octets_Not.any _ _ _ _ hc w
  · rw [if_neg hc] at h; exact absurd h (by simp)

/-! ### shibbolethlaw22_only: function 26 -/
def shibbolethlaw22_only.l0 : Nat → ByteArray → List Int → Int → Int → Int → Int → Int → Option (ByteArray)
  | 0, _, _, _, _, _, _, _ => none
  | k + 1, x0, x5, x6, x327000, x327001, x327002, x327003 => if x6 < (x0.size : Int) then (if 0 ≤ x6 then ((octets_Has.f x327000 x327001 x327002 x327003 (bt x0 x6)).bind fun t327 => (if t327 = true then (if x5.length < 140737488355328 then (shibbolethlaw22_only.l0 k x0 (x5 ++ [bt x0 x6]) (wrap64 (x6 + 1)) x327000 x327001 x327002 x327003) else (none)) else (shibbolethlaw22_only.l0 k x0 x5 (wrap64 (x6 + 1)) x327000 x327001 x327002 x327003))) else (none)) else (some (strOfNums x5))
def shibbolethlaw22_only.f (k : Nat) (a0 : ByteArray) (a1_0 : Int) (a1_1 : Int) (a1_2 : Int) (a1_3 : Int) : Option (ByteArray) := shibbolethlaw22_only.l0 k a0 ([] : List Int) 0 a1_0 a1_1 a1_2 a1_3
theorem shibbolethlaw22_only.mono_l : ∀ k, (∀ y0 y1 y2 y3 y4 y5 y6, LeO (shibbolethlaw22_only.l0 k y0 y1 y2 y3 y4 y5 y6) (shibbolethlaw22_only.l0 (k + 1) y0 y1 y2 y3 y4 y5 y6))
  | 0 => fun _ _ _ _ _ _ _ r h => by simp [shibbolethlaw22_only.l0] at h
  | k + 1 => by
    have ih0 := shibbolethlaw22_only.mono_l k
    · intro y0 y1 y2 y3 y4 y5 y6
      unfold shibbolethlaw22_only.l0
      repeat' first
      | (with_reducible exact ih0 _ _ _ _ _ _ _)
      | (with_reducible exact LeO.refl _)
      | (with_reducible exact LeO.none _)
      | (with_reducible refine LeO.ite ?_ ?_)
      | (with_reducible refine LeO.bind ?_ (fun _ => ?_))
      | exact ih0 _ _ _ _ _ _ _
      | exact LeO.none _
      | refine LeO.ite ?_ ?_
      | refine LeO.bind ?_ (fun _ => ?_)
theorem shibbolethlaw22_only.mono : ∀ a0 a1 a2 a3 a4 k, LeO (shibbolethlaw22_only.f k a0 a1 a2 a3 a4) (shibbolethlaw22_only.f (k + 1) a0 a1 a2 a3 a4) := by
  intro a0 a1 a2 a3 a4 k
  have ih0 := shibbolethlaw22_only.mono_l k
  unfold shibbolethlaw22_only.f
  repeat' first
      | (with_reducible exact ih0 _ _ _ _ _ _ _)
      | (with_reducible exact LeO.refl _)
      | (with_reducible exact LeO.none _)
      | (with_reducible refine LeO.ite ?_ ?_)
      | (with_reducible refine LeO.bind ?_ (fun _ => ?_))
      | exact ih0 _ _ _ _ _ _ _
      | exact LeO.none _
      | refine LeO.ite ?_ ?_
      | refine LeO.bind ?_ (fun _ => ?_)
set_option maxHeartbeats 8000000 in
set_option maxRecDepth 100000 in
theorem shibbolethlaw22_only.calls (k : Nat) (a0 : ByteArray) (a1_0 : Int) (a1_1 : Int) (a1_2 : Int) (a1_3 : Int) (r : ByteArray) (w : World) (h : shibbolethlaw22_only.f k a0 a1_0 a1_1 a1_2 a1_3 = some r) :
    Calls Try.prog 26 #[.string a0, .agg #[.int .u64 a1_0, .int .u64 a1_1, .int .u64 a1_2, .int .u64 a1_3]] w fun e w' => e = .returned (.string r) ∧ Below w.heap.size w w' := by
  have hu38 := Try.underlying38
  have HB := Aside0.mk (Below.refl w.heap.size w)
  have H : (shibbolethlaw22_only.l0 k a0 ([] : List Int) 0 a1_0 a1_1 a1_2 a1_3) = some r := h
  clear h
  have H' := Aside0.mk H
  clear H
  go_enter Try.func26, Try.ntmps26
  go_wp2_with (first | ((with_reducible refine gate_dst (N := 3) rfl ?_); refine box_event ?hg (N := 3) ?hd (cs := #[.int .u64 a1_0, .int .u64 a1_1, .int .u64 a1_2, .int .u64 a1_3]) (t := 38) ?hr ?_; (case hd => rfl); (case hg => rfl); (case hr => first | (go_simp; done) | (go_simp; rfl)); intro gb326 hg w3 hbox hb; have n0_ := Aside0.mk (below_step (by repeat (first | (with_reducible first | exact HB.out | apply below_alloc | apply pw_below_drewN | apply below_drew1) | exact HB.out)) hb); have n1_ := Aside0.mk (hbox); have n2_ := Aside0.mk ((by rw [hg]; exact (below_size (by repeat (first | (with_reducible first | exact HB.out | apply below_alloc | apply pw_below_drewN | apply below_drew1) | exact HB.out))) : w.heap.size ≤ gb326)); have n3_ := Aside0.mk ((by rw [hg]; exact (below_size (by repeat (first | (with_reducible first | exact HB.out | apply below_alloc | apply pw_below_drewN | apply below_drew1) | exact HB.out))) : w.heap.size ≤ gb326)); clear HB; have HB := n0_; have BK326 := n1_; have GW326 := n2_; have GE326 := n3_; clear n0_ n1_ n2_ n3_; clear hb hbox hg))
  go_loopg [5, 6] k (fun kq v5 v6 w' => ∃ (x5_1 : List Int) (x6_1 : Int), v6 = .int .i64 x6_1 ∧ Aside0 (shibbolethlaw22_only.l0 kq a0 x5_1 x6_1 a1_0 a1_1 a1_2 a1_3 = some r) ∧ Aside0 (kq ≤ k) ∧ Aside0 (Kd.R (Kd.int .u8) 5 w' w.heap.size (fun _ => True) v5 x5_1) ∧ Aside0 (w'.heap[gb326]? = some (.cells #[.int .u64 a1_0, .int .u64 a1_1, .int .u64 a1_2, .int .u64 a1_3] 38 (0, 0))) ∧ Aside0 (Below w.heap.size w w'))
  case atStart => exact ⟨(([] : List Int)), (0), (by first | rfl | (simp; done) | (simp [*]; done)), H', ⟨Nat.le_refl _⟩, ⟨by first | exact Kd.R_nil _ _ _ _ _ | exact Kd.N_nil _ _ _ _ _ | exact Kd.V_nil _ _ _ _ _ | exact Kd.Q_nil _ _ _ _ _ | exact Kd.S_nil _ _ _ _ _⟩, ⟨by (with_reducible repeat (first | refine blk_drewN ?_ _ | refine blk_drew ?_ | refine blk_alloc ?_ _)); exact BK326.out⟩, ⟨by repeat (first | (with_reducible first | exact HB.out | apply below_alloc | apply pw_below_drewN | apply below_drew1 | refine below_set ?_ GE326.out) | exact HB.out)⟩⟩
  case round =>
    clear H'
    try clear c2
    try clear p2
    obtain ⟨x5_1, x6_1, rfl, HA, HK1, HO_5, BK326, HB⟩ := hrel
    cases gk with
    | zero => exact absurd HA.out (by simp [shibbolethlaw22_only.l0])
    | succ k1 =>
      have H := HA.out
      clear HA
      simp only [shibbolethlaw22_only.l0] at H
      by_cases c4 : x6_1 < (a0.size : Int)
      · rw [if_pos c4] at H
        have c4b0 : decide (x6_1 < (a0.size : Int)) = true := decide_eq_true c4
        clear c4
        by_cases c5 : 0 ≤ x6_1
        · rw [if_pos c5] at H
          have c5b0 : decide (0 ≤ x6_1) = true := decide_eq_true c5
          clear c5
          replace H := Option.bind_eq_some_iff.mp H
          obtain ⟨t327, A70, H⟩ := H
          replace H : (if t327 = true then (if x5_1.length < 140737488355328 then (shibbolethlaw22_only.l0 k1 a0 (x5_1 ++ [bt a0 x6_1]) (wrap64 (x6_1 + 1)) a1_0 a1_1 a1_2 a1_3) else (none)) else (shibbolethlaw22_only.l0 k1 a0 x5_1 (wrap64 (x6_1 + 1)) a1_0 a1_1 a1_2 a1_3)) = some r := H
          have A7 := Aside0.mk A70
          clear A70
          by_cases c8 : t327 = true
          · subst c8
            have H1 : (if x5_1.length < 140737488355328 then (shibbolethlaw22_only.l0 k1 a0 (x5_1 ++ [bt a0 x6_1]) (wrap64 (x6_1 + 1)) a1_0 a1_1 a1_2 a1_3) else (none)) = some r := by rw [if_pos rfl] at H; exact H
            clear H
            have H := H1
            clear H1
            by_cases c10 : x5_1.length < 140737488355328
            · rw [if_pos c10] at H
              have LMc10 := Aside0.mk c10
              clear c10
              obtain ⟨y328, hy328⟩ : ∃ y_ : List Int, y_ = (x5_1 ++ [bt a0 x6_1]) := ⟨_, rfl⟩
              replace H : (shibbolethlaw22_only.l0 k1 a0 y328 (wrap64 (x6_1 + 1)) a1_0 a1_1 a1_2 a1_3) = some r := by first | (rw [hy328]; with_reducible exact H) | (have H2_ := (Option.bind_some _ _).symm.trans H; rw [hy328]; with_reducible exact H2_) | (have H2_ := (Option.bind_some _ _).symm.trans H; with_reducible exact H2_) | with_reducible exact H | (rw [hy328]; exact H) | exact H
              have Ny328 := Aside0.mk hy328
              clear hy328
              have H' := Aside0.mk H
              clear H
              try go_wp2
              have n0_ := Aside0.mk (Kd.R_drew HO_5.out)
              have n1_ := Aside0.mk (blk_drew BK326.out)
              have n2_ := Aside0.mk (below_drew1 HB.out)
              clear HO_5
              clear BK326
              clear HB
              have HO_5 := n0_
              have BK326 := n1_
              have HB := n2_
              clear n0_ n1_ n2_
              have p6 : 0 ≤ (x6_1 : Int) := of_decide_eq_true (by first | (with_reducible assumption) | assumption)
              have q6 : x6_1 < (a0.size : Int) := of_decide_eq_true (by first | (with_reducible assumption) | assumption)
              have hx6 := bt_at a0 x6_1
              replace p6 := eq_true p6
              replace q6 := eq_true q6
              refine start_ (n := 5) (S := fun w' => w'.cell? ⟨gb326, 0, none⟩ = some (.int .u64 a1_0) ∧ w'.cell? ⟨gb326, 1, none⟩ = some (.int .u64 a1_1) ∧ w'.cell? ⟨gb326, 2, none⟩ = some (.int .u64 a1_2) ∧ w'.cell? ⟨gb326, 3, none⟩ = some (.int .u64 a1_3)) (ds := []) #[false, false, false, false, false] (by kernel_rfl) rfl rfl ⟨(blk_cell BK326.out 0).trans rfl, (blk_cell BK326.out 1).trans rfl, (blk_cell BK326.out 2).trans rfl, (blk_cell BK326.out 3).trans rfl⟩ (fun hHeld => ?_)
              generalize wr.drew = w11 at HO_5 BK326 HB hHeld ⊢
              refine pure_ (i := 1) (N := some 14) (v := ?_) (a' := ?_) #[false, true, false, false, false] rfl rfl (by kernel_rfl) (fun _ _ _ h => h) (Or.inl ⟨by rfl, ?_⟩) ?_ ?_
              rotate_left
              · intro w'
                go_simp
                with_reducible rfl
              rotate_left
              · simp only [Act.put, List.setIfInBounds_toArray, List.set_cons_zero, List.set_cons_succ, i64_w, i32_w]
                rfl
              refine pure_ (i := 2) (N := some 15) (v := ?_) (a' := ?_) #[false, true, true, false, false] rfl rfl (by kernel_rfl) (fun _ _ _ h => h) (Or.inl ⟨by rfl, ?_⟩) ?_ ?_
              rotate_left
              · intro w'
                go_simp
                with_reducible rfl
              rotate_left
              · simp only [Act.put, List.setIfInBounds_toArray, List.set_cons_zero, List.set_cons_succ, i64_w, i32_w]
                rfl
              refine take_ (i := 0) (N := some 13) (v := ?_) (a' := ?_) #[true, true, true, false, false] rfl rfl (by kernel_rfl) (fun _ _ _ h => h) (Or.inl ⟨by rfl, ?_⟩) hHeld ?_ ?_
              rotate_left
              · rintro w' ⟨s0, s1, s2, s3⟩
                go_simp
                with_reducible rfl
              rotate_left
              · simp only [Act.put, List.setIfInBounds_toArray, List.set_cons_zero, List.set_cons_succ, i64_w, i32_w]
                rfl
              refine take_ (i := 3) (N := some 16) (v := ?_) (a' := ?_) #[true, true, true, true, false] rfl rfl (by kernel_rfl) (fun _ _ _ h => h) (Or.inl ⟨by rfl, ?_⟩) hHeld ?_ ?_
              rotate_left
              · rintro w' ⟨s0, s1, s2, s3⟩
                go_simp
                with_reducible rfl
              rotate_left
              · simp only [Act.put, List.setIfInBounds_toArray, List.set_cons_zero, List.set_cons_succ, i64_w, i32_w]
                rfl
              refine one_ (i := 4) (N := some 17) #[true, true, true, true, true] rfl rfl (by kernel_rfl) (by decide) (fun K hK => ?_)
              refine goes_ Try.func46 (by kernel_rfl) rfl #[.agg #[.int .u64 a1_0, .int .u64 a1_1, .int .u64 a1_2, .int .u64 a1_3], .int .u8 (bt a0 x6_1)] (by rfl) rfl rfl (by (try simp only [List.map_toArray, List.map_cons, List.map_nil]); first | done | rfl | (simp only [List.length_drop, List.length_take]; rfl)) ?_
              with_reducible refine (octets_Has.calls a1_0 a1_1 a1_2 a1_3 (bt a0 x6_1) true _ A7.out).mono ?_
              rintro e w12 ⟨rfl, hb⟩
              refine ⟨_, rfl, ?_⟩
              have n0_ := Aside0.mk (Kd.R_below (by (with_reducible repeat (first | apply Kd.R_alloc | apply Kd.R_drewN | apply Kd.R_drew)); exact HO_5.out) hb)
              have n1_ := Aside0.mk (blk_below (g := gb326) (o := .cells #[.int .u64 a1_0, .int .u64 a1_1, .int .u64 a1_2, .int .u64 a1_3] 38 (0, 0)) (by (with_reducible repeat (first | refine blk_drewN ?_ _ | refine blk_drew ?_ | refine blk_alloc ?_ _)); exact BK326.out) hb)
              have n2_ := Aside0.mk (below_step (by repeat (first | (with_reducible first | exact HB.out | apply below_alloc | apply pw_below_drewN | apply below_drew1 | refine below_set ?_ GE326.out) | exact HB.out)) hb)
              clear HO_5
              clear BK326
              clear HB
              have HO_5 := n0_
              have BK326 := n1_
              have HB := n2_
              clear n0_ n1_ n2_
              (try clear hb)
              (try clear hb2)
              (try clear hk)
              (try clear hi)
              refine hK.out _ _ ⟨(blk_cell BK326.out 0).trans rfl, (blk_cell BK326.out 1).trans rfl, (blk_cell BK326.out 2).trans rfl, (blk_cell BK326.out 3).trans rfl⟩ (fun hHeld => ?_)
              clear hK K
              refine norm_ (a' := ?_) ?_ ?_
              rotate_left
              · show Act.put _ (some 17) _ = _
                simp only [Act.put, List.setIfInBounds_toArray, List.set_cons_zero, List.set_cons_succ, i64_w, i32_w]
                rfl
              refine done_ (by kernel_rfl) ?_
              have p9 : 0 ≤ (x6_1 : Int) := of_decide_eq_true (by first | (with_reducible assumption) | assumption)
              have q9 : x6_1 < (a0.size : Int) := of_decide_eq_true (by first | (with_reducible assumption) | assumption)
              have hx9 := bt_at a0 x6_1
              replace p9 := eq_true p9
              replace q9 := eq_true q9
              try go_wp2_with (first | ((with_reducible refine gate_builtin (b := .append) (xs := #[.tmp 18, .tmp 22]) rfl ?_); at_builtin; refine Kd.R_append (Kd.int .u8) (w0 := w) w.heap.size rfl (.tmp 18) (.tmp 22) 43 5 (.int .u8 0) 1 rfl Try.underlying43 info5 rfl (by decide) (by omega) u5 x5_1 (bt a0 x6_1) [.int .u8 (bt a0 x6_1)] (fun _ => True) (fun _ => False) rfl rfl ?aP (fun _ hk => hk.elim) ?aF ?aO ?aB ?aS ?aL ?_; (case aP => exact rfl); (case aB => exact (by repeat (first | (with_reducible first | exact HB.out | apply below_alloc | apply pw_below_drewN | apply below_drew1 | refine below_set ?_ GE326.out) | exact HB.out))); (case aF => exact (fun _ _ => trivial)); (case aO => exact (by (with_reducible repeat (first | apply Kd.R_alloc | apply Kd.R_drewN | apply Kd.R_drew)); exact HO_5.out)); (case aS => exact (below_size (by repeat (first | (with_reducible first | exact HB.out | apply below_alloc | apply pw_below_drewN | apply below_drew1 | refine below_set ?_ GE326.out) | exact HB.out)))); (case aL => have := LMc10.out; omega); intro v329 w13 ho hb hg hat; rw [← Ny328.out] at ho; have n0_ := Aside0.mk (blk_grown (g := gb326) (o := .cells #[.int .u64 a1_0, .int .u64 a1_1, .int .u64 a1_2, .int .u64 a1_3] 38 (0, 0)) (by (with_reducible repeat (first | refine blk_drewN ?_ _ | refine blk_drew ?_ | refine blk_alloc ?_ _)); exact BK326.out) hg (Kd.R_ne HO_5.out BK326.out (by decide))); have n1_ := Aside0.mk (hb); have n2_ := Aside0.mk (ho); clear BK326; clear HB; clear HO_5; have BK326 := n0_; have HB := n1_; have HO330 := n2_; clear n0_ n1_ n2_; clear ho hb hg hat))
              go_roundg k1
              case measure => have := HK1.out; omega
              case rel => exact ⟨(y328), (wrap64 (x6_1 + 1)), (by first | rfl | (simp; done) | (simp [*]; done)), H', ⟨by have := HK1.out; omega⟩, ⟨by (with_reducible repeat (first | apply Kd.R_alloc | apply Kd.R_drewN | apply Kd.R_drew)); exact HO330.out⟩, ⟨by (with_reducible repeat (first | refine blk_drewN ?_ _ | refine blk_drew ?_ | refine blk_alloc ?_ _)); exact BK326.out⟩, ⟨by repeat (first | (with_reducible first | exact HB.out | apply below_alloc | apply pw_below_drewN | apply below_drew1 | refine below_set ?_ GE326.out) | exact HB.out)⟩⟩
            · rw [if_neg c10] at H
              exact absurd H (by simp)
          · replace c8 := Bool.eq_false_iff.mpr c8
            subst c8
            have H1 : (shibbolethlaw22_only.l0 k1 a0 x5_1 (wrap64 (x6_1 + 1)) a1_0 a1_1 a1_2 a1_3) = some r := by rw [if_neg (show ¬ (false = true) by decide)] at H; exact H
            clear H
            have H := H1
            clear H1
            have H' := Aside0.mk H
            clear H
            try go_wp2
            have n0_ := Aside0.mk (Kd.R_drew HO_5.out)
            have n1_ := Aside0.mk (blk_drew BK326.out)
            have n2_ := Aside0.mk (below_drew1 HB.out)
            clear HO_5
            clear BK326
            clear HB
            have HO_5 := n0_
            have BK326 := n1_
            have HB := n2_
            clear n0_ n1_ n2_
            have p6 : 0 ≤ (x6_1 : Int) := of_decide_eq_true (by first | (with_reducible assumption) | assumption)
            have q6 : x6_1 < (a0.size : Int) := of_decide_eq_true (by first | (with_reducible assumption) | assumption)
            have hx6 := bt_at a0 x6_1
            replace p6 := eq_true p6
            replace q6 := eq_true q6
            refine start_ (n := 5) (S := fun w' => w'.cell? ⟨gb326, 0, none⟩ = some (.int .u64 a1_0) ∧ w'.cell? ⟨gb326, 1, none⟩ = some (.int .u64 a1_1) ∧ w'.cell? ⟨gb326, 2, none⟩ = some (.int .u64 a1_2) ∧ w'.cell? ⟨gb326, 3, none⟩ = some (.int .u64 a1_3)) (ds := []) #[false, false, false, false, false] (by kernel_rfl) rfl rfl ⟨(blk_cell BK326.out 0).trans rfl, (blk_cell BK326.out 1).trans rfl, (blk_cell BK326.out 2).trans rfl, (blk_cell BK326.out 3).trans rfl⟩ (fun hHeld => ?_)
            generalize wr.drew = w14 at HO_5 BK326 HB hHeld ⊢
            refine pure_ (i := 1) (N := some 14) (v := ?_) (a' := ?_) #[false, true, false, false, false] rfl rfl (by kernel_rfl) (fun _ _ _ h => h) (Or.inl ⟨by rfl, ?_⟩) ?_ ?_
            rotate_left
            · intro w'
              go_simp
              with_reducible rfl
            rotate_left
            · simp only [Act.put, List.setIfInBounds_toArray, List.set_cons_zero, List.set_cons_succ, i64_w, i32_w]
              rfl
            refine pure_ (i := 2) (N := some 15) (v := ?_) (a' := ?_) #[false, true, true, false, false] rfl rfl (by kernel_rfl) (fun _ _ _ h => h) (Or.inl ⟨by rfl, ?_⟩) ?_ ?_
            rotate_left
            · intro w'
              go_simp
              with_reducible rfl
            rotate_left
            · simp only [Act.put, List.setIfInBounds_toArray, List.set_cons_zero, List.set_cons_succ, i64_w, i32_w]
              rfl
            refine take_ (i := 0) (N := some 13) (v := ?_) (a' := ?_) #[true, true, true, false, false] rfl rfl (by kernel_rfl) (fun _ _ _ h => h) (Or.inl ⟨by rfl, ?_⟩) hHeld ?_ ?_
            rotate_left
            · rintro w' ⟨s0, s1, s2, s3⟩
              go_simp
              with_reducible rfl
            rotate_left
            · simp only [Act.put, List.setIfInBounds_toArray, List.set_cons_zero, List.set_cons_succ, i64_w, i32_w]
              rfl
            refine take_ (i := 3) (N := some 16) (v := ?_) (a' := ?_) #[true, true, true, true, false] rfl rfl (by kernel_rfl) (fun _ _ _ h => h) (Or.inl ⟨by rfl, ?_⟩) hHeld ?_ ?_
            rotate_left
            · rintro w' ⟨s0, s1, s2, s3⟩
              go_simp
              with_reducible rfl
            rotate_left
            · simp only [Act.put, List.setIfInBounds_toArray, List.set_cons_zero, List.set_cons_succ, i64_w, i32_w]
              rfl
            refine one_ (i := 4) (N := some 17) #[true, true, true, true, true] rfl rfl (by kernel_rfl) (by decide) (fun K hK => ?_)
            refine goes_ Try.func46 (by kernel_rfl) rfl #[.agg #[.int .u64 a1_0, .int .u64 a1_1, .int .u64 a1_2, .int .u64 a1_3], .int .u8 (bt a0 x6_1)] (by rfl) rfl rfl (by (try simp only [List.map_toArray, List.map_cons, List.map_nil]); first | done | rfl | (simp only [List.length_drop, List.length_take]; rfl)) ?_
            with_reducible refine (octets_Has.calls a1_0 a1_1 a1_2 a1_3 (bt a0 x6_1) false _ A7.out).mono ?_
            rintro e w15 ⟨rfl, hb⟩
            refine ⟨_, rfl, ?_⟩
            have n0_ := Aside0.mk (Kd.R_below (by (with_reducible repeat (first | apply Kd.R_alloc | apply Kd.R_drewN | apply Kd.R_drew)); exact HO_5.out) hb)
            have n1_ := Aside0.mk (blk_below (g := gb326) (o := .cells #[.int .u64 a1_0, .int .u64 a1_1, .int .u64 a1_2, .int .u64 a1_3] 38 (0, 0)) (by (with_reducible repeat (first | refine blk_drewN ?_ _ | refine blk_drew ?_ | refine blk_alloc ?_ _)); exact BK326.out) hb)
            have n2_ := Aside0.mk (below_step (by repeat (first | (with_reducible first | exact HB.out | apply below_alloc | apply pw_below_drewN | apply below_drew1 | refine below_set ?_ GE326.out) | exact HB.out)) hb)
            clear HO_5
            clear BK326
            clear HB
            have HO_5 := n0_
            have BK326 := n1_
            have HB := n2_
            clear n0_ n1_ n2_
            (try clear hb)
            (try clear hb2)
            (try clear hk)
            (try clear hi)
            refine hK.out _ _ ⟨(blk_cell BK326.out 0).trans rfl, (blk_cell BK326.out 1).trans rfl, (blk_cell BK326.out 2).trans rfl, (blk_cell BK326.out 3).trans rfl⟩ (fun hHeld => ?_)
            clear hK K
            refine norm_ (a' := ?_) ?_ ?_
            rotate_left
            · show Act.put _ (some 17) _ = _
              simp only [Act.put, List.setIfInBounds_toArray, List.set_cons_zero, List.set_cons_succ, i64_w, i32_w]
              rfl
            refine done_ (by kernel_rfl) ?_
            try go_wp2
            go_roundg k1
            case measure => have := HK1.out; omega
            case rel => exact ⟨(x5_1), (wrap64 (x6_1 + 1)), (by first | rfl | (simp; done) | (simp [*]; done)), H', ⟨by have := HK1.out; omega⟩, ⟨by (with_reducible repeat (first | apply Kd.R_alloc | apply Kd.R_drewN | apply Kd.R_drew)); exact HO_5.out⟩, ⟨by (with_reducible repeat (first | refine blk_drewN ?_ _ | refine blk_drew ?_ | refine blk_alloc ?_ _)); exact BK326.out⟩, ⟨by repeat (first | (with_reducible first | exact HB.out | apply below_alloc | apply pw_below_drewN | apply below_drew1 | refine below_set ?_ GE326.out) | exact HB.out)⟩⟩
        · rw [if_neg c5] at H
          exact absurd H (by simp)
      · rw [if_neg c4] at H
        have c4b0 : decide (x6_1 < (a0.size : Int)) = false := decide_eq_false c4
        clear c4
        obtain rfl := Option.some.inj H
        have hcv16 := own_string (P := Try.prog) Try.underlying43 Try.underlying5 Try.underlying9 (Kd.own_of_R HO_5.out)
        go_wp2
        go_ret
        exact ⟨by first | rfl | (simp [errW_none, errW_some] <;> rfl) | (simp [*, errW_none, errW_some] <;> rfl), by repeat (first | (with_reducible first | exact HB.out | apply below_alloc | apply pw_below_drewN | apply below_drew1 | refine below_set ?_ GE326.out) | exact HB.out)⟩

/-! ### octets_And: function 27 -/
-- words: function 46's text
def octets_And.f (a0_0 a0_1 a0_2 a0_3 a1_0 a1_1 a1_2 a1_3 : Int) : Option (Int × Int × Int × Int) := some (Go.bits .and .u64 a0_0 a1_0, Go.bits .and .u64 a0_1 a1_1, Go.bits .and .u64 a0_2 a1_2, Go.bits .and .u64 a0_3 a1_3)
set_option maxHeartbeats 1000000 in
set_option maxRecDepth 100000 in
theorem octets_And.any (x0 x1 x2 x3 y0 y1 y2 y3 : Int) (w : World) :
    Calls Try.prog 27 #[.agg #[.int .u64 x0, .int .u64 x1, .int .u64 x2, .int .u64 x3], .agg #[.int .u64 y0, .int .u64 y1, .int .u64 y2, .int .u64 y3]] w fun e w' => e = .returned (.agg #[.int .u64 (Go.bits .and .u64 x0 y0), .int .u64 (Go.bits .and .u64 x1 y1), .int .u64 (Go.bits .and .u64 x2 y2), .int .u64 (Go.bits .and .u64 x3 y3)]) ∧ Below w.heap.size w w' := by
  go_enter Try.func27, Try.ntmps27
  go_wp2
  go_loopw [6] (fun i wr => ∃ (k : Nat) (a b c d : Int), k ≤ 4 ∧ i = .int .i64 k ∧ Aside0 (a = (if 0 < k then Go.bits .and .u64 x0 y0 else x0) ∧ b = (if 1 < k then Go.bits .and .u64 x1 y1 else x1) ∧ c = (if 2 < k then Go.bits .and .u64 x2 y2 else x2) ∧ d = (if 3 < k then Go.bits .and .u64 x3 y3 else x3)) ∧ Aside0 (octets_words.B4 wr w.heap.size a b c d) ∧ Aside0 (octets_words.B4 wr (w.heap.size + 1) y0 y1 y2 y3) ∧ Aside0 (octets_words.B4 wr (w.heap.size + 1 + 1) 0 0 0 0) ∧ Aside0 (Below w.heap.size w wr)) (fun i _ => 4 - (intOf i).toNat)
  case atStart =>
    refine ⟨0, x0, x1, x2, x3, by omega, rfl, ⟨by simp⟩, ⟨?_⟩, ⟨?_⟩, ⟨?_⟩, ⟨?_⟩⟩
    · exact blk_alloc (blk_alloc (blk_new _ _) _) _
    · refine blk_alloc ?_ _; simpa using blk_new (w.alloc _) _
    · have := blk_new ((w.alloc (Obj.cells #[Value.int .u64 x0, Value.int .u64 x1, Value.int .u64 x2, Value.int .u64 x3] 38)).alloc (Obj.cells #[Value.int .u64 y0, Value.int .u64 y1, Value.int .u64 y2, Value.int .u64 y3] 38)) (Obj.cells #[Value.int .u64 0, Value.int .u64 0, Value.int .u64 0, Value.int .u64 0] 38)
      simpa [octets_words.B4] using this
    · exact ((((Below.refl _ _).alloc (Nat.le_refl _) _).alloc (by simp) _).alloc (by simp; omega) _)
  case round =>
    obtain ⟨k, a, b, c, d, hk, rfl, he, ha, hb, hc, hd⟩ := hrel
    have fa := fun i => octets_words.free ha.out i
    obtain ⟨a0, a1, a2, a3⟩ := octets_words.cells ha.out
    obtain ⟨b0, b1, b2, b3⟩ := octets_words.cells hb.out
    by_cases hlt : k < 4
    · have q : k = 0 ∨ k = 1 ∨ k = 2 ∨ k = 3 := by omega
      rcases q with rfl | rfl | rfl | rfl
      · have f0 := fa 0
        clear hk hlt fa a1 b1 a2 b2 a3 b3
        go_wp2
        go_region
        all_goals go_wp2
        all_goals go_roundw
        case rel =>
          obtain ⟨e0, e1, e2, e3⟩ := he.out
          refine ⟨1, _, b, c, d, by omega, by go_num, ⟨?_⟩, ⟨blk_put ha.out 0 _ rfl⟩, ⟨blk_far hb.out (by show w.heap.size + 1 ≠ w.heap.size; omega) _⟩, ⟨blk_far hc.out (by show w.heap.size + 1 + 1 ≠ w.heap.size; omega) _⟩, ⟨(hd.out.setCell (by simp) _).drew⟩⟩
          simp [e0, e1, e2, e3]
        case measure => simp [intOf]
      · have f1 := fa 1
        clear hk hlt fa a0 b0 a2 b2 a3 b3
        go_wp2
        go_region
        all_goals go_wp2
        all_goals go_roundw
        case rel =>
          obtain ⟨e0, e1, e2, e3⟩ := he.out
          refine ⟨2, a, _, c, d, by omega, by go_num, ⟨?_⟩, ⟨blk_put ha.out 1 _ rfl⟩, ⟨blk_far hb.out (by show w.heap.size + 1 ≠ w.heap.size; omega) _⟩, ⟨blk_far hc.out (by show w.heap.size + 1 + 1 ≠ w.heap.size; omega) _⟩, ⟨(hd.out.setCell (by simp) _).drew⟩⟩
          simp [e0, e1, e2, e3]
        case measure => simp [intOf]
      · have f2 := fa 2
        clear hk hlt fa a0 b0 a1 b1 a3 b3
        go_wp2
        go_region
        all_goals go_wp2
        all_goals go_roundw
        case rel =>
          obtain ⟨e0, e1, e2, e3⟩ := he.out
          refine ⟨3, a, b, _, d, by omega, by go_num, ⟨?_⟩, ⟨blk_put ha.out 2 _ rfl⟩, ⟨blk_far hb.out (by show w.heap.size + 1 ≠ w.heap.size; omega) _⟩, ⟨blk_far hc.out (by show w.heap.size + 1 + 1 ≠ w.heap.size; omega) _⟩, ⟨(hd.out.setCell (by simp) _).drew⟩⟩
          simp [e0, e1, e2, e3]
        case measure => simp [intOf]
      · have f3 := fa 3
        clear hk hlt fa a0 b0 a1 b1 a2 b2
        go_wp2
        go_region
        all_goals go_wp2
        all_goals go_roundw
        case rel =>
          obtain ⟨e0, e1, e2, e3⟩ := he.out
          refine ⟨4, a, b, c, _, by omega, by go_num, ⟨?_⟩, ⟨blk_put ha.out 3 _ rfl⟩, ⟨blk_far hb.out (by show w.heap.size + 1 ≠ w.heap.size; omega) _⟩, ⟨blk_far hc.out (by show w.heap.size + 1 + 1 ≠ w.heap.size; omega) _⟩, ⟨(hd.out.setCell (by simp) _).drew⟩⟩
          simp [e0, e1, e2, e3]
        case measure => simp [intOf]
    · obtain rfl : k = 4 := by omega
      have fc := fun i => octets_words.free hc.out i
      obtain ⟨c0, c1, c2, c3⟩ := octets_words.cells hc.out
      have f0 := fc 0
      have f1 := fc 1
      have f2 := fc 2
      have f3 := fc 3
      clear fa fc hk hlt
      go_wp2
      obtain ⟨e0, e1, e2, e3⟩ := he.out
      have hz := Aside0.mk (show octets_words.B4 _ (w.heap.size + 1 + 1) a b c d from blk_put (blk_put (blk_put (blk_put hc.out 0 (.int .u64 a) rfl) 1 (.int .u64 b) rfl) 2 (.int .u64 c) rfl) 3 (.int .u64 d) rfl)
      have hb4 := Aside0.mk ((((hd.out.setCell (p := ⟨w.heap.size + 1 + 1, 0, none⟩) (by simp; try omega) (.int .u64 a)).setCell (p := ⟨w.heap.size + 1 + 1, 1, none⟩) (by simp; try omega) (.int .u64 b)).setCell (p := ⟨w.heap.size + 1 + 1, 2, none⟩) (by simp; try omega) (.int .u64 c)).setCell (p := ⟨w.heap.size + 1 + 1, 3, none⟩) (by simp; try omega) (.int .u64 d))
      revert hz hb4
      generalize ((((wr.setCell ⟨w.heap.size + 1 + 1, 0, none⟩ (.int .u64 a)).setCell ⟨w.heap.size + 1 + 1, 1, none⟩ (.int .u64 b)).setCell ⟨w.heap.size + 1 + 1, 2, none⟩ (.int .u64 c)).setCell ⟨w.heap.size + 1 + 1, 3, none⟩ (.int .u64 d)) = W
      intro hz hb4
      obtain ⟨z0, z1, z2, z3⟩ := octets_words.cells hz.out
      refine bodyPost_ret (v := .agg #[.int .u64 a, .int .u64 b, .int .u64 c, .int .u64 d]) (by simp [results, Try.results27, go_sem, z0, z1, z2, z3]) rfl ⟨?_, hb4.out⟩
      simp [e0, e1, e2, e3]
theorem octets_And.calls (a0_0 a0_1 a0_2 a0_3 a1_0 a1_1 a1_2 a1_3 : Int) (r1 r2 r3 r4 : Int) (w : World) (h : octets_And.f a0_0 a0_1 a0_2 a0_3 a1_0 a1_1 a1_2 a1_3 = some (r1, r2, r3, r4)) :
    Calls Try.prog 27 #[.agg #[.int .u64 a0_0, .int .u64 a0_1, .int .u64 a0_2, .int .u64 a0_3], .agg #[.int .u64 a1_0, .int .u64 a1_1, .int .u64 a1_2, .int .u64 a1_3]] w fun e w' => e = .returned (.agg #[.int .u64 r1, .int .u64 r2, .int .u64 r3, .int .u64 r4]) ∧ Below w.heap.size w w' := by
  simp only [octets_And.f, Option.some.injEq, Prod.mk.injEq] at h
  obtain ⟨rfl, rfl, rfl, rfl⟩ := h
  exact octets_And.any _ _ _ _ _ _ _ _ w
theorem octets_And.set (p q : Nat → Bool) : octets_And.f (Base.wd p 0) (Base.wd p 1) (Base.wd p 2) (Base.wd p 3) (Base.wd q 0) (Base.wd q 1) (Base.wd q 2) (Base.wd q 3) = some (Base.wd (fun n => p n && q n) 0, Base.wd (fun n => p n && q n) 1, Base.wd (fun n => p n && q n) 2, Base.wd (fun n => p n && q n) 3) := by
  simp only [octets_And.f, Base.wd_and]


-- NOT PRINTED: function 11 (shibbolethlaw22_CurlBuilt)

/-! ### shibbolethlaw22_CurlKnown: function 8 -/
mutual
def shibbolethlaw22_CurlKnown.l0 : Nat → List (S27) → Int → Int → Option (Bool)
  | 0, _, _, _ => none
  | k + 1, x16, x17, x18 => if x18 < x17 then (if 0 ≤ x18 then (if x18 < (x16.length : Int) then ((shibbolethlaw22_field.f k ((rd_T27 x16 x18).f0) ((rd_T27 x16 x18).f1) ((rd_T27 x16 x18).f2)).bind fun t424 => (if t424 = true then (shibbolethlaw22_CurlKnown.l0 k x16 x17 (wrap64 (x18 + 1))) else (some false))) else (none)) else (none)) else ((some (([(⟨#[97, 58, 98]⟩ : ByteArray), (⟨#[104, 116, 116, 112, 58, 47, 47, 47, 47, 120]⟩ : ByteArray), (⟨#[117, 64, 118, 64, 120]⟩ : ByteArray), (⟨#[91, 93]⟩ : ByteArray), (⟨#[97, 32, 98]⟩ : ByteArray), (⟨#[]⟩ : ByteArray), (⟨#[47]⟩ : ByteArray), (⟨#[104, 116, 116, 112, 58, 47, 47]⟩ : ByteArray), (⟨#[91, 103, 93]⟩ : ByteArray), (⟨#[91, 49, 93, 120]⟩ : ByteArray), (⟨#[120, 58, 56, 97]⟩ : ByteArray), (⟨#[120, 127]⟩ : ByteArray), (⟨#[123]⟩ : ByteArray), (⟨#[117, 64]⟩ : ByteArray), (⟨#[91, 49]⟩ : ByteArray), (⟨#[47, 47, 120]⟩ : ByteArray)] : List ByteArray) : List ByteArray)).bind fun y425 => (shibbolethlaw22_CurlKnown.l1 k y425 (y425.length : Int) 0))
def shibbolethlaw22_CurlKnown.l1 : Nat → List ByteArray → Int → Int → Option (Bool)
  | 0, _, _, _ => none
  | k + 1, x31, x32, x33 => if x33 < x32 then (if 0 ≤ x33 then (if x33 < (x31.length : Int) then ((curl_Parse.f k (rdOf ByteArray.empty x31 x33)).bind fun bt429 => (if (bt429.1 || (!(bt429.2.1.toList == ([] : List UInt8)) || (!(bt429.2.2.toList == ([] : List UInt8))))) = true then (some false) else (shibbolethlaw22_CurlKnown.l1 k x31 x32 (wrap64 (x33 + 1))))) else (none)) else (none)) else ((shibbolethlaw22_awake.f k).bind fun t432 => (some t432))
end
def shibbolethlaw22_CurlKnown.f (k : Nat)  : Option (Bool) := (some (([(⟨(⟨#[120]⟩ : ByteArray), (⟨#[120]⟩ : ByteArray), (⟨#[]⟩ : ByteArray)⟩ : S27), (⟨(⟨#[120, 58, 56, 48]⟩ : ByteArray), (⟨#[120]⟩ : ByteArray), (⟨#[]⟩ : ByteArray)⟩ : S27), (⟨(⟨#[102, 105, 108, 101, 58, 47, 47, 47, 120]⟩ : ByteArray), (⟨#[120]⟩ : ByteArray), (⟨#[]⟩ : ByteArray)⟩ : S27), (⟨(⟨#[104, 116, 116, 112, 58, 47, 120, 47]⟩ : ByteArray), (⟨#[120]⟩ : ByteArray), (⟨#[47]⟩ : ByteArray)⟩ : S27), (⟨(⟨#[117, 64, 91, 58, 58, 49, 93, 58, 56]⟩ : ByteArray), (⟨#[91, 58, 58, 49, 93]⟩ : ByteArray), (⟨#[]⟩ : ByteArray)⟩ : S27), (⟨(⟨#[120, 58]⟩ : ByteArray), (⟨#[120]⟩ : ByteArray), (⟨#[]⟩ : ByteArray)⟩ : S27), (⟨(⟨#[104, 116, 116, 112, 58]⟩ : ByteArray), (⟨#[104, 116, 116, 112]⟩ : ByteArray), (⟨#[]⟩ : ByteArray)⟩ : S27), (⟨(⟨#[117, 58, 112, 64, 120, 47, 64, 63]⟩ : ByteArray), (⟨#[120]⟩ : ByteArray), (⟨#[47, 64]⟩ : ByteArray)⟩ : S27), (⟨(⟨#[97, 43, 49, 58, 47, 47, 126, 98, 37, 47]⟩ : ByteArray), (⟨#[126, 98, 37]⟩ : ByteArray), (⟨#[47]⟩ : ByteArray)⟩ : S27), (⟨(⟨#[91, 97, 46, 102, 93, 63]⟩ : ByteArray), (⟨#[91, 97, 46, 102, 93]⟩ : ByteArray), (⟨#[]⟩ : ByteArray)⟩ : S27), (⟨(⟨#[195, 164]⟩ : ByteArray), (⟨#[195, 164]⟩ : ByteArray), (⟨#[]⟩ : ByteArray)⟩ : S27)] : List (S27)) : List (S27))).bind fun y419 => (shibbolethlaw22_CurlKnown.l0 k y419 (y419.length : Int) 0)
theorem shibbolethlaw22_CurlKnown.mono_l : ∀ k, (∀ y0 y1 y2, LeO (shibbolethlaw22_CurlKnown.l0 k y0 y1 y2) (shibbolethlaw22_CurlKnown.l0 (k + 1) y0 y1 y2)) ∧ (∀ y0 y1 y2, LeO (shibbolethlaw22_CurlKnown.l1 k y0 y1 y2) (shibbolethlaw22_CurlKnown.l1 (k + 1) y0 y1 y2))
  | 0 => ⟨fun _ _ _ r h => by simp [shibbolethlaw22_CurlKnown.l0] at h, fun _ _ _ r h => by simp [shibbolethlaw22_CurlKnown.l1] at h⟩
  | k + 1 => by
    obtain ⟨ih0, ih1⟩ := shibbolethlaw22_CurlKnown.mono_l k
    refine ⟨?_, ?_⟩
    · intro y0 y1 y2
      unfold shibbolethlaw22_CurlKnown.l0
      repeat' first
      | (with_reducible exact ih0 _ _ _)
      | (with_reducible exact ih1 _ _ _)
      | (with_reducible exact curl_Parse.mono _ _)
      | (with_reducible exact shibbolethlaw22_awake.mono _)
      | (with_reducible exact shibbolethlaw22_field.mono _ _ _ _)
      | (with_reducible exact LeO.refl _)
      | (with_reducible exact LeO.none _)
      | (with_reducible refine LeO.ite ?_ ?_)
      | (with_reducible refine LeO.bind ?_ (fun _ => ?_))
      | exact ih0 _ _ _
      | exact ih1 _ _ _
      | exact curl_Parse.mono _ _
      | exact shibbolethlaw22_awake.mono _
      | exact shibbolethlaw22_field.mono _ _ _ _
      | exact LeO.none _
      | refine LeO.ite ?_ ?_
      | refine LeO.bind ?_ (fun _ => ?_)
    · intro y0 y1 y2
      unfold shibbolethlaw22_CurlKnown.l1
      repeat' first
      | (with_reducible exact ih0 _ _ _)
      | (with_reducible exact ih1 _ _ _)
      | (with_reducible exact curl_Parse.mono _ _)
      | (with_reducible exact shibbolethlaw22_awake.mono _)
      | (with_reducible exact shibbolethlaw22_field.mono _ _ _ _)
      | (with_reducible exact LeO.refl _)
      | (with_reducible exact LeO.none _)
      | (with_reducible refine LeO.ite ?_ ?_)
      | (with_reducible refine LeO.bind ?_ (fun _ => ?_))
      | exact ih0 _ _ _
      | exact ih1 _ _ _
      | exact curl_Parse.mono _ _
      | exact shibbolethlaw22_awake.mono _
      | exact shibbolethlaw22_field.mono _ _ _ _
      | exact LeO.none _
      | refine LeO.ite ?_ ?_
      | refine LeO.bind ?_ (fun _ => ?_)
theorem shibbolethlaw22_CurlKnown.mono : ∀ k, LeO (shibbolethlaw22_CurlKnown.f k ) (shibbolethlaw22_CurlKnown.f (k + 1) ) := by
  intro  k
  obtain ⟨ih0, ih1⟩ := shibbolethlaw22_CurlKnown.mono_l k
  unfold shibbolethlaw22_CurlKnown.f
  repeat' first
      | (with_reducible exact ih0 _ _ _)
      | (with_reducible exact ih1 _ _ _)
      | (with_reducible exact curl_Parse.mono _ _)
      | (with_reducible exact shibbolethlaw22_awake.mono _)
      | (with_reducible exact shibbolethlaw22_field.mono _ _ _ _)
      | (with_reducible exact LeO.refl _)
      | (with_reducible exact LeO.none _)
      | (with_reducible refine LeO.ite ?_ ?_)
      | (with_reducible refine LeO.bind ?_ (fun _ => ?_))
      | exact ih0 _ _ _
      | exact ih1 _ _ _
      | exact curl_Parse.mono _ _
      | exact shibbolethlaw22_awake.mono _
      | exact shibbolethlaw22_field.mono _ _ _ _
      | exact LeO.none _
      | refine LeO.ite ?_ ?_
      | refine LeO.bind ?_ (fun _ => ?_)
set_option maxHeartbeats 8000000 in
set_option maxRecDepth 100000 in
theorem shibbolethlaw22_CurlKnown.calls (k : Nat)  (r : Bool) (w : World) (h : shibbolethlaw22_CurlKnown.f k  = some r) :
    Calls Try.prog 8 #[] w fun e w' => e = .returned (.bool r) ∧ Below w.heap.size w w' := by
  have hu27 := Try.underlying27
  have hu24 := Try.underlying24
  have HB := Aside0.mk (Below.refl w.heap.size w)
  have H : ((some (([(⟨(⟨#[120]⟩ : ByteArray), (⟨#[120]⟩ : ByteArray), (⟨#[]⟩ : ByteArray)⟩ : S27), (⟨(⟨#[120, 58, 56, 48]⟩ : ByteArray), (⟨#[120]⟩ : ByteArray), (⟨#[]⟩ : ByteArray)⟩ : S27), (⟨(⟨#[102, 105, 108, 101, 58, 47, 47, 47, 120]⟩ : ByteArray), (⟨#[120]⟩ : ByteArray), (⟨#[]⟩ : ByteArray)⟩ : S27), (⟨(⟨#[104, 116, 116, 112, 58, 47, 120, 47]⟩ : ByteArray), (⟨#[120]⟩ : ByteArray), (⟨#[47]⟩ : ByteArray)⟩ : S27), (⟨(⟨#[117, 64, 91, 58, 58, 49, 93, 58, 56]⟩ : ByteArray), (⟨#[91, 58, 58, 49, 93]⟩ : ByteArray), (⟨#[]⟩ : ByteArray)⟩ : S27), (⟨(⟨#[120, 58]⟩ : ByteArray), (⟨#[120]⟩ : ByteArray), (⟨#[]⟩ : ByteArray)⟩ : S27), (⟨(⟨#[104, 116, 116, 112, 58]⟩ : ByteArray), (⟨#[104, 116, 116, 112]⟩ : ByteArray), (⟨#[]⟩ : ByteArray)⟩ : S27), (⟨(⟨#[117, 58, 112, 64, 120, 47, 64, 63]⟩ : ByteArray), (⟨#[120]⟩ : ByteArray), (⟨#[47, 64]⟩ : ByteArray)⟩ : S27), (⟨(⟨#[97, 43, 49, 58, 47, 47, 126, 98, 37, 47]⟩ : ByteArray), (⟨#[126, 98, 37]⟩ : ByteArray), (⟨#[47]⟩ : ByteArray)⟩ : S27), (⟨(⟨#[91, 97, 46, 102, 93, 63]⟩ : ByteArray), (⟨#[91, 97, 46, 102, 93]⟩ : ByteArray), (⟨#[]⟩ : ByteArray)⟩ : S27), (⟨(⟨#[195, 164]⟩ : ByteArray), (⟨#[195, 164]⟩ : ByteArray), (⟨#[]⟩ : ByteArray)⟩ : S27)] : List (S27)) : List (S27))).bind fun y419 => (shibbolethlaw22_CurlKnown.l0 k y419 (y419.length : Int) 0)) = some r := h
  clear h
  obtain ⟨y419, hy419⟩ : ∃ y_ : List (S27), y_ = (([(⟨(⟨#[120]⟩ : ByteArray), (⟨#[120]⟩ : ByteArray), (⟨#[]⟩ : ByteArray)⟩ : S27), (⟨(⟨#[120, 58, 56, 48]⟩ : ByteArray), (⟨#[120]⟩ : ByteArray), (⟨#[]⟩ : ByteArray)⟩ : S27), (⟨(⟨#[102, 105, 108, 101, 58, 47, 47, 47, 120]⟩ : ByteArray), (⟨#[120]⟩ : ByteArray), (⟨#[]⟩ : ByteArray)⟩ : S27), (⟨(⟨#[104, 116, 116, 112, 58, 47, 120, 47]⟩ : ByteArray), (⟨#[120]⟩ : ByteArray), (⟨#[47]⟩ : ByteArray)⟩ : S27), (⟨(⟨#[117, 64, 91, 58, 58, 49, 93, 58, 56]⟩ : ByteArray), (⟨#[91, 58, 58, 49, 93]⟩ : ByteArray), (⟨#[]⟩ : ByteArray)⟩ : S27), (⟨(⟨#[120, 58]⟩ : ByteArray), (⟨#[120]⟩ : ByteArray), (⟨#[]⟩ : ByteArray)⟩ : S27), (⟨(⟨#[104, 116, 116, 112, 58]⟩ : ByteArray), (⟨#[104, 116, 116, 112]⟩ : ByteArray), (⟨#[]⟩ : ByteArray)⟩ : S27), (⟨(⟨#[117, 58, 112, 64, 120, 47, 64, 63]⟩ : ByteArray), (⟨#[120]⟩ : ByteArray), (⟨#[47, 64]⟩ : ByteArray)⟩ : S27), (⟨(⟨#[97, 43, 49, 58, 47, 47, 126, 98, 37, 47]⟩ : ByteArray), (⟨#[126, 98, 37]⟩ : ByteArray), (⟨#[47]⟩ : ByteArray)⟩ : S27), (⟨(⟨#[91, 97, 46, 102, 93, 63]⟩ : ByteArray), (⟨#[91, 97, 46, 102, 93]⟩ : ByteArray), (⟨#[]⟩ : ByteArray)⟩ : S27), (⟨(⟨#[195, 164]⟩ : ByteArray), (⟨#[195, 164]⟩ : ByteArray), (⟨#[]⟩ : ByteArray)⟩ : S27)] : List (S27))) := ⟨_, rfl⟩
  replace H : (shibbolethlaw22_CurlKnown.l0 k y419 (y419.length : Int) 0) = some r := by first | (rw [hy419]; with_reducible exact H) | (have H2_ := (Option.bind_some _ _).symm.trans H; rw [hy419]; with_reducible exact H2_) | (have H2_ := (Option.bind_some _ _).symm.trans H; with_reducible exact H2_) | with_reducible exact H | (rw [hy419]; exact H) | exact H
  have Ny419 := Aside0.mk hy419
  clear hy419
  have H' := Aside0.mk H
  clear H
  go_enter Try.func8, Try.ntmps8
  go_wp2_with (first | ((with_reducible refine gate_dst (N := 16) rfl ?_); refine Kd.R_lit k27 _ 27 ?hg (N := 16) ?hd (xs := ([(⟨(⟨#[120]⟩ : ByteArray), (⟨#[120]⟩ : ByteArray), (⟨#[]⟩ : ByteArray)⟩ : S27), (⟨(⟨#[120, 58, 56, 48]⟩ : ByteArray), (⟨#[120]⟩ : ByteArray), (⟨#[]⟩ : ByteArray)⟩ : S27), (⟨(⟨#[102, 105, 108, 101, 58, 47, 47, 47, 120]⟩ : ByteArray), (⟨#[120]⟩ : ByteArray), (⟨#[]⟩ : ByteArray)⟩ : S27), (⟨(⟨#[104, 116, 116, 112, 58, 47, 120, 47]⟩ : ByteArray), (⟨#[120]⟩ : ByteArray), (⟨#[47]⟩ : ByteArray)⟩ : S27), (⟨(⟨#[117, 64, 91, 58, 58, 49, 93, 58, 56]⟩ : ByteArray), (⟨#[91, 58, 58, 49, 93]⟩ : ByteArray), (⟨#[]⟩ : ByteArray)⟩ : S27), (⟨(⟨#[120, 58]⟩ : ByteArray), (⟨#[120]⟩ : ByteArray), (⟨#[]⟩ : ByteArray)⟩ : S27), (⟨(⟨#[104, 116, 116, 112, 58]⟩ : ByteArray), (⟨#[104, 116, 116, 112]⟩ : ByteArray), (⟨#[]⟩ : ByteArray)⟩ : S27), (⟨(⟨#[117, 58, 112, 64, 120, 47, 64, 63]⟩ : ByteArray), (⟨#[120]⟩ : ByteArray), (⟨#[47, 64]⟩ : ByteArray)⟩ : S27), (⟨(⟨#[97, 43, 49, 58, 47, 47, 126, 98, 37, 47]⟩ : ByteArray), (⟨#[126, 98, 37]⟩ : ByteArray), (⟨#[47]⟩ : ByteArray)⟩ : S27), (⟨(⟨#[91, 97, 46, 102, 93, 63]⟩ : ByteArray), (⟨#[91, 97, 46, 102, 93]⟩ : ByteArray), (⟨#[]⟩ : ByteArray)⟩ : S27), (⟨(⟨#[195, 164]⟩ : ByteArray), (⟨#[195, 164]⟩ : ByteArray), (⟨#[]⟩ : ByteArray)⟩ : S27)] : List (S27))) (inner := [.string (⟨#[120]⟩ : ByteArray), .string (⟨#[120]⟩ : ByteArray), .string (⟨#[]⟩ : ByteArray), .string (⟨#[120, 58, 56, 48]⟩ : ByteArray), .string (⟨#[120]⟩ : ByteArray), .string (⟨#[]⟩ : ByteArray), .string (⟨#[102, 105, 108, 101, 58, 47, 47, 47, 120]⟩ : ByteArray), .string (⟨#[120]⟩ : ByteArray), .string (⟨#[]⟩ : ByteArray), .string (⟨#[104, 116, 116, 112, 58, 47, 120, 47]⟩ : ByteArray), .string (⟨#[120]⟩ : ByteArray), .string (⟨#[47]⟩ : ByteArray), .string (⟨#[117, 64, 91, 58, 58, 49, 93, 58, 56]⟩ : ByteArray), .string (⟨#[91, 58, 58, 49, 93]⟩ : ByteArray), .string (⟨#[]⟩ : ByteArray), .string (⟨#[120, 58]⟩ : ByteArray), .string (⟨#[120]⟩ : ByteArray), .string (⟨#[]⟩ : ByteArray), .string (⟨#[104, 116, 116, 112, 58]⟩ : ByteArray), .string (⟨#[104, 116, 116, 112]⟩ : ByteArray), .string (⟨#[]⟩ : ByteArray), .string (⟨#[117, 58, 112, 64, 120, 47, 64, 63]⟩ : ByteArray), .string (⟨#[120]⟩ : ByteArray), .string (⟨#[47, 64]⟩ : ByteArray), .string (⟨#[97, 43, 49, 58, 47, 47, 126, 98, 37, 47]⟩ : ByteArray), .string (⟨#[126, 98, 37]⟩ : ByteArray), .string (⟨#[47]⟩ : ByteArray), .string (⟨#[91, 97, 46, 102, 93, 63]⟩ : ByteArray), .string (⟨#[91, 97, 46, 102, 93]⟩ : ByteArray), .string (⟨#[]⟩ : ByteArray), .string (⟨#[195, 164]⟩ : ByteArray), .string (⟨#[195, 164]⟩ : ByteArray), .string (⟨#[]⟩ : ByteArray)]) (ok := fun _ => True) (okp := fun _ => True) ?hr ?hp (fun _ hk => hk) trivial (Below.refl _ _) (Nat.le_refl _) (by simp) ?_; (case hd => rfl); (case hg => rfl); (case hr => first | (go_simp; done) | (go_simp; rfl)); (case hp => exact (Reps.c3 (show Kd.M k27 _ _ _ (⟨(⟨#[120]⟩ : ByteArray), (⟨#[120]⟩ : ByteArray), (⟨#[]⟩ : ByteArray)⟩ : S27) [.string (⟨#[120]⟩ : ByteArray), .string (⟨#[120]⟩ : ByteArray), .string (⟨#[]⟩ : ByteArray)] from (k27_mkM _ _ _ (⟨(⟨#[120]⟩ : ByteArray), (⟨#[120]⟩ : ByteArray), (⟨#[]⟩ : ByteArray)⟩ : S27) )) (Reps.c3 (show Kd.M k27 _ _ _ (⟨(⟨#[120, 58, 56, 48]⟩ : ByteArray), (⟨#[120]⟩ : ByteArray), (⟨#[]⟩ : ByteArray)⟩ : S27) [.string (⟨#[120, 58, 56, 48]⟩ : ByteArray), .string (⟨#[120]⟩ : ByteArray), .string (⟨#[]⟩ : ByteArray)] from (k27_mkM _ _ _ (⟨(⟨#[120, 58, 56, 48]⟩ : ByteArray), (⟨#[120]⟩ : ByteArray), (⟨#[]⟩ : ByteArray)⟩ : S27) )) (Reps.c3 (show Kd.M k27 _ _ _ (⟨(⟨#[102, 105, 108, 101, 58, 47, 47, 47, 120]⟩ : ByteArray), (⟨#[120]⟩ : ByteArray), (⟨#[]⟩ : ByteArray)⟩ : S27) [.string (⟨#[102, 105, 108, 101, 58, 47, 47, 47, 120]⟩ : ByteArray), .string (⟨#[120]⟩ : ByteArray), .string (⟨#[]⟩ : ByteArray)] from (k27_mkM _ _ _ (⟨(⟨#[102, 105, 108, 101, 58, 47, 47, 47, 120]⟩ : ByteArray), (⟨#[120]⟩ : ByteArray), (⟨#[]⟩ : ByteArray)⟩ : S27) )) (Reps.c3 (show Kd.M k27 _ _ _ (⟨(⟨#[104, 116, 116, 112, 58, 47, 120, 47]⟩ : ByteArray), (⟨#[120]⟩ : ByteArray), (⟨#[47]⟩ : ByteArray)⟩ : S27) [.string (⟨#[104, 116, 116, 112, 58, 47, 120, 47]⟩ : ByteArray), .string (⟨#[120]⟩ : ByteArray), .string (⟨#[47]⟩ : ByteArray)] from (k27_mkM _ _ _ (⟨(⟨#[104, 116, 116, 112, 58, 47, 120, 47]⟩ : ByteArray), (⟨#[120]⟩ : ByteArray), (⟨#[47]⟩ : ByteArray)⟩ : S27) )) (Reps.c3 (show Kd.M k27 _ _ _ (⟨(⟨#[117, 64, 91, 58, 58, 49, 93, 58, 56]⟩ : ByteArray), (⟨#[91, 58, 58, 49, 93]⟩ : ByteArray), (⟨#[]⟩ : ByteArray)⟩ : S27) [.string (⟨#[117, 64, 91, 58, 58, 49, 93, 58, 56]⟩ : ByteArray), .string (⟨#[91, 58, 58, 49, 93]⟩ : ByteArray), .string (⟨#[]⟩ : ByteArray)] from (k27_mkM _ _ _ (⟨(⟨#[117, 64, 91, 58, 58, 49, 93, 58, 56]⟩ : ByteArray), (⟨#[91, 58, 58, 49, 93]⟩ : ByteArray), (⟨#[]⟩ : ByteArray)⟩ : S27) )) (Reps.c3 (show Kd.M k27 _ _ _ (⟨(⟨#[120, 58]⟩ : ByteArray), (⟨#[120]⟩ : ByteArray), (⟨#[]⟩ : ByteArray)⟩ : S27) [.string (⟨#[120, 58]⟩ : ByteArray), .string (⟨#[120]⟩ : ByteArray), .string (⟨#[]⟩ : ByteArray)] from (k27_mkM _ _ _ (⟨(⟨#[120, 58]⟩ : ByteArray), (⟨#[120]⟩ : ByteArray), (⟨#[]⟩ : ByteArray)⟩ : S27) )) (Reps.c3 (show Kd.M k27 _ _ _ (⟨(⟨#[104, 116, 116, 112, 58]⟩ : ByteArray), (⟨#[104, 116, 116, 112]⟩ : ByteArray), (⟨#[]⟩ : ByteArray)⟩ : S27) [.string (⟨#[104, 116, 116, 112, 58]⟩ : ByteArray), .string (⟨#[104, 116, 116, 112]⟩ : ByteArray), .string (⟨#[]⟩ : ByteArray)] from (k27_mkM _ _ _ (⟨(⟨#[104, 116, 116, 112, 58]⟩ : ByteArray), (⟨#[104, 116, 116, 112]⟩ : ByteArray), (⟨#[]⟩ : ByteArray)⟩ : S27) )) (Reps.c3 (show Kd.M k27 _ _ _ (⟨(⟨#[117, 58, 112, 64, 120, 47, 64, 63]⟩ : ByteArray), (⟨#[120]⟩ : ByteArray), (⟨#[47, 64]⟩ : ByteArray)⟩ : S27) [.string (⟨#[117, 58, 112, 64, 120, 47, 64, 63]⟩ : ByteArray), .string (⟨#[120]⟩ : ByteArray), .string (⟨#[47, 64]⟩ : ByteArray)] from (k27_mkM _ _ _ (⟨(⟨#[117, 58, 112, 64, 120, 47, 64, 63]⟩ : ByteArray), (⟨#[120]⟩ : ByteArray), (⟨#[47, 64]⟩ : ByteArray)⟩ : S27) )) (Reps.c3 (show Kd.M k27 _ _ _ (⟨(⟨#[97, 43, 49, 58, 47, 47, 126, 98, 37, 47]⟩ : ByteArray), (⟨#[126, 98, 37]⟩ : ByteArray), (⟨#[47]⟩ : ByteArray)⟩ : S27) [.string (⟨#[97, 43, 49, 58, 47, 47, 126, 98, 37, 47]⟩ : ByteArray), .string (⟨#[126, 98, 37]⟩ : ByteArray), .string (⟨#[47]⟩ : ByteArray)] from (k27_mkM _ _ _ (⟨(⟨#[97, 43, 49, 58, 47, 47, 126, 98, 37, 47]⟩ : ByteArray), (⟨#[126, 98, 37]⟩ : ByteArray), (⟨#[47]⟩ : ByteArray)⟩ : S27) )) (Reps.c3 (show Kd.M k27 _ _ _ (⟨(⟨#[91, 97, 46, 102, 93, 63]⟩ : ByteArray), (⟨#[91, 97, 46, 102, 93]⟩ : ByteArray), (⟨#[]⟩ : ByteArray)⟩ : S27) [.string (⟨#[91, 97, 46, 102, 93, 63]⟩ : ByteArray), .string (⟨#[91, 97, 46, 102, 93]⟩ : ByteArray), .string (⟨#[]⟩ : ByteArray)] from (k27_mkM _ _ _ (⟨(⟨#[91, 97, 46, 102, 93, 63]⟩ : ByteArray), (⟨#[91, 97, 46, 102, 93]⟩ : ByteArray), (⟨#[]⟩ : ByteArray)⟩ : S27) )) (Reps.c3 (show Kd.M k27 _ _ _ (⟨(⟨#[195, 164]⟩ : ByteArray), (⟨#[195, 164]⟩ : ByteArray), (⟨#[]⟩ : ByteArray)⟩ : S27) [.string (⟨#[195, 164]⟩ : ByteArray), .string (⟨#[195, 164]⟩ : ByteArray), .string (⟨#[]⟩ : ByteArray)] from (k27_mkM _ _ _ (⟨(⟨#[195, 164]⟩ : ByteArray), (⟨#[195, 164]⟩ : ByteArray), (⟨#[]⟩ : ByteArray)⟩ : S27) )) (Reps.none _ _))))))))))))); intro v420 w1 ho2 hb hg_ hnew_; clear hg_ hnew_; (first | rw [← Ny419.out] at ho2 | (simp only [Int.reduceToNat] at ho2; rw [← Ny419.out] at ho2)); have n0_ := Aside0.mk (Kd.R_lower ho2 (below_size (by repeat (first | (with_reducible first | exact HB.out | apply below_alloc | apply pw_below_drewN | apply below_drew1) | exact HB.out)))); have n1_ := Aside0.mk (below_step (by repeat (first | (with_reducible first | exact HB.out | apply below_alloc | apply pw_below_drewN | apply below_drew1) | exact HB.out)) hb); clear HB; have HO421 := n0_; have HB := n1_; clear n0_ n1_; clear hb ho2; obtain ⟨Ao3, co3, eo3⟩ := Kd.R_slice HO421.out; subst eo3))
  go_loopg [18] k (fun kq v18 w' => ∃ (x18_1 : Int), v18 = .int .i64 x18_1 ∧ Aside0 (shibbolethlaw22_CurlKnown.l0 kq y419 (y419.length : Int) x18_1 = some r) ∧ Aside0 (kq ≤ k) ∧ Aside0 (Kd.R k27 27 w' w.heap.size (fun _ => True) (.slice Ao3 y419.length co3) y419) ∧ Aside0 (Below w.heap.size w w'))
  case atStart => exact ⟨(0), (by first | rfl | (simp; done) | (simp [*]; done)), H', ⟨Nat.le_refl _⟩, ⟨by (with_reducible repeat (first | apply Kd.R_alloc | apply Kd.R_drewN | apply Kd.R_drew)); exact HO421.out⟩, ⟨by repeat (first | (with_reducible first | exact HB.out | apply below_alloc | apply pw_below_drewN | apply below_drew1) | exact HB.out)⟩⟩
  case round =>
    clear H'
    try clear p2
    try clear c3
    obtain ⟨x18_1, rfl, HA, HK1, HO_16, HB⟩ := hrel
    cases gk with
    | zero => exact absurd HA.out (by simp [shibbolethlaw22_CurlKnown.l0])
    | succ k1 =>
      have H := HA.out
      clear HA
      simp only [shibbolethlaw22_CurlKnown.l0] at H
      by_cases c4 : x18_1 < (y419.length : Int)
      · rw [if_pos c4] at H
        have c4b0 : decide (x18_1 < (y419.length : Int)) = true := decide_eq_true c4
        clear c4
        by_cases c5 : 0 ≤ x18_1
        · rw [if_pos c5] at H
          have c5b0 : decide (0 ≤ x18_1) = true := decide_eq_true c5
          clear c5
          by_cases c6 : x18_1 < (y419.length : Int)
          · rw [if_pos c6] at H
            have c6b0 : decide (x18_1 < (y419.length : Int)) = true := decide_eq_true c6
            clear c6
            replace H := Option.bind_eq_some_iff.mp H
            obtain ⟨t424, A70, H⟩ := H
            replace H : (if t424 = true then (shibbolethlaw22_CurlKnown.l0 k1 y419 (y419.length : Int) (wrap64 (x18_1 + 1))) else (some false)) = some r := H
            have A7 := Aside0.mk A70
            clear A70
            by_cases c8 : t424 = true
            · subst c8
              have H1 : (shibbolethlaw22_CurlKnown.l0 k1 y419 (y419.length : Int) (wrap64 (x18_1 + 1))) = some r := by rw [if_pos rfl] at H; exact H
              clear H
              have H := H1
              clear H1
              have H' := Aside0.mk H
              clear H
              have p422 : 0 ≤ (x18_1 : Int) := of_decide_eq_true (by first | (with_reducible assumption) | assumption)
              have q422 : x18_1 < (y419.length : Int) := of_decide_eq_true (by first | (with_reducible assumption) | assumption)
              obtain ⟨ad422, e422, hx422_0, hx422_1, hx422_2⟩ := at_T27 (Kd.R_reads' HO_16.out).2.2 x18_1 p422 q422
              cases e422
              replace p422 := eq_true p422
              replace q422 := eq_true q422
              go_wp2_with (first | ((with_reducible refine gate_dst (N := 2) rfl ?_); refine box_event ?hg (N := 2) ?hd (cs := #[.string (⟨#[]⟩ : ByteArray), .string (⟨#[]⟩ : ByteArray), .string (⟨#[]⟩ : ByteArray)]) (t := 27) ?hr ?_; (case hd => rfl); (case hg => rfl); (case hr => first | (go_simp; done) | (go_simp; rfl)); intro gb423 hg w9 hbox hb; have n0_ := Aside0.mk (Kd.R_below (Kd.R_elderB (by (with_reducible repeat (first | apply Kd.R_alloc | apply Kd.R_drewN | apply Kd.R_drew)); exact HO_16.out) gb423 (Nat.le_of_eq hg.symm)) hb); have n1_ := Aside0.mk (below_step (by repeat (first | (with_reducible first | exact HB.out | apply below_alloc | apply pw_below_drewN | apply below_drew1) | exact HB.out)) hb); have n2_ := Aside0.mk (hbox); have n3_ := Aside0.mk ((by rw [hg]; exact (below_size (by repeat (first | (with_reducible first | exact HB.out | apply below_alloc | apply pw_below_drewN | apply below_drew1) | exact HB.out))) : w.heap.size ≤ gb423)); have n4_ := Aside0.mk ((by rw [hg]; exact (below_size (by repeat (first | (with_reducible first | exact HB.out | apply below_alloc | apply pw_below_drewN | apply below_drew1) | exact HB.out))) : w.heap.size ≤ gb423)); clear HO_16; clear HB; have HO_16 := n0_; have HB := n1_; have BK423 := n2_; have GW423 := n3_; have GE423 := n4_; clear n0_ n1_ n2_ n3_ n4_; clear hb hbox hg; have hcz10_0 : w9.cell? ⟨gb423, 0, none⟩ = some (.string (⟨#[]⟩ : ByteArray)) := (blk_cell BK423.out 0).trans rfl; have hcz10_1 : w9.cell? ⟨gb423, 1, none⟩ = some (.string (⟨#[]⟩ : ByteArray)) := (blk_cell BK423.out 1).trans rfl; have hcz10_2 : w9.cell? ⟨gb423, 2, none⟩ = some (.string (⟨#[]⟩ : ByteArray)) := (blk_cell BK423.out 2).trans rfl; have hfz10_0 := blk_frozen BK423.out 0; have hfz10_1 := blk_frozen BK423.out 1; have hfz10_2 := blk_frozen BK423.out 2) | ((with_reducible refine gate_callee (f := 20) rfl ?_); refine goesL_ (some 28) rfl rfl Try.func20 (by kernel_rfl) rfl #[.string ((rd_T27 y419 x18_1).f0), .string ((rd_T27 y419 x18_1).f1), .string ((rd_T27 y419 x18_1).f2)] rfl (by (try simp only [List.map_toArray, List.map_cons, List.map_nil]); first | done | rfl | (simp only [List.length_drop, List.length_take]; rfl)) ?_; (with_reducible refine (shibbolethlaw22_field.calls k1 ((rd_T27 y419 x18_1).f0) ((rd_T27 y419 x18_1).f1) ((rd_T27 y419 x18_1).f2) true _ A7.out).mono ?_); rintro e w11 ⟨rfl, hb⟩; refine ⟨_, rfl, ?_⟩; have n0_ := Aside0.mk (Kd.R_below (by (with_reducible repeat (first | apply Kd.R_alloc | apply Kd.R_drewN | apply Kd.R_drew)); exact (Kd.R_mono (Kd.R_far (p := ⟨gb423, 2, none⟩) (Kd.R_far (p := ⟨gb423, 1, none⟩) (Kd.R_far (p := ⟨gb423, 0, none⟩) (Kd.R_mono HO_16.out (fun k_ hk => (⟨hk, hk.2⟩ : _ ∧ k_ ≠ gb423))) (fun _ hk => hk.2) (.string ((rd_T27 y419 x18_1).f0))) (fun _ hk => hk.2) (.string ((rd_T27 y419 x18_1).f1))) (fun _ hk => hk.2) (.string ((rd_T27 y419 x18_1).f2))) (fun _ h_ => h_.1))) hb); have n1_ := Aside0.mk (blk_below (g := gb423) (o := .cells #[.string ((rd_T27 y419 x18_1).f0), .string ((rd_T27 y419 x18_1).f1), .string ((rd_T27 y419 x18_1).f2)] 27 (0, 0)) (by (with_reducible repeat (first | refine blk_drewN ?_ _ | refine blk_drew ?_ | refine blk_alloc ?_ _)); refine blk_put (cs := #[.string ((rd_T27 y419 x18_1).f0), .string ((rd_T27 y419 x18_1).f1), .string (⟨#[]⟩ : ByteArray)]) ?_ 2 _ rfl; (with_reducible repeat (first | refine blk_drewN ?_ _ | refine blk_drew ?_ | refine blk_alloc ?_ _)); refine blk_put (cs := #[.string ((rd_T27 y419 x18_1).f0), .string (⟨#[]⟩ : ByteArray), .string (⟨#[]⟩ : ByteArray)]) ?_ 1 _ rfl; (with_reducible repeat (first | refine blk_drewN ?_ _ | refine blk_drew ?_ | refine blk_alloc ?_ _)); refine blk_put (cs := #[.string (⟨#[]⟩ : ByteArray), .string (⟨#[]⟩ : ByteArray), .string (⟨#[]⟩ : ByteArray)]) ?_ 0 _ rfl; (with_reducible repeat (first | refine blk_drewN ?_ _ | refine blk_drew ?_ | refine blk_alloc ?_ _)); exact BK423.out) hb); have n2_ := Aside0.mk (below_step (by repeat (first | (with_reducible first | exact HB.out | apply below_alloc | apply pw_below_drewN | apply below_drew1 | refine below_set ?_ GE423.out) | exact HB.out)) hb); clear HO_16; clear BK423; clear HB; have HO_16 := n0_; have BK423 := n1_; have HB := n2_; clear n0_ n1_ n2_; (try clear hb); (try clear hb2); (try clear hk); (try clear hi)))
              go_roundg k1
              case measure => have := HK1.out; omega
              case rel => exact ⟨(wrap64 (x18_1 + 1)), (by first | rfl | (simp; done) | (simp [*]; done)), H', ⟨by have := HK1.out; omega⟩, ⟨by (with_reducible repeat (first | apply Kd.R_alloc | apply Kd.R_drewN | apply Kd.R_drew)); exact Kd.R_mono HO_16.out (fun _ hk => trivial)⟩, ⟨by repeat (first | (with_reducible first | exact HB.out | apply below_alloc | apply pw_below_drewN | apply below_drew1 | refine below_set ?_ GE423.out) | exact HB.out)⟩⟩
            · replace c8 := Bool.eq_false_iff.mpr c8
              subst c8
              have H1 : (some false) = some r := by rw [if_neg (show ¬ (false = true) by decide)] at H; exact H
              clear H
              have H := H1
              clear H1
              obtain rfl := Option.some.inj H
              have p422 : 0 ≤ (x18_1 : Int) := of_decide_eq_true (by first | (with_reducible assumption) | assumption)
              have q422 : x18_1 < (y419.length : Int) := of_decide_eq_true (by first | (with_reducible assumption) | assumption)
              obtain ⟨ad422, e422, hx422_0, hx422_1, hx422_2⟩ := at_T27 (Kd.R_reads' HO_16.out).2.2 x18_1 p422 q422
              cases e422
              replace p422 := eq_true p422
              replace q422 := eq_true q422
              go_wp2_with (first | ((with_reducible refine gate_dst (N := 2) rfl ?_); refine box_event ?hg (N := 2) ?hd (cs := #[.string (⟨#[]⟩ : ByteArray), .string (⟨#[]⟩ : ByteArray), .string (⟨#[]⟩ : ByteArray)]) (t := 27) ?hr ?_; (case hd => rfl); (case hg => rfl); (case hr => first | (go_simp; done) | (go_simp; rfl)); intro gb423 hg w12 hbox hb; have n0_ := Aside0.mk (Kd.R_below (Kd.R_elderB (by (with_reducible repeat (first | apply Kd.R_alloc | apply Kd.R_drewN | apply Kd.R_drew)); exact HO_16.out) gb423 (Nat.le_of_eq hg.symm)) hb); have n1_ := Aside0.mk (below_step (by repeat (first | (with_reducible first | exact HB.out | apply below_alloc | apply pw_below_drewN | apply below_drew1) | exact HB.out)) hb); have n2_ := Aside0.mk (hbox); have n3_ := Aside0.mk ((by rw [hg]; exact (below_size (by repeat (first | (with_reducible first | exact HB.out | apply below_alloc | apply pw_below_drewN | apply below_drew1) | exact HB.out))) : w.heap.size ≤ gb423)); have n4_ := Aside0.mk ((by rw [hg]; exact (below_size (by repeat (first | (with_reducible first | exact HB.out | apply below_alloc | apply pw_below_drewN | apply below_drew1) | exact HB.out))) : w.heap.size ≤ gb423)); clear HO_16; clear HB; have HO_16 := n0_; have HB := n1_; have BK423 := n2_; have GW423 := n3_; have GE423 := n4_; clear n0_ n1_ n2_ n3_ n4_; clear hb hbox hg; have hcz13_0 : w12.cell? ⟨gb423, 0, none⟩ = some (.string (⟨#[]⟩ : ByteArray)) := (blk_cell BK423.out 0).trans rfl; have hcz13_1 : w12.cell? ⟨gb423, 1, none⟩ = some (.string (⟨#[]⟩ : ByteArray)) := (blk_cell BK423.out 1).trans rfl; have hcz13_2 : w12.cell? ⟨gb423, 2, none⟩ = some (.string (⟨#[]⟩ : ByteArray)) := (blk_cell BK423.out 2).trans rfl; have hfz13_0 := blk_frozen BK423.out 0; have hfz13_1 := blk_frozen BK423.out 1; have hfz13_2 := blk_frozen BK423.out 2) | ((with_reducible refine gate_callee (f := 20) rfl ?_); refine goesL_ (some 28) rfl rfl Try.func20 (by kernel_rfl) rfl #[.string ((rd_T27 y419 x18_1).f0), .string ((rd_T27 y419 x18_1).f1), .string ((rd_T27 y419 x18_1).f2)] rfl (by (try simp only [List.map_toArray, List.map_cons, List.map_nil]); first | done | rfl | (simp only [List.length_drop, List.length_take]; rfl)) ?_; (with_reducible refine (shibbolethlaw22_field.calls k1 ((rd_T27 y419 x18_1).f0) ((rd_T27 y419 x18_1).f1) ((rd_T27 y419 x18_1).f2) false _ A7.out).mono ?_); rintro e w14 ⟨rfl, hb⟩; refine ⟨_, rfl, ?_⟩; have n0_ := Aside0.mk (Kd.R_below (by (with_reducible repeat (first | apply Kd.R_alloc | apply Kd.R_drewN | apply Kd.R_drew)); exact (Kd.R_mono (Kd.R_far (p := ⟨gb423, 2, none⟩) (Kd.R_far (p := ⟨gb423, 1, none⟩) (Kd.R_far (p := ⟨gb423, 0, none⟩) (Kd.R_mono HO_16.out (fun k_ hk => (⟨hk, hk.2⟩ : _ ∧ k_ ≠ gb423))) (fun _ hk => hk.2) (.string ((rd_T27 y419 x18_1).f0))) (fun _ hk => hk.2) (.string ((rd_T27 y419 x18_1).f1))) (fun _ hk => hk.2) (.string ((rd_T27 y419 x18_1).f2))) (fun _ h_ => h_.1))) hb); have n1_ := Aside0.mk (blk_below (g := gb423) (o := .cells #[.string ((rd_T27 y419 x18_1).f0), .string ((rd_T27 y419 x18_1).f1), .string ((rd_T27 y419 x18_1).f2)] 27 (0, 0)) (by (with_reducible repeat (first | refine blk_drewN ?_ _ | refine blk_drew ?_ | refine blk_alloc ?_ _)); refine blk_put (cs := #[.string ((rd_T27 y419 x18_1).f0), .string ((rd_T27 y419 x18_1).f1), .string (⟨#[]⟩ : ByteArray)]) ?_ 2 _ rfl; (with_reducible repeat (first | refine blk_drewN ?_ _ | refine blk_drew ?_ | refine blk_alloc ?_ _)); refine blk_put (cs := #[.string ((rd_T27 y419 x18_1).f0), .string (⟨#[]⟩ : ByteArray), .string (⟨#[]⟩ : ByteArray)]) ?_ 1 _ rfl; (with_reducible repeat (first | refine blk_drewN ?_ _ | refine blk_drew ?_ | refine blk_alloc ?_ _)); refine blk_put (cs := #[.string (⟨#[]⟩ : ByteArray), .string (⟨#[]⟩ : ByteArray), .string (⟨#[]⟩ : ByteArray)]) ?_ 0 _ rfl; (with_reducible repeat (first | refine blk_drewN ?_ _ | refine blk_drew ?_ | refine blk_alloc ?_ _)); exact BK423.out) hb); have n2_ := Aside0.mk (below_step (by repeat (first | (with_reducible first | exact HB.out | apply below_alloc | apply pw_below_drewN | apply below_drew1 | refine below_set ?_ GE423.out) | exact HB.out)) hb); clear HO_16; clear BK423; clear HB; have HO_16 := n0_; have BK423 := n1_; have HB := n2_; clear n0_ n1_ n2_; (try clear hb); (try clear hb2); (try clear hk); (try clear hi)))
              go_ret
              exact ⟨by first | rfl | (simp [errW_none, errW_some] <;> rfl) | (simp [*, errW_none, errW_some] <;> rfl), by repeat (first | (with_reducible first | exact HB.out | apply below_alloc | apply pw_below_drewN | apply below_drew1 | refine below_set ?_ GE423.out) | exact HB.out)⟩
          · rw [if_neg c6] at H
            exact absurd H (by simp)
        · rw [if_neg c5] at H
          exact absurd H (by simp)
      · rw [if_neg c4] at H
        have c4b0 : decide (x18_1 < (y419.length : Int)) = false := decide_eq_false c4
        clear c4
        obtain ⟨y425, hy425⟩ : ∃ y_ : List ByteArray, y_ = (([(⟨#[97, 58, 98]⟩ : ByteArray), (⟨#[104, 116, 116, 112, 58, 47, 47, 47, 47, 120]⟩ : ByteArray), (⟨#[117, 64, 118, 64, 120]⟩ : ByteArray), (⟨#[91, 93]⟩ : ByteArray), (⟨#[97, 32, 98]⟩ : ByteArray), (⟨#[]⟩ : ByteArray), (⟨#[47]⟩ : ByteArray), (⟨#[104, 116, 116, 112, 58, 47, 47]⟩ : ByteArray), (⟨#[91, 103, 93]⟩ : ByteArray), (⟨#[91, 49, 93, 120]⟩ : ByteArray), (⟨#[120, 58, 56, 97]⟩ : ByteArray), (⟨#[120, 127]⟩ : ByteArray), (⟨#[123]⟩ : ByteArray), (⟨#[117, 64]⟩ : ByteArray), (⟨#[91, 49]⟩ : ByteArray), (⟨#[47, 47, 120]⟩ : ByteArray)] : List ByteArray)) := ⟨_, rfl⟩
        replace H : (shibbolethlaw22_CurlKnown.l1 k1 y425 (y425.length : Int) 0) = some r := by first | (rw [hy425]; with_reducible exact H) | (have H2_ := (Option.bind_some _ _).symm.trans H; rw [hy425]; with_reducible exact H2_) | (have H2_ := (Option.bind_some _ _).symm.trans H; with_reducible exact H2_) | with_reducible exact H | (rw [hy425]; exact H) | exact H
        have Ny425 := Aside0.mk hy425
        clear hy425
        have H' := Aside0.mk H
        clear H
        go_wp2_with (first | ((with_reducible refine gate_dst (N := 31) rfl ?_); refine Kd.R_lit Kd.string _ 9 ?hg (N := 31) ?hd (xs := ([(⟨#[97, 58, 98]⟩ : ByteArray), (⟨#[104, 116, 116, 112, 58, 47, 47, 47, 47, 120]⟩ : ByteArray), (⟨#[117, 64, 118, 64, 120]⟩ : ByteArray), (⟨#[91, 93]⟩ : ByteArray), (⟨#[97, 32, 98]⟩ : ByteArray), (⟨#[]⟩ : ByteArray), (⟨#[47]⟩ : ByteArray), (⟨#[104, 116, 116, 112, 58, 47, 47]⟩ : ByteArray), (⟨#[91, 103, 93]⟩ : ByteArray), (⟨#[91, 49, 93, 120]⟩ : ByteArray), (⟨#[120, 58, 56, 97]⟩ : ByteArray), (⟨#[120, 127]⟩ : ByteArray), (⟨#[123]⟩ : ByteArray), (⟨#[117, 64]⟩ : ByteArray), (⟨#[91, 49]⟩ : ByteArray), (⟨#[47, 47, 120]⟩ : ByteArray)] : List ByteArray)) (inner := [.string (⟨#[97, 58, 98]⟩ : ByteArray), .string (⟨#[104, 116, 116, 112, 58, 47, 47, 47, 47, 120]⟩ : ByteArray), .string (⟨#[117, 64, 118, 64, 120]⟩ : ByteArray), .string (⟨#[91, 93]⟩ : ByteArray), .string (⟨#[97, 32, 98]⟩ : ByteArray), .string (⟨#[]⟩ : ByteArray), .string (⟨#[47]⟩ : ByteArray), .string (⟨#[104, 116, 116, 112, 58, 47, 47]⟩ : ByteArray), .string (⟨#[91, 103, 93]⟩ : ByteArray), .string (⟨#[91, 49, 93, 120]⟩ : ByteArray), .string (⟨#[120, 58, 56, 97]⟩ : ByteArray), .string (⟨#[120, 127]⟩ : ByteArray), .string (⟨#[123]⟩ : ByteArray), .string (⟨#[117, 64]⟩ : ByteArray), .string (⟨#[91, 49]⟩ : ByteArray), .string (⟨#[47, 47, 120]⟩ : ByteArray)]) (ok := fun _ => True) (okp := fun _ => True) ?hr ?hp (fun _ hk => hk) trivial (Below.refl _ _) (Nat.le_refl _) (by simp) ?_; (case hd => rfl); (case hg => rfl); (case hr => first | (go_simp; done) | (go_simp; rfl)); (case hp => exact (Reps.one (show Kd.M Kd.string _ _ _ (⟨#[97, 58, 98]⟩ : ByteArray) [.string (⟨#[97, 58, 98]⟩ : ByteArray)] from rfl) (Reps.one (show Kd.M Kd.string _ _ _ (⟨#[104, 116, 116, 112, 58, 47, 47, 47, 47, 120]⟩ : ByteArray) [.string (⟨#[104, 116, 116, 112, 58, 47, 47, 47, 47, 120]⟩ : ByteArray)] from rfl) (Reps.one (show Kd.M Kd.string _ _ _ (⟨#[117, 64, 118, 64, 120]⟩ : ByteArray) [.string (⟨#[117, 64, 118, 64, 120]⟩ : ByteArray)] from rfl) (Reps.one (show Kd.M Kd.string _ _ _ (⟨#[91, 93]⟩ : ByteArray) [.string (⟨#[91, 93]⟩ : ByteArray)] from rfl) (Reps.one (show Kd.M Kd.string _ _ _ (⟨#[97, 32, 98]⟩ : ByteArray) [.string (⟨#[97, 32, 98]⟩ : ByteArray)] from rfl) (Reps.one (show Kd.M Kd.string _ _ _ (⟨#[]⟩ : ByteArray) [.string (⟨#[]⟩ : ByteArray)] from rfl) (Reps.one (show Kd.M Kd.string _ _ _ (⟨#[47]⟩ : ByteArray) [.string (⟨#[47]⟩ : ByteArray)] from rfl) (Reps.one (show Kd.M Kd.string _ _ _ (⟨#[104, 116, 116, 112, 58, 47, 47]⟩ : ByteArray) [.string (⟨#[104, 116, 116, 112, 58, 47, 47]⟩ : ByteArray)] from rfl) (Reps.one (show Kd.M Kd.string _ _ _ (⟨#[91, 103, 93]⟩ : ByteArray) [.string (⟨#[91, 103, 93]⟩ : ByteArray)] from rfl) (Reps.one (show Kd.M Kd.string _ _ _ (⟨#[91, 49, 93, 120]⟩ : ByteArray) [.string (⟨#[91, 49, 93, 120]⟩ : ByteArray)] from rfl) (Reps.one (show Kd.M Kd.string _ _ _ (⟨#[120, 58, 56, 97]⟩ : ByteArray) [.string (⟨#[120, 58, 56, 97]⟩ : ByteArray)] from rfl) (Reps.one (show Kd.M Kd.string _ _ _ (⟨#[120, 127]⟩ : ByteArray) [.string (⟨#[120, 127]⟩ : ByteArray)] from rfl) (Reps.one (show Kd.M Kd.string _ _ _ (⟨#[123]⟩ : ByteArray) [.string (⟨#[123]⟩ : ByteArray)] from rfl) (Reps.one (show Kd.M Kd.string _ _ _ (⟨#[117, 64]⟩ : ByteArray) [.string (⟨#[117, 64]⟩ : ByteArray)] from rfl) (Reps.one (show Kd.M Kd.string _ _ _ (⟨#[91, 49]⟩ : ByteArray) [.string (⟨#[91, 49]⟩ : ByteArray)] from rfl) (Reps.one (show Kd.M Kd.string _ _ _ (⟨#[47, 47, 120]⟩ : ByteArray) [.string (⟨#[47, 47, 120]⟩ : ByteArray)] from rfl) (Reps.none _ _)))))))))))))))))); intro v426 w15 ho16 hb hg_ hnew_; clear hg_ hnew_; (first | rw [← Ny425.out] at ho16 | (simp only [Int.reduceToNat] at ho16; rw [← Ny425.out] at ho16)); have n0_ := Aside0.mk (Kd.R_below (by (with_reducible repeat (first | apply Kd.R_alloc | apply Kd.R_drewN | apply Kd.R_drew)); exact HO_16.out) hb); have n1_ := Aside0.mk (Kd.R_lower ho16 (below_size (by repeat (first | (with_reducible first | exact HB.out | apply below_alloc | apply pw_below_drewN | apply below_drew1) | exact HB.out)))); have n2_ := Aside0.mk (below_step (by repeat (first | (with_reducible first | exact HB.out | apply below_alloc | apply pw_below_drewN | apply below_drew1) | exact HB.out)) hb); clear HO_16; clear HB; have HO_16 := n0_; have HO427 := n1_; have HB := n2_; clear n0_ n1_ n2_; clear hb ho16; obtain ⟨Ao17, co17, eo17⟩ := Kd.R_slice HO427.out; subst eo17))
        go_loopg [33] k1 (fun kq v33 w' => ∃ (x33_2 : Int), v33 = .int .i64 x33_2 ∧ Aside0 (shibbolethlaw22_CurlKnown.l1 kq y425 (y425.length : Int) x33_2 = some r) ∧ Aside0 (kq ≤ k1) ∧ Aside0 (Kd.R Kd.string 9 w' w.heap.size (fun _ => True) (.slice Ao17 y425.length co17) y425) ∧ Aside0 (Below w.heap.size w w'))
        case atStart => exact ⟨(0), (by first | rfl | (simp; done) | (simp [*]; done)), H', ⟨Nat.le_refl _⟩, ⟨by (with_reducible repeat (first | apply Kd.R_alloc | apply Kd.R_drewN | apply Kd.R_drew)); exact HO427.out⟩, ⟨by repeat (first | (with_reducible first | exact HB.out | apply below_alloc | apply pw_below_drewN | apply below_drew1) | exact HB.out)⟩⟩
        case round =>
          clear H'
          try clear c2
          try clear p2
          try clear c3
          try clear c4
          try clear c4b0
          try clear p4
          try clear q4
          try clear hx4
          try clear c5
          try clear c5b0
          try clear c6
          try clear c6b0
          try clear p6
          try clear c8
          try clear hcz10_0
          try clear hcz10_1
          try clear hcz10_2
          try clear hcz13_0
          try clear hcz13_1
          try clear hcz13_2
          try clear hfz10_0
          try clear hfz10_1
          try clear hfz10_2
          try clear hfz13_0
          try clear hfz13_1
          try clear hfz13_2
          try clear hx422_0
          try clear hx422_1
          try clear hx422_2
          try clear p2
          try clear p422
          try clear q422
          obtain ⟨x33_2, rfl, HA, HK2, HO_31, HB⟩ := hrel
          cases gk with
          | zero => exact absurd HA.out (by simp [shibbolethlaw22_CurlKnown.l1])
          | succ k2 =>
            have H := HA.out
            clear HA
            simp only [shibbolethlaw22_CurlKnown.l1] at H
            by_cases c18 : x33_2 < (y425.length : Int)
            · rw [if_pos c18] at H
              have c18b0 : decide (x33_2 < (y425.length : Int)) = true := decide_eq_true c18
              clear c18
              by_cases c19 : 0 ≤ x33_2
              · rw [if_pos c19] at H
                have c19b0 : decide (0 ≤ x33_2) = true := decide_eq_true c19
                clear c19
                by_cases c20 : x33_2 < (y425.length : Int)
                · rw [if_pos c20] at H
                  have c20b0 : decide (x33_2 < (y425.length : Int)) = true := decide_eq_true c20
                  clear c20
                  replace H := Option.bind_eq_some_iff.mp H
                  obtain ⟨⟨t429, t430, t431⟩, A210, H⟩ := H
                  replace H : (if (t429 || (!(t430.toList == ([] : List UInt8)) || (!(t431.toList == ([] : List UInt8))))) = true then (some false) else (shibbolethlaw22_CurlKnown.l1 k2 y425 (y425.length : Int) (wrap64 (x33_2 + 1)))) = some r := H
                  have A21 := Aside0.mk A210
                  clear A210
                  by_cases c22 : (t429 || (!(t430.toList == ([] : List UInt8)) || (!(t431.toList == ([] : List UInt8))))) = true
                  · rw [if_pos c22] at H
                    have c22b0 : (t429 || (!(t430.toList == ([] : List UInt8)) || (!(t431.toList == ([] : List UInt8))))) = true := c22
                    (try (have c22b1 : (t429 || (!((t430).toList.isEmpty) || (!((t431).toList.isEmpty)))) = true := by simpa using c22))
                    clear c22
                    obtain rfl := Option.some.inj H
                    have p428 : 0 ≤ (x33_2 : Int) := of_decide_eq_true (by first | (with_reducible assumption) | assumption)
                    have q428 : x33_2 < (y425.length : Int) := of_decide_eq_true (by first | (with_reducible assumption) | assumption)
                    obtain ⟨ad428, e428, hx428_0⟩ := Kd.at_string (Kd.R_reads' HO_31.out).2.2 x33_2 p428 q428
                    cases e428
                    replace p428 := eq_true p428
                    replace q428 := eq_true q428
                    go_wp2_with (first | ((with_reducible refine gate_callee (f := 18) rfl ?_); refine goesL_ (some 38) rfl rfl Try.func18 (by kernel_rfl) rfl #[.string (rdOf ByteArray.empty y425 x33_2)] rfl (by (try simp only [List.map_toArray, List.map_cons, List.map_nil]); first | done | rfl | (simp only [List.length_drop, List.length_take]; rfl)) ?_; (with_reducible refine (curl_Parse.calls k2 (rdOf ByteArray.empty y425 x33_2) t429 t430 t431 _ A21.out).mono ?_); rintro e w23 ⟨rfl, hb⟩; refine ⟨_, rfl, ?_⟩; have n0_ := Aside0.mk (Kd.R_below (by (with_reducible repeat (first | apply Kd.R_alloc | apply Kd.R_drewN | apply Kd.R_drew)); exact HO_31.out) hb); have n1_ := Aside0.mk (below_step (by repeat (first | (with_reducible first | exact HB.out | apply below_alloc | apply pw_below_drewN | apply below_drew1) | exact HB.out)) hb); clear HO_31; clear HB; have HO_31 := n0_; have HB := n1_; clear n0_ n1_; (try clear hb); (try clear hb2); (try clear hk); (try clear hi)))
                    go_ret
                    exact ⟨by first | rfl | (simp [errW_none, errW_some] <;> rfl) | (simp [*, errW_none, errW_some] <;> rfl), by repeat (first | (with_reducible first | exact HB.out | apply below_alloc | apply pw_below_drewN | apply below_drew1) | exact HB.out)⟩
                  · rw [if_neg c22] at H
                    have c22b0 : (t429 || (!(t430.toList == ([] : List UInt8)) || (!(t431.toList == ([] : List UInt8))))) = false := by simpa using c22
                    (try (have c22b1 : (t429 || (!((t430).toList.isEmpty) || (!((t431).toList.isEmpty)))) = false := by simpa using c22))
                    clear c22
                    have H' := Aside0.mk H
                    clear H
                    have p428 : 0 ≤ (x33_2 : Int) := of_decide_eq_true (by first | (with_reducible assumption) | assumption)
                    have q428 : x33_2 < (y425.length : Int) := of_decide_eq_true (by first | (with_reducible assumption) | assumption)
                    obtain ⟨ad428, e428, hx428_0⟩ := Kd.at_string (Kd.R_reads' HO_31.out).2.2 x33_2 p428 q428
                    cases e428
                    replace p428 := eq_true p428
                    replace q428 := eq_true q428
                    go_wp2_with (first | ((with_reducible refine gate_callee (f := 18) rfl ?_); refine goesL_ (some 38) rfl rfl Try.func18 (by kernel_rfl) rfl #[.string (rdOf ByteArray.empty y425 x33_2)] rfl (by (try simp only [List.map_toArray, List.map_cons, List.map_nil]); first | done | rfl | (simp only [List.length_drop, List.length_take]; rfl)) ?_; (with_reducible refine (curl_Parse.calls k2 (rdOf ByteArray.empty y425 x33_2) t429 t430 t431 _ A21.out).mono ?_); rintro e w24 ⟨rfl, hb⟩; refine ⟨_, rfl, ?_⟩; have n0_ := Aside0.mk (Kd.R_below (by (with_reducible repeat (first | apply Kd.R_alloc | apply Kd.R_drewN | apply Kd.R_drew)); exact HO_31.out) hb); have n1_ := Aside0.mk (below_step (by repeat (first | (with_reducible first | exact HB.out | apply below_alloc | apply pw_below_drewN | apply below_drew1) | exact HB.out)) hb); clear HO_31; clear HB; have HO_31 := n0_; have HB := n1_; clear n0_ n1_; (try clear hb); (try clear hb2); (try clear hk); (try clear hi)))
                    go_roundg k2
                    case measure => have := HK1.out; have := HK2.out; omega
                    case rel => exact ⟨(wrap64 (x33_2 + 1)), (by first | rfl | (simp; done) | (simp [*]; done)), H', ⟨by have := HK1.out; have := HK2.out; omega⟩, ⟨by (with_reducible repeat (first | apply Kd.R_alloc | apply Kd.R_drewN | apply Kd.R_drew)); exact HO_31.out⟩, ⟨by repeat (first | (with_reducible first | exact HB.out | apply below_alloc | apply pw_below_drewN | apply below_drew1) | exact HB.out)⟩⟩
                · rw [if_neg c20] at H
                  exact absurd H (by simp)
              · rw [if_neg c19] at H
                exact absurd H (by simp)
            · rw [if_neg c18] at H
              have c18b0 : decide (x33_2 < (y425.length : Int)) = false := decide_eq_false c18
              clear c18
              replace H := Option.bind_eq_some_iff.mp H
              obtain ⟨t432, A250, H⟩ := H
              replace H : (some t432) = some r := H
              have A25 := Aside0.mk A250
              clear A250
              obtain rfl := Option.some.inj H
              go_wp2_with (first | ((with_reducible refine gate_callee (f := 17) rfl ?_); refine goesL_ (some 42) rfl rfl Try.func17 (by kernel_rfl) rfl #[] rfl (by (try simp only [List.map_toArray, List.map_cons, List.map_nil]); first | done | rfl | (simp only [List.length_drop, List.length_take]; rfl)) ?_; (with_reducible refine (shibbolethlaw22_awake.calls k2  t432 _ A25.out).mono ?_); rintro e w26 ⟨rfl, hb⟩; refine ⟨_, rfl, ?_⟩; have n0_ := Aside0.mk (Kd.R_below (by (with_reducible repeat (first | apply Kd.R_alloc | apply Kd.R_drewN | apply Kd.R_drew)); exact HO_31.out) hb); have n1_ := Aside0.mk (below_step (by repeat (first | (with_reducible first | exact HB.out | apply below_alloc | apply pw_below_drewN | apply below_drew1) | exact HB.out)) hb); clear HO_31; clear HB; have HO_31 := n0_; have HB := n1_; clear n0_ n1_; (try clear hb); (try clear hb2); (try clear hk); (try clear hi)))
              go_ret
              exact ⟨by first | rfl | (simp [errW_none, errW_some] <;> rfl) | (simp [*, errW_none, errW_some] <;> rfl), by repeat (first | (with_reducible first | exact HB.out | apply below_alloc | apply pw_below_drewN | apply below_drew1) | exact HB.out)⟩

/-- THE ONE PURE STATEMENT of shibbolethlaw22_CurlKnown: yours. -/
def shibbolethlaw22_CurlKnown.Pure : Prop := ∃ k, shibbolethlaw22_CurlKnown.f k  = some true
theorem shibbolethlaw22_CurlKnown.walk (P : shibbolethlaw22_CurlKnown.Pure)  (w : World)  :
    Calls Try.prog 8 #[] w fun e w' => e = .returned (.bool true) ∧ Below w.heap.size w w' := by
  obtain ⟨k, h⟩ := P  
  refine (shibbolethlaw22_CurlKnown.calls k  true w h).mono ?_
  rintro e w' ⟨rfl, hd⟩
  exact ⟨rfl, hd⟩

/-! ### shibbolethref22_is: function 43 -/
def shibbolethref22_is.l0 : Nat → Int → ByteArray → Int → Option (Bool)
  | 0, _, _, _ => none
  | k + 1, x0, x1, x5 => if x5 < (x1.size : Int) then (if 0 ≤ x5 then (if (bt x1 x5) = x0 then (some true) else (shibbolethref22_is.l0 k x0 x1 (wrap64 (x5 + 1)))) else (none)) else (some false)
def shibbolethref22_is.f (k : Nat) (a0 : Int) (a1 : ByteArray) : Option (Bool) := shibbolethref22_is.l0 k a0 a1 0
theorem shibbolethref22_is.mono_l : ∀ k, (∀ y0 y1 y2, LeO (shibbolethref22_is.l0 k y0 y1 y2) (shibbolethref22_is.l0 (k + 1) y0 y1 y2))
  | 0 => fun _ _ _ r h => by simp [shibbolethref22_is.l0] at h
  | k + 1 => by
    have ih0 := shibbolethref22_is.mono_l k
    · intro y0 y1 y2
      unfold shibbolethref22_is.l0
      repeat' first
      | (with_reducible exact ih0 _ _ _)
      | (with_reducible exact LeO.refl _)
      | (with_reducible exact LeO.none _)
      | (with_reducible refine LeO.ite ?_ ?_)
      | (with_reducible refine LeO.bind ?_ (fun _ => ?_))
      | exact ih0 _ _ _
      | exact LeO.none _
      | refine LeO.ite ?_ ?_
      | refine LeO.bind ?_ (fun _ => ?_)
theorem shibbolethref22_is.mono : ∀ a0 a1 k, LeO (shibbolethref22_is.f k a0 a1) (shibbolethref22_is.f (k + 1) a0 a1) := by
  intro a0 a1 k
  have ih0 := shibbolethref22_is.mono_l k
  unfold shibbolethref22_is.f
  repeat' first
      | (with_reducible exact ih0 _ _ _)
      | (with_reducible exact LeO.refl _)
      | (with_reducible exact LeO.none _)
      | (with_reducible refine LeO.ite ?_ ?_)
      | (with_reducible refine LeO.bind ?_ (fun _ => ?_))
      | exact ih0 _ _ _
      | exact LeO.none _
      | refine LeO.ite ?_ ?_
      | refine LeO.bind ?_ (fun _ => ?_)
set_option maxHeartbeats 8000000 in
set_option maxRecDepth 100000 in
theorem shibbolethref22_is.calls (k : Nat) (a0 : Int) (a1 : ByteArray) (r : Bool) (w : World) (h : shibbolethref22_is.f k a0 a1 = some r) :
    Calls Try.prog 43 #[.int .u8 a0, .string a1] w fun e w' => e = .returned (.bool r) ∧ Drawn0 w w' := by
  have H : (shibbolethref22_is.l0 k a0 a1 0) = some r := h
  clear h
  have H' := Aside0.mk H
  clear H
  go_enter Try.func43, Try.ntmps43
  go_wp2
  go_loopg [5] k (fun kq v5 w' => ∃ (x5_1 : Int), v5 = .int .i64 x5_1 ∧ Aside0 (shibbolethref22_is.l0 kq a0 a1 x5_1 = some r) ∧ Aside0 (kq ≤ k) ∧ Drawn0 w w')
  case atStart => exact ⟨(0), (by first | rfl | (simp; done) | (simp [*]; done)), H', ⟨Nat.le_refl _⟩, by repeat (first | exact Drawn0.refl _ | apply Drawn0.step)⟩
  case round =>
    clear H'
    try clear p2
    obtain ⟨x5_1, rfl, HA, HK1, ⟨m1, rfl⟩⟩ := hrel
    cases gk with
    | zero => exact absurd HA.out (by simp [shibbolethref22_is.l0])
    | succ k1 =>
      have H := HA.out
      clear HA
      simp only [shibbolethref22_is.l0] at H
      by_cases c3 : x5_1 < (a1.size : Int)
      · rw [if_pos c3] at H
        have c3b0 : decide (x5_1 < (a1.size : Int)) = true := decide_eq_true c3
        clear c3
        by_cases c4 : 0 ≤ x5_1
        · rw [if_pos c4] at H
          have c4b0 : decide (0 ≤ x5_1) = true := decide_eq_true c4
          clear c4
          by_cases c6 : (bt a1 x5_1) = a0
          · rw [if_pos c6] at H
            have c6b0 : ((bt a1 x5_1) == a0) = true := beq_iff_eq.mpr c6
            have c6b1 : ((bt a1 x5_1) != a0) = false := bne_eq_false_iff_eq.mpr c6
            clear c6
            obtain rfl := Option.some.inj H
            have p5 : 0 ≤ (x5_1 : Int) := of_decide_eq_true (by first | (with_reducible assumption) | assumption)
            have q5 : x5_1 < (a1.size : Int) := of_decide_eq_true (by first | (with_reducible assumption) | assumption)
            have hx5 := bt_at a1 x5_1
            replace p5 := eq_true p5
            replace q5 := eq_true q5
            go_wp2
            go_ret
            exact ⟨by first | rfl | (simp; done) | (simp [*]; done), by repeat (first | exact Drawn0.refl _ | apply Drawn0.step)⟩
          · rw [if_neg c6] at H
            have c6b0 : ((bt a1 x5_1) == a0) = false := beq_eq_false_iff_ne.mpr c6
            have c6b1 : ((bt a1 x5_1) != a0) = true := bne_iff_ne.mpr c6
            have H' := Aside0.mk H
            clear H
            have p5 : 0 ≤ (x5_1 : Int) := of_decide_eq_true (by first | (with_reducible assumption) | assumption)
            have q5 : x5_1 < (a1.size : Int) := of_decide_eq_true (by first | (with_reducible assumption) | assumption)
            have hx5 := bt_at a1 x5_1
            replace p5 := eq_true p5
            replace q5 := eq_true q5
            go_wp2
            go_roundg k1
            case measure => have := HK1.out; omega
            case rel => exact ⟨(wrap64 (x5_1 + 1)), (by first | rfl | (simp; done) | (simp [*]; done)), H', ⟨by have := HK1.out; omega⟩, by repeat (first | exact Drawn0.refl _ | apply Drawn0.step)⟩
        · rw [if_neg c4] at H
          exact absurd H (by simp)
      · rw [if_neg c3] at H
        have c3b0 : decide (x5_1 < (a1.size : Int)) = false := decide_eq_false c3
        clear c3
        obtain rfl := Option.some.inj H
        go_wp2
        go_ret
        exact ⟨by first | rfl | (simp; done) | (simp [*]; done), by repeat (first | exact Drawn0.refl _ | apply Drawn0.step)⟩

end Go.Proofs.Ytbjfcnhaedhbaaa.ZA

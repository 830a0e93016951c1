/- My own print (tools/mp.py). -/
import Derived.Test.YtiihgddpejmehaaZA0
import Derived.Test.YtiihgddpejmehaaZA2
namespace Go.Proofs.Ytiihgddpejmehaa.ZA
open Go.RowKit Go.Proofs.YtiihgddpejmehaaW.PrintWords Go.Proofs.YtiihgddpejmehaaW.PrintLast Go.Proofs.YtiihgddpejmehaaW.PrintMore
attribute [local go_sem] max2_int min2_int max_two min_two max_three min_three max_four min_four   -- for this text's walks alone
set_option linter.unusedVariables false
set_option linter.unusedSimpArgs false

/-! ### rfc_Split: function 10 -/
mutual
def rfc_Split.j0 : Nat → ByteArray → ByteArray → ByteArray → ByteArray → ByteArray → Bool → Bool → Bool → Bool → Bool → Option (ByteArray × ByteArray × ByteArray × ByteArray × ByteArray × Bool × Bool × Bool × Bool)
 | 0, _, _, _, _, _, _, _, _, _, _ => none
 | k + 1, x0, x2, x3, x8, x9, x22, x111000, x111001, x111002, x111003 => if x22 = true then (if 1 ≤ (x9.size : Int) then (rfc_Split.j1 k (x9.extract 1 x9.size) x8 x3 true x111001 x111002 x111003) else (none)) else (rfc_Split.j1 k x0 x2 x3 x111000 x111001 x111002 x111003)
def rfc_Split.j1 : Nat → ByteArray → ByteArray → ByteArray → Bool → Bool → Bool → Bool → Option (ByteArray × ByteArray × ByteArray × ByteArray × ByteArray × Bool × Bool × Bool × Bool)
 | 0, _, _, _, _, _, _, _ => none
 | k + 1, x0, x2, x3, x111000, x111001, x111002, x111003 => (strings_CutPrefix.f x0 (⟨#[47, 47]⟩ : ByteArray)).bind fun bt114 => (if bt114.2 = true then ((rfc_upTo.f bt114.1 (⟨#[47, 63, 35]⟩ : ByteArray)).bind fun bt116 => ((strings_Cut.f bt116.2 (⟨#[35]⟩ : ByteArray)).bind fun bt118 => ((strings_Cut.f bt118.1 (⟨#[63]⟩ : ByteArray)).bind fun bt121 => (some (x2, bt116.1, bt121.1, bt121.2.1, bt118.2.1, x111000, true, bt121.2.2, bt118.2.2))))) else ((strings_Cut.f x0 (⟨#[35]⟩ : ByteArray)).bind fun bt124 => ((strings_Cut.f bt124.1 (⟨#[63]⟩ : ByteArray)).bind fun bt127 => (some (x2, x3, bt127.1, bt127.2.1, bt124.2.1, x111000, x111001, bt127.2.2, bt124.2.2)))))
end
def rfc_Split.f (k : Nat) (a0 : ByteArray) : Option (ByteArray × ByteArray × ByteArray × ByteArray × ByteArray × Bool × Bool × Bool × Bool) := (rfc_upTo.f a0 (⟨#[58, 47, 63, 35]⟩ : ByteArray)).bind fun bt111 => (if bt111.1.toList = ([] : List UInt8) then (rfc_Split.j0 k a0 (⟨#[]⟩ : ByteArray) (⟨#[]⟩ : ByteArray) bt111.1 bt111.2 false false false false false) else ((strings_HasPrefix.f bt111.2 (⟨#[58]⟩ : ByteArray)).bind fun t113 => (rfc_Split.j0 k a0 (⟨#[]⟩ : ByteArray) (⟨#[]⟩ : ByteArray) bt111.1 bt111.2 t113 false false false false)))
theorem rfc_Split.mono_l : ∀ k, (∀ y0 y1 y2 y3 y4 y5 y6 y7 y8 y9, LeO (rfc_Split.j0 k y0 y1 y2 y3 y4 y5 y6 y7 y8 y9) (rfc_Split.j0 (k + 1) y0 y1 y2 y3 y4 y5 y6 y7 y8 y9)) ∧ (∀ y0 y1 y2 y3 y4 y5 y6, LeO (rfc_Split.j1 k y0 y1 y2 y3 y4 y5 y6) (rfc_Split.j1 (k + 1) y0 y1 y2 y3 y4 y5 y6))
 | 0 => ⟨fun _ _ _ _ _ _ _ _ _ _ r h => by simp [rfc_Split.j0] at h, fun _ _ _ _ _ _ _ r h => by simp [rfc_Split.j1] at h⟩
 | k + 1 => by
  obtain ⟨ih0, ih1⟩ := rfc_Split.mono_l k
  refine ⟨?_, ?_⟩
  ·intro y0 y1 y2 y3 y4 y5 y6 y7 y8 y9
   unfold rfc_Split.j0
   repeat' first
   | (with_reducible exact ih0 _ _ _ _ _ _ _ _ _ _)
   | (with_reducible exact ih1 _ _ _ _ _ _ _)
   | (with_reducible exact LeO.refl _)
   | (with_reducible exact LeO.none _)
   | (with_reducible refine LeO.ite ?_ ?_)
   | (with_reducible refine LeO.bind ?_ (fun _ => ?_))
   | exact ih0 _ _ _ _ _ _ _ _ _ _
   | exact ih1 _ _ _ _ _ _ _
   | exact LeO.none _
   | refine LeO.ite ?_ ?_
   | refine LeO.bind ?_ (fun _ => ?_)
  ·intro y0 y1 y2 y3 y4 y5 y6
   unfold rfc_Split.j1
   repeat' first
   | (with_reducible exact ih0 _ _ _ _ _ _ _ _ _ _)
   | (with_reducible exact ih1 _ _ _ _ _ _ _)
   | (with_reducible exact LeO.refl _)
   | (with_reducible exact LeO.none _)
   | (with_reducible refine LeO.ite ?_ ?_)
   | (with_reducible refine LeO.bind ?_ (fun _ => ?_))
   | exact ih0 _ _ _ _ _ _ _ _ _ _
   | exact ih1 _ _ _ _ _ _ _
   | exact LeO.none _
   | refine LeO.ite ?_ ?_
   | refine LeO.bind ?_ (fun _ => ?_)
theorem rfc_Split.mono : ∀ a0 k, LeO (rfc_Split.f k a0) (rfc_Split.f (k + 1) a0) := by
 intro a0 k
 obtain ⟨ih0, ih1⟩ := rfc_Split.mono_l k
 unfold rfc_Split.f
 repeat' first
   | (with_reducible exact ih0 _ _ _ _ _ _ _ _ _ _)
   | (with_reducible exact ih1 _ _ _ _ _ _ _)
   | (with_reducible exact LeO.refl _)
   | (with_reducible exact LeO.none _)
   | (with_reducible refine LeO.ite ?_ ?_)
   | (with_reducible refine LeO.bind ?_ (fun _ => ?_))
   | exact ih0 _ _ _ _ _ _ _ _ _ _
   | exact ih1 _ _ _ _ _ _ _
   | exact LeO.none _
   | refine LeO.ite ?_ ?_
   | refine LeO.bind ?_ (fun _ => ?_)
def rfc_Split.T10 : Bool × List (List Nat × List Nat) := (true, [([], []), ([], []), ([], []), ([], []), ([], []), ([], []), ([0, 0], [0]), ([1, 6, 0, 1, 6], [1]), ([2, 7, 0, 1, 2, 6, 7], [2]), ([3, 8, 0, 1, 2, 3, 6, 7, 8], [3]), ([4, 9, 0, 1, 2, 3, 4, 6, 7, 8, 9], [4]), ([5, 10, 0, 1, 2, 3, 4, 5, 6, 7, 8, 9, 10], [5])])
def rfc_Split.B10 : List Nat := [0, 0, 0, 0, 0, 0, 1, 67, 199, 463, 991, 2047]
theorem rfc_Split.tab10 : rtab .any (opsOf Try.f10 10) = rfc_Split.T10 := by kernel_rfl
theorem rfc_Split.bits10 : waitsOk rfc_Split.T10.2 rfc_Split.B10 = true := by kernel_rfl
set_option maxHeartbeats 8000000 in
set_option maxRecDepth 100000 in
theorem rfc_Split.calls (k : Nat) (a0 : ByteArray) (r1 : ByteArray) (r2 : ByteArray) (r3 : ByteArray) (r4 : ByteArray) (r5 : ByteArray) (r6 : Bool) (r7 : Bool) (r8 : Bool) (r9 : Bool) (w : World) (h : rfc_Split.f k a0 = some (r1, r2, r3, r4, r5, r6, r7, r8, r9)) :
  Calls Try.prog 10 #[.string a0] w fun e w' => e = .returned (.tuple #[.string r1, .string r2, .string r3, .string r4, .string r5, .agg #[.bool r6, .bool r7, .bool r8, .bool r9]]) ∧ Below w.heap.size w w' := by
 have hu28 := Try.underlying28
 have HB := Aside0.mk (Below.refl w.heap.size w)
 have H : ((rfc_upTo.f a0 (⟨#[58, 47, 63, 35]⟩ : ByteArray)).bind fun bt111 => (if bt111.1.toList = ([] : List UInt8) then (rfc_Split.j0 k a0 (⟨#[]⟩ : ByteArray) (⟨#[]⟩ : ByteArray) bt111.1 bt111.2 false false false false false) else ((strings_HasPrefix.f bt111.2 (⟨#[58]⟩ : ByteArray)).bind fun t113 => (rfc_Split.j0 k a0 (⟨#[]⟩ : ByteArray) (⟨#[]⟩ : ByteArray) bt111.1 bt111.2 t113 false false false false)))) = some (r1, r2, r3, r4, r5, r6, r7, r8, r9) := h
 clear h
 replace H := Option.bind_eq_some_iff.mp H
 obtain ⟨⟨t111, t112⟩, A20, H⟩ := H
 replace H : (if t111.toList = ([] : List UInt8) then (rfc_Split.j0 k a0 (⟨#[]⟩ : ByteArray) (⟨#[]⟩ : ByteArray) t111 t112 false false false false false) else ((strings_HasPrefix.f t112 (⟨#[58]⟩ : ByteArray)).bind fun t113 => (rfc_Split.j0 k a0 (⟨#[]⟩ : ByteArray) (⟨#[]⟩ : ByteArray) t111 t112 t113 false false false false))) = some (r1, r2, r3, r4, r5, r6, r7, r8, r9) := H
 have A2 := Aside0.mk A20
 clear A20
 have HC3 := Aside0.mk H
 clear H
 go_enter Try.func10, Try.ntmps10
 go_upto_region 2 with (first | ((with_reducible refine gate_dst (N := 7) rfl ?_); refine box_event ?hg (N := 7) ?hd (cs := #[.bool false, .bool false, .bool false, .bool false]) (t := 28) ?hr ?_; (case hd => rfl); (case hg => rfl); (case hr => first | (go_simp; done) | (go_simp; rfl)); intro gb110 hg w4 hbox hb; have n0_ := Aside0.mk (below_step (by repeat (first | (with_reducible first | exact HB.out | apply below_alloc | apply pw_below_drewN | apply below_drew1) | exact HB.out)) hb); have n1_ := Aside0.mk (hbox); have n2_ := Aside0.mk ((by rw [hg]; exact (below_size (by repeat (first | (with_reducible first | exact HB.out | apply below_alloc | apply pw_below_drewN | apply below_drew1) | exact HB.out))) : w.heap.size ≤ gb110)); have n3_ := Aside0.mk ((by rw [hg]; exact (below_size (by repeat (first | (with_reducible first | exact HB.out | apply below_alloc | apply pw_below_drewN | apply below_drew1) | exact HB.out))) : w.heap.size ≤ gb110)); clear HB; have HB := n0_; have BK110 := n1_; have GW110 := n2_; have GE110 := n3_; clear n0_ n1_ n2_ n3_; clear hb hbox hg) | ((with_reducible refine gate_callee (f := 23) rfl ?_); refine goesL_ (some 14) rfl rfl Try.func23 (by kernel_rfl) rfl #[.string a0, .string (⟨#[58, 47, 63, 35]⟩ : ByteArray)] rfl (by (try simp only [List.map_toArray, List.map_cons, List.map_nil]); first | done | rfl | (simp only [List.length_drop, List.length_take]; rfl)) ?_; (with_reducible refine (rfc_upTo.calls a0 (⟨#[58, 47, 63, 35]⟩ : ByteArray) t111 t112 _ A2.out).mono ?_); rintro e w5 ⟨rfl, hb⟩; refine ⟨_, rfl, ?_⟩; have n0_ := Aside0.mk (blk_below (g := gb110) (o := .cells #[.bool false, .bool false, .bool false, .bool false] 28 (0, 0)) (by (with_reducible repeat (first | refine blk_drewN ?_ _ | refine blk_drew ?_ | refine blk_alloc ?_ _)); exact BK110.out) hb); have n1_ := Aside0.mk (below_step (by repeat (first | (with_reducible first | exact HB.out | apply below_alloc | apply pw_below_drewN | apply below_drew1 | refine below_set ?_ GE110.out) | exact HB.out)) hb); clear BK110; clear HB; have BK110 := n0_; have HB := n1_; clear n0_ n1_; (try clear hb); (try clear hb2); (try clear hk); (try clear hi)))
 (try simp only [Act.put, List.setIfInBounds_toArray, List.set_cons_zero, List.set_cons_succ])
 go_cut [22] (fun v22 wc => ∃ (kq : Nat) (x22_2 : Bool), v22 = .bool x22_2 ∧ Aside0 (rfc_Split.j0 kq a0 (⟨#[]⟩ : ByteArray) (⟨#[]⟩ : ByteArray) t111 t112 x22_2 false false false false = some (r1, r2, r3, r4, r5, r6, r7, r8, r9)) ∧ Aside0 (kq ≤ k) ∧ Aside0 (wc.heap[gb110]? = some (.cells #[.bool false, .bool false, .bool false, .bool false] 28 (0, 0))) ∧ Aside0 (Below w.heap.size w wc))
 case first =>
  have H := HC3.out
  clear HC3
  by_cases c6 : t111.toList = ([] : List UInt8)
  ·rw [if_pos c6] at H
   have c6b0 : (t111.toList == ([] : List UInt8)) = true := beq_iff_eq.mpr c6
   have c6b1 : (t111.toList != ([] : List UInt8)) = false := bne_eq_false_iff_eq.mpr c6
   clear c6
   (first | rw [c6b0] | (simp only [i64_w, i32_w]; rw [c6b0]) | skip)
   have H' := Aside0.mk H
   clear H
   go_wp2
   go_meet
   case rel => exact ⟨_, (false), (by first | rfl | (simp; done) | (simp [*]; done)), H', ⟨by first | omega | exact Nat.le_refl _⟩, ⟨by (with_reducible repeat (first | refine blk_drewN ?_ _ | refine blk_drew ?_ | refine blk_alloc ?_ _)); exact BK110.out⟩, ⟨by repeat (first | (with_reducible first | exact HB.out | apply below_alloc | apply pw_below_drewN | apply below_drew1 | refine below_set ?_ GE110.out) | exact HB.out)⟩⟩
  ·rw [if_neg c6] at H
   have c6b0 : (t111.toList == ([] : List UInt8)) = false := beq_eq_false_iff_ne.mpr c6
   have c6b1 : (t111.toList != ([] : List UInt8)) = true := bne_iff_ne.mpr c6
   (first | rw [c6b0] | (simp only [i64_w, i32_w]; rw [c6b0]) | skip)
   replace H := Option.bind_eq_some_iff.mp H
   obtain ⟨t113, A70, H⟩ := H
   replace H : (rfc_Split.j0 k a0 (⟨#[]⟩ : ByteArray) (⟨#[]⟩ : ByteArray) t111 t112 t113 false false false false) = some (r1, r2, r3, r4, r5, r6, r7, r8, r9) := H
   have A7 := Aside0.mk A70
   clear A70
   have H' := Aside0.mk H
   clear H
   go_wp2_with (first | (go_at_call 26; (with_reducible refine (strings_HasPrefix.calls t112 (⟨#[58]⟩ : ByteArray) t113 _ A7.out).mono ?_); rintro e w' ⟨rfl, ⟨nd, rfl⟩⟩))
   go_meet
   case rel => exact ⟨_, (t113), (by first | rfl | (simp; done) | (simp [*]; done)), H', ⟨by first | omega | exact Nat.le_refl _⟩, ⟨by (with_reducible repeat (first | refine blk_drewN ?_ _ | refine blk_drew ?_ | refine blk_alloc ?_ _)); exact BK110.out⟩, ⟨by repeat (first | (with_reducible first | exact HB.out | apply below_alloc | apply pw_below_drewN | apply below_drew1 | refine below_set ?_ GE110.out) | exact HB.out)⟩⟩
 case rest =>
  clear HC3
  try clear c1
  try clear c2
  try clear p2
  try clear c6
  try clear c6b0
  try clear c6b1
  obtain ⟨kq, x22_2, rfl, HA, HJ2, BK110, HB⟩ := hcut
  cases kq with
  | zero => exact absurd HA.out (by simp [rfc_Split.j0])
  | succ kj2 =>
   have H := HA.out
   clear HA
   simp only [rfc_Split.j0] at H
   have HC8 := Aside0.mk H
   clear H
   go_upto_if 22 with (fail)
   go_cut [0, 2] (fun v0 v2 wc => ∃ (kq : Nat) (x0_7 : ByteArray) (x2_7 : ByteArray) (x111000_7 : Bool), v0 = .string x0_7 ∧ v2 = .string x2_7 ∧ Aside0 (rfc_Split.j1 kq x0_7 x2_7 (⟨#[]⟩ : ByteArray) x111000_7 false false false = some (r1, r2, r3, r4, r5, r6, r7, r8, r9)) ∧ Aside0 (kq ≤ kj2) ∧ Aside0 (wc.heap[gb110]? = some (.cells #[.bool x111000_7, .bool false, .bool false, .bool false] 28 (0, 0))) ∧ Aside0 (Below w.heap.size w wc))
   case first =>
    have H := HC8.out
    clear HC8
    by_cases c9 : x22_2 = true
    ·subst c9
     have H1 : (if 1 ≤ (t112.size : Int) then (rfc_Split.j1 kj2 (t112.extract 1 t112.size) t111 (⟨#[]⟩ : ByteArray) true false false false) else (none)) = some (r1, r2, r3, r4, r5, r6, r7, r8, r9) := by rw [if_pos rfl] at H; exact H
     clear H
     have H := H1
     clear H1
     by_cases c10 : 1 ≤ (t112.size : Int)
     ·rw [if_pos c10] at H
      have c10b0 := eq_true c10
      have c10b1 : decide (1 ≤ (t112.size : Int)) = true := decide_eq_true c10
      clear c10
      have H' := Aside0.mk H
      clear H
      try go_wp2
      have n0_ := Aside0.mk (blk_drew BK110.out)
      have n1_ := Aside0.mk (below_drew1 HB.out)
      clear BK110
      clear HB
      have BK110 := n0_
      have HB := n1_
      clear n0_ n1_
      refine start_ (n := 7) (S := fun w' => True) (ds := []) #[false, false, false, false, false, false, false] (by kernel_rfl) rfl rfl trivial (fun hHeld => ?_)
      generalize wc.drew = w11 at BK110 HB hHeld ⊢
      refine pure_ (i := 0) (N := some 23) (v := ?_) (a' := ?_) #[true, false, false, false, false, false, false] rfl rfl (by kernel_rfl) (fun _ _ _ h => h) (Or.inl ⟨by rfl, ?_⟩) ?_ ?_
      rotate_left
      ·intro w'
       go_simp
       with_reducible rfl
      rotate_left
      ·simp only [Act.put, List.setIfInBounds_toArray, List.set_cons_zero, List.set_cons_succ, i64_w, i32_w]
       rfl
      refine pure_ (i := 1) (N := some 24) (v := ?_) (a' := ?_) #[true, true, false, false, false, false, false] rfl rfl (by kernel_rfl) (fun _ _ _ h => h) (Or.inl ⟨by rfl, ?_⟩) ?_ ?_
      rotate_left
      ·intro w'
       go_simp
       with_reducible rfl
      rotate_left
      ·simp only [Act.put, List.setIfInBounds_toArray, List.set_cons_zero, List.set_cons_succ, i64_w, i32_w]
       rfl
      refine pure_ (i := 2) (N := some 25) (v := ?_) (a' := ?_) #[true, true, true, false, false, false, false] rfl rfl (by kernel_rfl) (fun _ _ _ h => h) (Or.inl ⟨by rfl, ?_⟩) ?_ ?_
      rotate_left
      ·intro w'
       go_simp
       with_reducible rfl
      rotate_left
      ·simp only [Act.put, List.setIfInBounds_toArray, List.set_cons_zero, List.set_cons_succ, i64_w, i32_w]
       rfl
      refine pure_ (i := 3) (N := some 2) (v := ?_) (a' := ?_) #[true, true, true, true, false, false, false] rfl rfl (by kernel_rfl) (fun _ _ _ h => h) (Or.inl ⟨by rfl, ?_⟩) ?_ ?_
      rotate_left
      ·intro w'
       go_simp
       with_reducible rfl
      rotate_left
      ·simp only [Act.put, List.setIfInBounds_toArray, List.set_cons_zero, List.set_cons_succ, i64_w, i32_w]
       rfl
      refine pure_ (i := 4) (N := some 0) (v := ?_) (a' := ?_) #[true, true, true, true, true, false, false] rfl rfl (by kernel_rfl) (fun _ _ _ h => h) (Or.inl ⟨by rfl, ?_⟩) ?_ ?_
      rotate_left
      ·intro w'
       go_simp
       with_reducible rfl
      rotate_left
      ·simp only [Act.put, List.setIfInBounds_toArray, List.set_cons_zero, List.set_cons_succ, i64_w, i32_w]
       rfl
      refine pure_ (i := 5) (N := some 26) (v := ?_) (a' := ?_) #[true, true, true, true, true, true, false] rfl rfl (by kernel_rfl) (fun _ _ _ h => h) (Or.inl ⟨by rfl, ?_⟩) ?_ ?_
      rotate_left
      ·intro w'
       go_simp
       with_reducible rfl
      rotate_left
      ·simp only [Act.put, List.setIfInBounds_toArray, List.set_cons_zero, List.set_cons_succ, i64_w, i32_w]
       rfl
      refine one_ (i := 6) (N := none) #[true, true, true, true, true, true, true] rfl rfl (by kernel_rfl) (by decide) (fun K hK => ?_)
      have hs12 : w11.cell? ⟨gb110, 0, none⟩ = some (.bool false) := (blk_cell BK110.out 0).trans rfl
      have hfs12 := blk_frozen BK110.out 0
      refine skip_ (w1 := ?_) (by rfl) rfl ?_ ?_
      rotate_left
      ·go_simp
       rfl
      refine hK.out _ _ trivial (fun hHeld => ?_)
      clear hK K
      refine done_ (by kernel_rfl) ?_
      try go_wp2
      go_meet
      case rel => exact ⟨_, (t112.extract 1 t112.size), (t111), (true), (by first | rfl | (simp; done) | (simp [*]; done)), (by first | rfl | (simp; done) | (simp [*]; done)), H', ⟨by have := HJ2.out; first | omega | exact Nat.le_refl _⟩, ⟨by (with_reducible repeat (first | refine blk_drewN ?_ _ | refine blk_drew ?_ | refine blk_alloc ?_ _)); refine blk_put (cs := #[.bool false, .bool false, .bool false, .bool false]) ?_ 0 _ rfl; (with_reducible repeat (first | refine blk_drewN ?_ _ | refine blk_drew ?_ | refine blk_alloc ?_ _)); exact BK110.out⟩, ⟨by repeat (first | (with_reducible first | exact HB.out | apply below_alloc | apply pw_below_drewN | apply below_drew1 | refine below_set ?_ GE110.out) | exact HB.out)⟩⟩
     ·rw [if_neg c10] at H
      exact absurd H (by simp)
    ·replace c9 := Bool.eq_false_iff.mpr c9
     subst c9
     have H1 : (rfc_Split.j1 kj2 a0 (⟨#[]⟩ : ByteArray) (⟨#[]⟩ : ByteArray) false false false false) = some (r1, r2, r3, r4, r5, r6, r7, r8, r9) := by rw [if_neg (show ¬ (false = true) by decide)] at H; exact H
     clear H
     have H := H1
     clear H1
     have H' := Aside0.mk H
     clear H
     go_wp2
     go_meet
     case rel => exact ⟨_, (a0), ((⟨#[]⟩ : ByteArray)), (false), (by first | rfl | (simp; done) | (simp [*]; done)), (by first | rfl | (simp; done) | (simp [*]; done)), H', ⟨by have := HJ2.out; first | omega | exact Nat.le_refl _⟩, ⟨by (with_reducible repeat (first | refine blk_drewN ?_ _ | refine blk_drew ?_ | refine blk_alloc ?_ _)); exact BK110.out⟩, ⟨by repeat (first | (with_reducible first | exact HB.out | apply below_alloc | apply pw_below_drewN | apply below_drew1 | refine below_set ?_ GE110.out) | exact HB.out)⟩⟩
   case rest =>
    clear HC8
    try clear c1
    try clear c2
    try clear p2
    try clear c6
    try clear c6b0
    try clear c6b1
    try clear c9
    try clear c10
    try clear c10b0
    try clear c10b1
    try clear p2
    obtain ⟨kq, x0_7, x2_7, x111000_7, rfl, rfl, HA, HJ7, BK110, HB⟩ := hcut
    cases kq with
    | zero => exact absurd HA.out (by simp [rfc_Split.j1])
    | succ kj7 =>
     have H := HA.out
     clear HA
     simp only [rfc_Split.j1] at H
     replace H := Option.bind_eq_some_iff.mp H
     obtain ⟨⟨t114, t115⟩, A130, H⟩ := H
     replace H : (if t115 = true then ((rfc_upTo.f t114 (⟨#[47, 63, 35]⟩ : ByteArray)).bind fun bt116 => ((strings_Cut.f bt116.2 (⟨#[35]⟩ : ByteArray)).bind fun bt118 => ((strings_Cut.f bt118.1 (⟨#[63]⟩ : ByteArray)).bind fun bt121 => (some (x2_7, bt116.1, bt121.1, bt121.2.1, bt118.2.1, x111000_7, true, bt121.2.2, bt118.2.2))))) else ((strings_Cut.f x0_7 (⟨#[35]⟩ : ByteArray)).bind fun bt124 => ((strings_Cut.f bt124.1 (⟨#[63]⟩ : ByteArray)).bind fun bt127 => (some (x2_7, (⟨#[]⟩ : ByteArray), bt127.1, bt127.2.1, bt124.2.1, x111000_7, false, bt127.2.2, bt124.2.2))))) = some (r1, r2, r3, r4, r5, r6, r7, r8, r9) := H
     have A13 := Aside0.mk A130
     clear A130
     by_cases c14 : t115 = true
     ·subst c14
      have H1 : ((rfc_upTo.f t114 (⟨#[47, 63, 35]⟩ : ByteArray)).bind fun bt116 => ((strings_Cut.f bt116.2 (⟨#[35]⟩ : ByteArray)).bind fun bt118 => ((strings_Cut.f bt118.1 (⟨#[63]⟩ : ByteArray)).bind fun bt121 => (some (x2_7, bt116.1, bt121.1, bt121.2.1, bt118.2.1, x111000_7, true, bt121.2.2, bt118.2.2))))) = some (r1, r2, r3, r4, r5, r6, r7, r8, r9) := by rw [if_pos rfl] at H; exact H
      clear H
      have H := H1
      clear H1
      replace H := Option.bind_eq_some_iff.mp H
      obtain ⟨⟨t116, t117⟩, A150, H⟩ := H
      replace H : ((strings_Cut.f t117 (⟨#[35]⟩ : ByteArray)).bind fun bt118 => ((strings_Cut.f bt118.1 (⟨#[63]⟩ : ByteArray)).bind fun bt121 => (some (x2_7, t116, bt121.1, bt121.2.1, bt118.2.1, x111000_7, true, bt121.2.2, bt118.2.2)))) = some (r1, r2, r3, r4, r5, r6, r7, r8, r9) := H
      have A15 := Aside0.mk A150
      clear A150
      replace H := Option.bind_eq_some_iff.mp H
      obtain ⟨⟨t118, t119, t120⟩, A160, H⟩ := H
      replace H : ((strings_Cut.f t118 (⟨#[63]⟩ : ByteArray)).bind fun bt121 => (some (x2_7, t116, bt121.1, bt121.2.1, t119, x111000_7, true, bt121.2.2, t120))) = some (r1, r2, r3, r4, r5, r6, r7, r8, r9) := H
      have A16 := Aside0.mk A160
      clear A160
      replace H := Option.bind_eq_some_iff.mp H
      obtain ⟨⟨t121, t122, t123⟩, A170, H⟩ := H
      replace H : (some (x2_7, t116, t121, t122, t119, x111000_7, true, t123, t120)) = some (r1, r2, r3, r4, r5, r6, r7, r8, r9) := H
      have A17 := Aside0.mk A170
      clear A170
      simp only [Option.some.injEq, Prod.mk.injEq] at H
      obtain ⟨rfl, rfl, rfl, rfl, rfl, rfl, rfl, rfl, rfl⟩ := H
      try go_wp2_with (first | ((with_reducible refine gate_callee (f := 27) rfl ?_); refine goesL_ (some 29) rfl rfl Try.func27 (by kernel_rfl) rfl #[.string x0_7, .string (⟨#[47, 47]⟩ : ByteArray)] rfl (by (try simp only [List.map_toArray, List.map_cons, List.map_nil]); first | done | rfl | (simp only [List.length_drop, List.length_take]; rfl)) ?_; (with_reducible refine (strings_CutPrefix.calls x0_7 (⟨#[47, 47]⟩ : ByteArray) t114 true _ A13.out).mono ?_); rintro e w' ⟨rfl, ⟨nd, rfl⟩⟩; refine ⟨_, rfl, ?_⟩; (try (rw [drewN_self wc]; generalize hq_ : World.drewN wc _ = wc; have n0_ : Aside0 (wc.heap[gb110]? = some (.cells #[.bool x111000_7, .bool false, .bool false, .bool false] 28 (0, 0))) := ⟨by rw [← hq_]; exact (by (with_reducible repeat (first | refine blk_drewN ?_ _ | refine blk_drew ?_ | refine blk_alloc ?_ _)); exact BK110.out)⟩; have n1_ : Aside0 (Below w.heap.size w wc) := ⟨by rw [← hq_]; exact (by repeat (first | (with_reducible first | exact HB.out | apply below_alloc | apply pw_below_drewN | apply below_drew1 | refine below_set ?_ GE110.out) | exact HB.out))⟩; clear BK110 HB hq_; have BK110 := n0_; have HB := n1_; clear n0_ n1_)); have hcz18_0 : wc.cell? ⟨gb110, 0, none⟩ = some (.bool x111000_7) := (blk_cell BK110.out 0).trans rfl; have hcz18_1 : wc.cell? ⟨gb110, 1, none⟩ = some (.bool false) := (blk_cell BK110.out 1).trans rfl; have hcz18_2 : wc.cell? ⟨gb110, 2, none⟩ = some (.bool false) := (blk_cell BK110.out 2).trans rfl; have hcz18_3 : wc.cell? ⟨gb110, 3, none⟩ = some (.bool false) := (blk_cell BK110.out 3).trans rfl; have hfz18_0 := blk_frozen BK110.out 0; have hfz18_1 := blk_frozen BK110.out 1; have hfz18_2 := blk_frozen BK110.out 2; have hfz18_3 := blk_frozen BK110.out 3) | ((with_reducible refine gate_callee (f := 23) rfl ?_); refine goesL_ (some 36) rfl rfl Try.func23 (by kernel_rfl) rfl #[.string t114, .string (⟨#[47, 63, 35]⟩ : ByteArray)] rfl (by (try simp only [List.map_toArray, List.map_cons, List.map_nil]); first | done | rfl | (simp only [List.length_drop, List.length_take]; rfl)) ?_; (with_reducible refine (rfc_upTo.calls t114 (⟨#[47, 63, 35]⟩ : ByteArray) t116 t117 _ A15.out).mono ?_); rintro e w19 ⟨rfl, hb⟩; refine ⟨_, rfl, ?_⟩; have n0_ := Aside0.mk (blk_below (g := gb110) (o := .cells #[.bool x111000_7, .bool true, .bool false, .bool false] 28 (0, 0)) (by (with_reducible repeat (first | refine blk_drewN ?_ _ | refine blk_drew ?_ | refine blk_alloc ?_ _)); refine blk_put (cs := #[.bool x111000_7, .bool false, .bool false, .bool false]) ?_ 1 _ rfl; (with_reducible repeat (first | refine blk_drewN ?_ _ | refine blk_drew ?_ | refine blk_alloc ?_ _)); exact BK110.out) hb); have n1_ := Aside0.mk (below_step (by repeat (first | (with_reducible first | exact HB.out | apply below_alloc | apply pw_below_drewN | apply below_drew1 | refine below_set ?_ GE110.out) | exact HB.out)) hb); clear BK110; clear HB; have BK110 := n0_; have HB := n1_; clear n0_ n1_; (try clear hb); (try clear hb2); (try clear hk); (try clear hi)) | ((with_reducible refine gate_callee (f := 28) rfl ?_); refine goesL_ (some 41) rfl rfl Try.func28 (by kernel_rfl) rfl #[.string t117, .string (⟨#[35]⟩ : ByteArray)] rfl (by (try simp only [List.map_toArray, List.map_cons, List.map_nil]); first | done | rfl | (simp only [List.length_drop, List.length_take]; rfl)) ?_; (with_reducible refine (strings_Cut.calls t117 (⟨#[35]⟩ : ByteArray) t118 t119 t120 _ A16.out).mono ?_); rintro e w20 ⟨rfl, hb⟩; refine ⟨_, rfl, ?_⟩; have n0_ := Aside0.mk (blk_below (g := gb110) (o := .cells #[.bool x111000_7, .bool true, .bool false, .bool false] 28 (0, 0)) (by (with_reducible repeat (first | refine blk_drewN ?_ _ | refine blk_drew ?_ | refine blk_alloc ?_ _)); exact BK110.out) hb); have n1_ := Aside0.mk (below_step (by repeat (first | (with_reducible first | exact HB.out | apply below_alloc | apply pw_below_drewN | apply below_drew1 | refine below_set ?_ GE110.out) | exact HB.out)) hb); clear BK110; clear HB; have BK110 := n0_; have HB := n1_; clear n0_ n1_; (try clear hb); (try clear hb2); (try clear hk); (try clear hi); have hcz21_0 : w20.cell? ⟨gb110, 0, none⟩ = some (.bool x111000_7) := (blk_cell BK110.out 0).trans rfl; have hcz21_1 : w20.cell? ⟨gb110, 1, none⟩ = some (.bool true) := (blk_cell BK110.out 1).trans rfl; have hcz21_2 : w20.cell? ⟨gb110, 2, none⟩ = some (.bool false) := (blk_cell BK110.out 2).trans rfl; have hcz21_3 : w20.cell? ⟨gb110, 3, none⟩ = some (.bool false) := (blk_cell BK110.out 3).trans rfl; have hfz21_0 := blk_frozen BK110.out 0; have hfz21_1 := blk_frozen BK110.out 1; have hfz21_2 := blk_frozen BK110.out 2; have hfz21_3 := blk_frozen BK110.out 3) | ((with_reducible refine gate_callee (f := 28) rfl ?_); refine goesL_ (some 48) rfl rfl Try.func28 (by kernel_rfl) rfl #[.string t118, .string (⟨#[63]⟩ : ByteArray)] rfl (by (try simp only [List.map_toArray, List.map_cons, List.map_nil]); first | done | rfl | (simp only [List.length_drop, List.length_take]; rfl)) ?_; (with_reducible refine (strings_Cut.calls t118 (⟨#[63]⟩ : ByteArray) t121 t122 t123 _ A17.out).mono ?_); rintro e w22 ⟨rfl, hb⟩; refine ⟨_, rfl, ?_⟩; have n0_ := Aside0.mk (blk_below (g := gb110) (o := .cells #[.bool x111000_7, .bool true, .bool false, .bool t120] 28 (0, 0)) (by (with_reducible repeat (first | refine blk_drewN ?_ _ | refine blk_drew ?_ | refine blk_alloc ?_ _)); refine blk_put (cs := #[.bool x111000_7, .bool true, .bool false, .bool false]) ?_ 3 _ rfl; (with_reducible repeat (first | refine blk_drewN ?_ _ | refine blk_drew ?_ | refine blk_alloc ?_ _)); exact BK110.out) hb); have n1_ := Aside0.mk (below_step (by repeat (first | (with_reducible first | exact HB.out | apply below_alloc | apply pw_below_drewN | apply below_drew1 | refine below_set ?_ GE110.out) | exact HB.out)) hb); clear BK110; clear HB; have BK110 := n0_; have HB := n1_; clear n0_ n1_; (try clear hb); (try clear hb2); (try clear hk); (try clear hi); have hcz23_0 : w22.cell? ⟨gb110, 0, none⟩ = some (.bool x111000_7) := (blk_cell BK110.out 0).trans rfl; have hcz23_1 : w22.cell? ⟨gb110, 1, none⟩ = some (.bool true) := (blk_cell BK110.out 1).trans rfl; have hcz23_2 : w22.cell? ⟨gb110, 2, none⟩ = some (.bool false) := (blk_cell BK110.out 2).trans rfl; have hcz23_3 : w22.cell? ⟨gb110, 3, none⟩ = some (.bool t120) := (blk_cell BK110.out 3).trans rfl; have hfz23_0 := blk_frozen BK110.out 0; have hfz23_1 := blk_frozen BK110.out 1; have hfz23_2 := blk_frozen BK110.out 2; have hfz23_3 := blk_frozen BK110.out 3))
      have n0_ : Aside0 ((w22.setCell ⟨gb110, 2, none⟩ (.bool t123)).heap[gb110]? = some (.cells #[.bool x111000_7, .bool true, .bool t123, .bool t120] 28 (0, 0))) := ⟨by (with_reducible repeat (first | refine blk_drewN ?_ _ | refine blk_drew ?_ | refine blk_alloc ?_ _)); refine blk_put (cs := #[.bool x111000_7, .bool true, .bool false, .bool t120]) ?_ 2 _ rfl; (with_reducible repeat (first | refine blk_drewN ?_ _ | refine blk_drew ?_ | refine blk_alloc ?_ _)); exact BK110.out⟩
      have n1_ : Aside0 (Below w.heap.size w (w22.setCell ⟨gb110, 2, none⟩ (.bool t123))) := ⟨by repeat (first | (with_reducible first | exact HB.out | apply below_alloc | apply pw_below_drewN | apply below_drew1 | refine below_set ?_ GE110.out) | exact HB.out)⟩
      (try clear BK110)
      (try clear HB)
      generalize (w22.setCell ⟨gb110, 2, none⟩ (.bool t123)) = w24 at n0_ n1_ ⊢
      have BK110 := n0_
      have HB := n1_
      clear n0_ n1_
      have n0_ := Aside0.mk (blk_drew BK110.out)
      have n1_ := Aside0.mk (below_drew1 HB.out)
      clear BK110
      clear HB
      have BK110 := n0_
      have HB := n1_
      clear n0_ n1_
      refine start_ (n := 12) (S := fun w' => w'.cell? ⟨gb110, 0, none⟩ = some (.bool x111000_7) ∧ w'.cell? ⟨gb110, 1, none⟩ = some (.bool true) ∧ w'.cell? ⟨gb110, 2, none⟩ = some (.bool t123) ∧ w'.cell? ⟨gb110, 3, none⟩ = some (.bool t120)) (ds := [11]) #[false, false, false, false, false, false, false, false, false, false, false, false] (by kernel_rfl) rfl rfl ⟨(blk_cell BK110.out 0).trans rfl, (blk_cell BK110.out 1).trans rfl, (blk_cell BK110.out 2).trans rfl, (blk_cell BK110.out 3).trans rfl⟩ (fun hHeld => ?_); refine with_tabW rfc_Split.tab10 rfc_Split.bits10 (fun HT_ HW_ => ?_)
      generalize w24.drew = w25 at BK110 HB hHeld ⊢
      refine pure_ (i := 0) (N := some 53) (v := ?_) (a' := ?_) #[true, false, false, false, false, false, false, false, false, false, false, false] rfl rfl (any_of HT_.out (by kernel_rfl)) (fun _ _ _ h => h) (Or.inl ⟨by rfl, ?_⟩) ?_ ?_
      rotate_left
      ·intro w'
       go_simp
       with_reducible rfl
      rotate_left
      ·simp only [Act.put, List.setIfInBounds_toArray, List.set_cons_zero, List.set_cons_succ, i64_w, i32_w]
       rfl
      refine pure_ (i := 1) (N := some 54) (v := ?_) (a' := ?_) #[true, true, false, false, false, false, false, false, false, false, false, false] rfl rfl (any_of HT_.out (by kernel_rfl)) (fun _ _ _ h => h) (Or.inl ⟨by rfl, ?_⟩) ?_ ?_
      rotate_left
      ·intro w'
       go_simp
       with_reducible rfl
      rotate_left
      ·simp only [Act.put, List.setIfInBounds_toArray, List.set_cons_zero, List.set_cons_succ, i64_w, i32_w]
       rfl
      refine pure_ (i := 2) (N := some 55) (v := ?_) (a' := ?_) #[true, true, true, false, false, false, false, false, false, false, false, false] rfl rfl (any_of HT_.out (by kernel_rfl)) (fun _ _ _ h => h) (Or.inl ⟨by rfl, ?_⟩) ?_ ?_
      rotate_left
      ·intro w'
       go_simp
       with_reducible rfl
      rotate_left
      ·simp only [Act.put, List.setIfInBounds_toArray, List.set_cons_zero, List.set_cons_succ, i64_w, i32_w]
       rfl
      refine pure_ (i := 3) (N := some 56) (v := ?_) (a' := ?_) #[true, true, true, true, false, false, false, false, false, false, false, false] rfl rfl (any_of HT_.out (by kernel_rfl)) (fun _ _ _ h => h) (Or.inl ⟨by rfl, ?_⟩) ?_ ?_
      rotate_left
      ·intro w'
       go_simp
       with_reducible rfl
      rotate_left
      ·simp only [Act.put, List.setIfInBounds_toArray, List.set_cons_zero, List.set_cons_succ, i64_w, i32_w]
       rfl
      refine pure_ (i := 4) (N := some 57) (v := ?_) (a' := ?_) #[true, true, true, true, true, false, false, false, false, false, false, false] rfl rfl (any_of HT_.out (by kernel_rfl)) (fun _ _ _ h => h) (Or.inl ⟨by rfl, ?_⟩) ?_ ?_
      rotate_left
      ·intro w'
       go_simp
       with_reducible rfl
      rotate_left
      ·simp only [Act.put, List.setIfInBounds_toArray, List.set_cons_zero, List.set_cons_succ, i64_w, i32_w]
       rfl
      refine pure_ (i := 6) (N := some 2) (v := ?_) (a' := ?_) #[true, true, true, true, true, false, true, false, false, false, false, false] rfl rfl (any_of HT_.out (by kernel_rfl)) (fun _ _ _ h => h) (Or.inl ⟨by rfl, ?_⟩) ?_ ?_
      rotate_left
      ·intro w'
       go_simp
       with_reducible rfl
      rotate_left
      ·simp only [Act.put, List.setIfInBounds_toArray, List.set_cons_zero, List.set_cons_succ, i64_w, i32_w]
       rfl
      refine pure_ (i := 7) (N := some 3) (v := ?_) (a' := ?_) #[true, true, true, true, true, false, true, true, false, false, false, false] rfl rfl (any_of HT_.out (by kernel_rfl)) (fun _ _ _ h => h) (Or.inl ⟨by rfl, ?_⟩) ?_ ?_
      rotate_left
      ·intro w'
       go_simp
       with_reducible rfl
      rotate_left
      ·simp only [Act.put, List.setIfInBounds_toArray, List.set_cons_zero, List.set_cons_succ, i64_w, i32_w]
       rfl
      refine pure_ (i := 8) (N := some 4) (v := ?_) (a' := ?_) #[true, true, true, true, true, false, true, true, true, false, false, false] rfl rfl (any_of HT_.out (by kernel_rfl)) (fun _ _ _ h => h) (Or.inl ⟨by rfl, ?_⟩) ?_ ?_
      rotate_left
      ·intro w'
       go_simp
       with_reducible rfl
      rotate_left
      ·simp only [Act.put, List.setIfInBounds_toArray, List.set_cons_zero, List.set_cons_succ, i64_w, i32_w]
       rfl
      refine pure_ (i := 9) (N := some 5) (v := ?_) (a' := ?_) #[true, true, true, true, true, false, true, true, true, true, false, false] rfl rfl (any_of HT_.out (by kernel_rfl)) (fun _ _ _ h => h) (Or.inl ⟨by rfl, ?_⟩) ?_ ?_
      rotate_left
      ·intro w'
       go_simp
       with_reducible rfl
      rotate_left
      ·simp only [Act.put, List.setIfInBounds_toArray, List.set_cons_zero, List.set_cons_succ, i64_w, i32_w]
       rfl
      refine pure_ (i := 10) (N := some 6) (v := ?_) (a' := ?_) #[true, true, true, true, true, false, true, true, true, true, true, false] rfl rfl (any_of HT_.out (by kernel_rfl)) (fun _ _ _ h => h) (Or.inl ⟨by rfl, ?_⟩) ?_ ?_
      rotate_left
      ·intro w'
       go_simp
       with_reducible rfl
      rotate_left
      ·simp only [Act.put, List.setIfInBounds_toArray, List.set_cons_zero, List.set_cons_succ, i64_w, i32_w]
       rfl
      refine take_ (i := 5) (N := some 58) (v := ?_) (a' := ?_) #[true, true, true, true, true, true, true, true, true, true, true, false] rfl rfl (take_ofW HT_.out HW_.out (by kernel_rfl)) (fun _ _ _ h => h) (Or.inl ⟨by rfl, ?_⟩) hHeld ?_ ?_
      rotate_left
      ·rintro w' ⟨s0, s1, s2, s3⟩
       go_simp
       with_reducible rfl
      rotate_left
      ·simp only [Act.put, List.setIfInBounds_toArray, List.set_cons_zero, List.set_cons_succ, i64_w, i32_w]
       rfl
      refine last_ (i := 11) (N := none) #[true, true, true, true, true, true, true, true, true, true, true, true] rfl rfl (one_of HT_.out (by kernel_rfl)) (by decide) (fun K hK => ?_)
      have hs26 : w25.cell? ⟨gb110, 0, none⟩ = some (.bool x111000_7) := (blk_cell BK110.out 0).trans rfl
      have hfs26 := blk_frozen BK110.out 0
      have hs27 : w25.cell? ⟨gb110, 1, none⟩ = some (.bool true) := (blk_cell BK110.out 1).trans rfl
      have hfs27 := blk_frozen BK110.out 1
      have hs28 : w25.cell? ⟨gb110, 2, none⟩ = some (.bool t123) := (blk_cell BK110.out 2).trans rfl
      have hfs28 := blk_frozen BK110.out 2
      have hs29 : w25.cell? ⟨gb110, 3, none⟩ = some (.bool t120) := (blk_cell BK110.out 3).trans rfl
      have hfs29 := blk_frozen BK110.out 3
      refine skip_ (w1 := ?_) (by rfl) rfl ?_ ?_
      rotate_left
      ·go_simp
       rfl
      refine hK.out _ _ ?_
      clear hK K
      refine done_ (done_of HT_.out (by kernel_rfl)) ?_
      try go_wp2
      refine bodyPost_ret (results_list (rs := [.tmp 2, .tmp 3, .tmp 4, .tmp 5, .tmp 6, .cell 7 28]) rfl (by simp) (.tmp (.tmp (.tmp (.tmp (.tmp (.cell gb110 28 #[.bool x111000_7, .bool true, .bool t123, .bool t120] (0, 0) _ rfl (by (with_reducible repeat (first | refine blk_drewN ?_ _ | refine blk_drew ?_ | refine blk_alloc ?_ _)); refine blk_put (cs := #[.bool x111000_7, .bool true, .bool t123, .bool t120]) ?_ 3 _ rfl; (with_reducible repeat (first | refine blk_drewN ?_ _ | refine blk_drew ?_ | refine blk_alloc ?_ _)); refine blk_put (cs := #[.bool x111000_7, .bool true, .bool t123, .bool t120]) ?_ 2 _ rfl; (with_reducible repeat (first | refine blk_drewN ?_ _ | refine blk_drew ?_ | refine blk_alloc ?_ _)); refine blk_put (cs := #[.bool x111000_7, .bool true, .bool t123, .bool t120]) ?_ 1 _ rfl; (with_reducible repeat (first | refine blk_drewN ?_ _ | refine blk_drew ?_ | refine blk_alloc ?_ _)); refine blk_put (cs := #[.bool x111000_7, .bool true, .bool t123, .bool t120]) ?_ 0 _ rfl; (with_reducible repeat (first | refine blk_drewN ?_ _ | refine blk_drew ?_ | refine blk_alloc ?_ _)); exact BK110.out) Try.underlying28 rfl (by kernel_rfl) .nil))))))) rfl ?_
      exact ⟨by first | rfl | (simp [errW_none, errW_some] <;> rfl) | (simp [*, errW_none, errW_some] <;> rfl), by repeat (first | (with_reducible first | exact HB.out | apply below_alloc | apply pw_below_drewN | apply below_drew1 | refine below_set ?_ GE110.out) | exact HB.out)⟩
     ·replace c14 := Bool.eq_false_iff.mpr c14
      subst c14
      have H1 : ((strings_Cut.f x0_7 (⟨#[35]⟩ : ByteArray)).bind fun bt124 => ((strings_Cut.f bt124.1 (⟨#[63]⟩ : ByteArray)).bind fun bt127 => (some (x2_7, (⟨#[]⟩ : ByteArray), bt127.1, bt127.2.1, bt124.2.1, x111000_7, false, bt127.2.2, bt124.2.2)))) = some (r1, r2, r3, r4, r5, r6, r7, r8, r9) := by rw [if_neg (show ¬ (false = true) by decide)] at H; exact H
      clear H
      have H := H1
      clear H1
      replace H := Option.bind_eq_some_iff.mp H
      obtain ⟨⟨t124, t125, t126⟩, A300, H⟩ := H
      replace H : ((strings_Cut.f t124 (⟨#[63]⟩ : ByteArray)).bind fun bt127 => (some (x2_7, (⟨#[]⟩ : ByteArray), bt127.1, bt127.2.1, t125, x111000_7, false, bt127.2.2, t126))) = some (r1, r2, r3, r4, r5, r6, r7, r8, r9) := H
      have A30 := Aside0.mk A300
      clear A300
      replace H := Option.bind_eq_some_iff.mp H
      obtain ⟨⟨t127, t128, t129⟩, A310, H⟩ := H
      replace H : (some (x2_7, (⟨#[]⟩ : ByteArray), t127, t128, t125, x111000_7, false, t129, t126)) = some (r1, r2, r3, r4, r5, r6, r7, r8, r9) := H
      have A31 := Aside0.mk A310
      clear A310
      simp only [Option.some.injEq, Prod.mk.injEq] at H
      obtain ⟨rfl, rfl, rfl, rfl, rfl, rfl, rfl, rfl, rfl⟩ := H
      try go_wp2_with (first | ((with_reducible refine gate_callee (f := 27) rfl ?_); refine goesL_ (some 29) rfl rfl Try.func27 (by kernel_rfl) rfl #[.string x0_7, .string (⟨#[47, 47]⟩ : ByteArray)] rfl (by (try simp only [List.map_toArray, List.map_cons, List.map_nil]); first | done | rfl | (simp only [List.length_drop, List.length_take]; rfl)) ?_; (with_reducible refine (strings_CutPrefix.calls x0_7 (⟨#[47, 47]⟩ : ByteArray) t114 false _ A13.out).mono ?_); rintro e w' ⟨rfl, ⟨nd, rfl⟩⟩; refine ⟨_, rfl, ?_⟩; (try (rw [drewN_self wc]; generalize hq_ : World.drewN wc _ = wc; have n0_ : Aside0 (wc.heap[gb110]? = some (.cells #[.bool x111000_7, .bool false, .bool false, .bool false] 28 (0, 0))) := ⟨by rw [← hq_]; exact (by (with_reducible repeat (first | refine blk_drewN ?_ _ | refine blk_drew ?_ | refine blk_alloc ?_ _)); exact BK110.out)⟩; have n1_ : Aside0 (Below w.heap.size w wc) := ⟨by rw [← hq_]; exact (by repeat (first | (with_reducible first | exact HB.out | apply below_alloc | apply pw_below_drewN | apply below_drew1 | refine below_set ?_ GE110.out) | exact HB.out))⟩; clear BK110 HB hq_; have BK110 := n0_; have HB := n1_; clear n0_ n1_))) | ((with_reducible refine gate_callee (f := 28) rfl ?_); refine goesL_ (some 41) rfl rfl Try.func28 (by kernel_rfl) rfl #[.string x0_7, .string (⟨#[35]⟩ : ByteArray)] rfl (by (try simp only [List.map_toArray, List.map_cons, List.map_nil]); first | done | rfl | (simp only [List.length_drop, List.length_take]; rfl)) ?_; (with_reducible refine (strings_Cut.calls x0_7 (⟨#[35]⟩ : ByteArray) t124 t125 t126 _ A30.out).mono ?_); rintro e w32 ⟨rfl, hb⟩; refine ⟨_, rfl, ?_⟩; have n0_ := Aside0.mk (blk_below (g := gb110) (o := .cells #[.bool x111000_7, .bool false, .bool false, .bool false] 28 (0, 0)) (by (with_reducible repeat (first | refine blk_drewN ?_ _ | refine blk_drew ?_ | refine blk_alloc ?_ _)); exact BK110.out) hb); have n1_ := Aside0.mk (below_step (by repeat (first | (with_reducible first | exact HB.out | apply below_alloc | apply pw_below_drewN | apply below_drew1 | refine below_set ?_ GE110.out) | exact HB.out)) hb); clear BK110; clear HB; have BK110 := n0_; have HB := n1_; clear n0_ n1_; (try clear hb); (try clear hb2); (try clear hk); (try clear hi); have hcz33_0 : w32.cell? ⟨gb110, 0, none⟩ = some (.bool x111000_7) := (blk_cell BK110.out 0).trans rfl; have hcz33_1 : w32.cell? ⟨gb110, 1, none⟩ = some (.bool false) := (blk_cell BK110.out 1).trans rfl; have hcz33_2 : w32.cell? ⟨gb110, 2, none⟩ = some (.bool false) := (blk_cell BK110.out 2).trans rfl; have hcz33_3 : w32.cell? ⟨gb110, 3, none⟩ = some (.bool false) := (blk_cell BK110.out 3).trans rfl; have hfz33_0 := blk_frozen BK110.out 0; have hfz33_1 := blk_frozen BK110.out 1; have hfz33_2 := blk_frozen BK110.out 2; have hfz33_3 := blk_frozen BK110.out 3) | ((with_reducible refine gate_callee (f := 28) rfl ?_); refine goesL_ (some 48) rfl rfl Try.func28 (by kernel_rfl) rfl #[.string t124, .string (⟨#[63]⟩ : ByteArray)] rfl (by (try simp only [List.map_toArray, List.map_cons, List.map_nil]); first | done | rfl | (simp only [List.length_drop, List.length_take]; rfl)) ?_; (with_reducible refine (strings_Cut.calls t124 (⟨#[63]⟩ : ByteArray) t127 t128 t129 _ A31.out).mono ?_); rintro e w34 ⟨rfl, hb⟩; refine ⟨_, rfl, ?_⟩; have n0_ := Aside0.mk (blk_below (g := gb110) (o := .cells #[.bool x111000_7, .bool false, .bool false, .bool t126] 28 (0, 0)) (by (with_reducible repeat (first | refine blk_drewN ?_ _ | refine blk_drew ?_ | refine blk_alloc ?_ _)); refine blk_put (cs := #[.bool x111000_7, .bool false, .bool false, .bool false]) ?_ 3 _ rfl; (with_reducible repeat (first | refine blk_drewN ?_ _ | refine blk_drew ?_ | refine blk_alloc ?_ _)); exact BK110.out) hb); have n1_ := Aside0.mk (below_step (by repeat (first | (with_reducible first | exact HB.out | apply below_alloc | apply pw_below_drewN | apply below_drew1 | refine below_set ?_ GE110.out) | exact HB.out)) hb); clear BK110; clear HB; have BK110 := n0_; have HB := n1_; clear n0_ n1_; (try clear hb); (try clear hb2); (try clear hk); (try clear hi); have hcz35_0 : w34.cell? ⟨gb110, 0, none⟩ = some (.bool x111000_7) := (blk_cell BK110.out 0).trans rfl; have hcz35_1 : w34.cell? ⟨gb110, 1, none⟩ = some (.bool false) := (blk_cell BK110.out 1).trans rfl; have hcz35_2 : w34.cell? ⟨gb110, 2, none⟩ = some (.bool false) := (blk_cell BK110.out 2).trans rfl; have hcz35_3 : w34.cell? ⟨gb110, 3, none⟩ = some (.bool t126) := (blk_cell BK110.out 3).trans rfl; have hfz35_0 := blk_frozen BK110.out 0; have hfz35_1 := blk_frozen BK110.out 1; have hfz35_2 := blk_frozen BK110.out 2; have hfz35_3 := blk_frozen BK110.out 3))
      have n0_ : Aside0 ((w34.setCell ⟨gb110, 2, none⟩ (.bool t129)).heap[gb110]? = some (.cells #[.bool x111000_7, .bool false, .bool t129, .bool t126] 28 (0, 0))) := ⟨by (with_reducible repeat (first | refine blk_drewN ?_ _ | refine blk_drew ?_ | refine blk_alloc ?_ _)); refine blk_put (cs := #[.bool x111000_7, .bool false, .bool false, .bool t126]) ?_ 2 _ rfl; (with_reducible repeat (first | refine blk_drewN ?_ _ | refine blk_drew ?_ | refine blk_alloc ?_ _)); exact BK110.out⟩
      have n1_ : Aside0 (Below w.heap.size w (w34.setCell ⟨gb110, 2, none⟩ (.bool t129))) := ⟨by repeat (first | (with_reducible first | exact HB.out | apply below_alloc | apply pw_below_drewN | apply below_drew1 | refine below_set ?_ GE110.out) | exact HB.out)⟩
      (try clear BK110)
      (try clear HB)
      generalize (w34.setCell ⟨gb110, 2, none⟩ (.bool t129)) = w36 at n0_ n1_ ⊢
      have BK110 := n0_
      have HB := n1_
      clear n0_ n1_
      have n0_ := Aside0.mk (blk_drew BK110.out)
      have n1_ := Aside0.mk (below_drew1 HB.out)
      clear BK110
      clear HB
      have BK110 := n0_
      have HB := n1_
      clear n0_ n1_
      refine start_ (n := 12) (S := fun w' => w'.cell? ⟨gb110, 0, none⟩ = some (.bool x111000_7) ∧ w'.cell? ⟨gb110, 1, none⟩ = some (.bool false) ∧ w'.cell? ⟨gb110, 2, none⟩ = some (.bool t129) ∧ w'.cell? ⟨gb110, 3, none⟩ = some (.bool t126)) (ds := [11]) #[false, false, false, false, false, false, false, false, false, false, false, false] (by kernel_rfl) rfl rfl ⟨(blk_cell BK110.out 0).trans rfl, (blk_cell BK110.out 1).trans rfl, (blk_cell BK110.out 2).trans rfl, (blk_cell BK110.out 3).trans rfl⟩ (fun hHeld => ?_); refine with_tabW rfc_Split.tab10 rfc_Split.bits10 (fun HT_ HW_ => ?_)
      generalize w36.drew = w37 at BK110 HB hHeld ⊢
      refine pure_ (i := 0) (N := some 53) (v := ?_) (a' := ?_) #[true, false, false, false, false, false, false, false, false, false, false, false] rfl rfl (any_of HT_.out (by kernel_rfl)) (fun _ _ _ h => h) (Or.inl ⟨by rfl, ?_⟩) ?_ ?_
      rotate_left
      ·intro w'
       go_simp
       with_reducible rfl
      rotate_left
      ·simp only [Act.put, List.setIfInBounds_toArray, List.set_cons_zero, List.set_cons_succ, i64_w, i32_w]
       rfl
      refine pure_ (i := 1) (N := some 54) (v := ?_) (a' := ?_) #[true, true, false, false, false, false, false, false, false, false, false, false] rfl rfl (any_of HT_.out (by kernel_rfl)) (fun _ _ _ h => h) (Or.inl ⟨by rfl, ?_⟩) ?_ ?_
      rotate_left
      ·intro w'
       go_simp
       with_reducible rfl
      rotate_left
      ·simp only [Act.put, List.setIfInBounds_toArray, List.set_cons_zero, List.set_cons_succ, i64_w, i32_w]
       rfl
      refine pure_ (i := 2) (N := some 55) (v := ?_) (a' := ?_) #[true, true, true, false, false, false, false, false, false, false, false, false] rfl rfl (any_of HT_.out (by kernel_rfl)) (fun _ _ _ h => h) (Or.inl ⟨by rfl, ?_⟩) ?_ ?_
      rotate_left
      ·intro w'
       go_simp
       with_reducible rfl
      rotate_left
      ·simp only [Act.put, List.setIfInBounds_toArray, List.set_cons_zero, List.set_cons_succ, i64_w, i32_w]
       rfl
      refine pure_ (i := 3) (N := some 56) (v := ?_) (a' := ?_) #[true, true, true, true, false, false, false, false, false, false, false, false] rfl rfl (any_of HT_.out (by kernel_rfl)) (fun _ _ _ h => h) (Or.inl ⟨by rfl, ?_⟩) ?_ ?_
      rotate_left
      ·intro w'
       go_simp
       with_reducible rfl
      rotate_left
      ·simp only [Act.put, List.setIfInBounds_toArray, List.set_cons_zero, List.set_cons_succ, i64_w, i32_w]
       rfl
      refine pure_ (i := 4) (N := some 57) (v := ?_) (a' := ?_) #[true, true, true, true, true, false, false, false, false, false, false, false] rfl rfl (any_of HT_.out (by kernel_rfl)) (fun _ _ _ h => h) (Or.inl ⟨by rfl, ?_⟩) ?_ ?_
      rotate_left
      ·intro w'
       go_simp
       with_reducible rfl
      rotate_left
      ·simp only [Act.put, List.setIfInBounds_toArray, List.set_cons_zero, List.set_cons_succ, i64_w, i32_w]
       rfl
      refine pure_ (i := 6) (N := some 2) (v := ?_) (a' := ?_) #[true, true, true, true, true, false, true, false, false, false, false, false] rfl rfl (any_of HT_.out (by kernel_rfl)) (fun _ _ _ h => h) (Or.inl ⟨by rfl, ?_⟩) ?_ ?_
      rotate_left
      ·intro w'
       go_simp
       with_reducible rfl
      rotate_left
      ·simp only [Act.put, List.setIfInBounds_toArray, List.set_cons_zero, List.set_cons_succ, i64_w, i32_w]
       rfl
      refine pure_ (i := 7) (N := some 3) (v := ?_) (a' := ?_) #[true, true, true, true, true, false, true, true, false, false, false, false] rfl rfl (any_of HT_.out (by kernel_rfl)) (fun _ _ _ h => h) (Or.inl ⟨by rfl, ?_⟩) ?_ ?_
      rotate_left
      ·intro w'
       go_simp
       with_reducible rfl
      rotate_left
      ·simp only [Act.put, List.setIfInBounds_toArray, List.set_cons_zero, List.set_cons_succ, i64_w, i32_w]
       rfl
      refine pure_ (i := 8) (N := some 4) (v := ?_) (a' := ?_) #[true, true, true, true, true, false, true, true, true, false, false, false] rfl rfl (any_of HT_.out (by kernel_rfl)) (fun _ _ _ h => h) (Or.inl ⟨by rfl, ?_⟩) ?_ ?_
      rotate_left
      ·intro w'
       go_simp
       with_reducible rfl
      rotate_left
      ·simp only [Act.put, List.setIfInBounds_toArray, List.set_cons_zero, List.set_cons_succ, i64_w, i32_w]
       rfl
      refine pure_ (i := 9) (N := some 5) (v := ?_) (a' := ?_) #[true, true, true, true, true, false, true, true, true, true, false, false] rfl rfl (any_of HT_.out (by kernel_rfl)) (fun _ _ _ h => h) (Or.inl ⟨by rfl, ?_⟩) ?_ ?_
      rotate_left
      ·intro w'
       go_simp
       with_reducible rfl
      rotate_left
      ·simp only [Act.put, List.setIfInBounds_toArray, List.set_cons_zero, List.set_cons_succ, i64_w, i32_w]
       rfl
      refine pure_ (i := 10) (N := some 6) (v := ?_) (a' := ?_) #[true, true, true, true, true, false, true, true, true, true, true, false] rfl rfl (any_of HT_.out (by kernel_rfl)) (fun _ _ _ h => h) (Or.inl ⟨by rfl, ?_⟩) ?_ ?_
      rotate_left
      ·intro w'
       go_simp
       with_reducible rfl
      rotate_left
      ·simp only [Act.put, List.setIfInBounds_toArray, List.set_cons_zero, List.set_cons_succ, i64_w, i32_w]
       rfl
      refine take_ (i := 5) (N := some 58) (v := ?_) (a' := ?_) #[true, true, true, true, true, true, true, true, true, true, true, false] rfl rfl (take_ofW HT_.out HW_.out (by kernel_rfl)) (fun _ _ _ h => h) (Or.inl ⟨by rfl, ?_⟩) hHeld ?_ ?_
      rotate_left
      ·rintro w' ⟨s0, s1, s2, s3⟩
       go_simp
       with_reducible rfl
      rotate_left
      ·simp only [Act.put, List.setIfInBounds_toArray, List.set_cons_zero, List.set_cons_succ, i64_w, i32_w]
       rfl
      refine last_ (i := 11) (N := none) #[true, true, true, true, true, true, true, true, true, true, true, true] rfl rfl (one_of HT_.out (by kernel_rfl)) (by decide) (fun K hK => ?_)
      have hs38 : w37.cell? ⟨gb110, 0, none⟩ = some (.bool x111000_7) := (blk_cell BK110.out 0).trans rfl
      have hfs38 := blk_frozen BK110.out 0
      have hs39 : w37.cell? ⟨gb110, 1, none⟩ = some (.bool false) := (blk_cell BK110.out 1).trans rfl
      have hfs39 := blk_frozen BK110.out 1
      have hs40 : w37.cell? ⟨gb110, 2, none⟩ = some (.bool t129) := (blk_cell BK110.out 2).trans rfl
      have hfs40 := blk_frozen BK110.out 2
      have hs41 : w37.cell? ⟨gb110, 3, none⟩ = some (.bool t126) := (blk_cell BK110.out 3).trans rfl
      have hfs41 := blk_frozen BK110.out 3
      refine skip_ (w1 := ?_) (by rfl) rfl ?_ ?_
      rotate_left
      ·go_simp
       rfl
      refine hK.out _ _ ?_
      clear hK K
      refine done_ (done_of HT_.out (by kernel_rfl)) ?_
      try go_wp2
      refine bodyPost_ret (results_list (rs := [.tmp 2, .tmp 3, .tmp 4, .tmp 5, .tmp 6, .cell 7 28]) rfl (by simp) (.tmp (.tmp (.tmp (.tmp (.tmp (.cell gb110 28 #[.bool x111000_7, .bool false, .bool t129, .bool t126] (0, 0) _ rfl (by (with_reducible repeat (first | refine blk_drewN ?_ _ | refine blk_drew ?_ | refine blk_alloc ?_ _)); refine blk_put (cs := #[.bool x111000_7, .bool false, .bool t129, .bool t126]) ?_ 3 _ rfl; (with_reducible repeat (first | refine blk_drewN ?_ _ | refine blk_drew ?_ | refine blk_alloc ?_ _)); refine blk_put (cs := #[.bool x111000_7, .bool false, .bool t129, .bool t126]) ?_ 2 _ rfl; (with_reducible repeat (first | refine blk_drewN ?_ _ | refine blk_drew ?_ | refine blk_alloc ?_ _)); refine blk_put (cs := #[.bool x111000_7, .bool false, .bool t129, .bool t126]) ?_ 1 _ rfl; (with_reducible repeat (first | refine blk_drewN ?_ _ | refine blk_drew ?_ | refine blk_alloc ?_ _)); refine blk_put (cs := #[.bool x111000_7, .bool false, .bool t129, .bool t126]) ?_ 0 _ rfl; (with_reducible repeat (first | refine blk_drewN ?_ _ | refine blk_drew ?_ | refine blk_alloc ?_ _)); exact BK110.out) Try.underlying28 rfl (by kernel_rfl) .nil))))))) rfl ?_
      exact ⟨by first | rfl | (simp [errW_none, errW_some] <;> rfl) | (simp [*, errW_none, errW_some] <;> rfl), by repeat (first | (with_reducible first | exact HB.out | apply below_alloc | apply pw_below_drewN | apply below_drew1 | refine below_set ?_ GE110.out) | exact HB.out)⟩

/-! ### octets_bit: function 32 -/
def octets_bit.f (a0 : Int) : Option (Int × Int) := if 0 ≤ (Int.tmod a0 64) then (some ((Int.tdiv a0 64) % 256, shl .u64 1 (Int.tmod a0 64))) else (none)
set_option maxHeartbeats 8000000 in
set_option maxRecDepth 100000 in
theorem octets_bit.calls (a0 : Int) (r1 : Int) (r2 : Int) (w : World) (h : octets_bit.f a0 = some (r1, r2)) :
  Calls Try.prog 32 #[.int .u8 a0] w fun e w' => e = .returned (.tuple #[.int .i64 r1, .int .u64 r2]) ∧ Drawn0 w w' := by
 have H : (if 0 ≤ (Int.tmod a0 64) then (some ((Int.tdiv a0 64) % 256, shl .u64 1 (Int.tmod a0 64))) else (none)) = some (r1, r2) := h
 clear h
 obtain ⟨ji2, hji2⟩ : ∃ j_ : Int, (Int.tmod a0 64) = j_ := ⟨_, rfl⟩
 replace H : (if 0 ≤ (ji2) then (some ((Int.tdiv a0 64) % 256, shl .u64 1 (ji2))) else (none)) = some (r1, r2) := by first | (rw [hji2] at H; exact H) | (simp only [hji2] at H ⊢; exact H)
 by_cases c3 : 0 ≤ (ji2)
 ·rw [if_pos c3] at H
  have c3b0 := eq_true c3
  have c3b1 : decide (0 ≤ (ji2)) = true := decide_eq_true c3
  clear c3
  obtain ⟨ji4, hji4⟩ : ∃ j_ : Int, (shl .u64 1 (ji2)) = j_ := ⟨_, rfl⟩
  replace H : (some ((Int.tdiv a0 64) % 256, ji4)) = some (r1, r2) := by first | (rw [hji4] at H; exact H) | (simp only [hji4] at H ⊢; exact H)
  have hji4_ : (IntKind.u64.wrap (1 * 2 ^ min (ji2).toNat 64)) = ji4 := hji4
  have hji4z : (ji2) ≤ 64 → (IntKind.u64.wrap (1 * 2 ^ (ji2).toNat)) = ji4 := shl_small hji4
  have hji4u : (IntKind.u64.wrap (2 ^ min (ji2).toNat 64)) = ji4 := by have h_ := hji4_; rw [Int.one_mul] at h_; exact h_
  have hji4v : (ji2) ≤ 64 → (IntKind.u64.wrap (2 ^ (ji2).toNat)) = ji4 := fun hle_ => by have h_ := hji4z hle_; rw [Int.one_mul] at h_; exact h_
  simp only [Option.some.injEq, Prod.mk.injEq] at H
  obtain ⟨rfl, rfl⟩ := H
  go_enter Try.func32, Try.ntmps32
  go_wp2
  go_ret2
  exact ⟨by first | rfl | (simp; done) | (simp only [← hji2, ← hji4] <;> (first | rfl | simp)) | (simp [*]; done), by repeat (first | exact Drawn0.refl _ | apply Drawn0.step)⟩
 ·rw [if_neg c3] at H
  exact absurd H (by simp)

/-! ### octets_Has: function 17 -/
theorem octets_words.pow_wrap (n : Nat) (h : n < 64) : IntKind.u64.wrap (2 ^ n) = 2 ^ n := by
 have h2 : 2 ^ n < 2 ^ 64 := Nat.pow_lt_pow_right (by decide) h
 have e : (2:Int) ^ n = ((2 ^ n : Nat) : Int) := by simp
 rw [e]
 generalize 2 ^ n = p at h2
 simp [IntKind.wrap, IntKind.bits, IntKind.signed] at *
 omega
theorem octets_words.ret2 {a b c d : Value} (h : a = c) (k : b = d) : Ending.returned (.tuple #[a, b]) = .returned (.tuple #[c, d]) := by rw [h, k]
set_option maxHeartbeats 400000 in
set_option maxRecDepth 100000 in
theorem octets_words.bit (c : Int) (h0 : 0 ≤ c) (h1 : c < 256) (w : World) :
  Calls Try.prog 32 #[.int .u8 c] w fun e w' => e = .returned (.tuple #[.int .i64 (c / 64), .int .u64 (2 ^ (c % 64).toNat)]) ∧ w = w' := by
 have hw := Aside0.mk (octets_words.pow_wrap (c % 64).toNat (by omega))
 go_enter Try.func32, Try.ntmps32
 go_wp2
 go_ret2
 exact ⟨octets_words.ret2 rfl (by show Value.int .u64 _ = _; rw [hw.out]), rfl⟩
/-- A block of four words. -/
def octets_words.B4 (w : World) (g : Nat) (a b c d : Int) : Prop := w.heap[g]? = some (.cells #[.int .u64 a, .int .u64 b, .int .u64 c, .int .u64 d] 41 (0, 0))
theorem octets_words.cells {w : World} {g : Nat} {a b c d : Int} (h : octets_words.B4 w g a b c d) :
  w.cell? ⟨g, 0, none⟩ = some (.int .u64 a) ∧ w.cell? ⟨g, 1, none⟩ = some (.int .u64 b) ∧ w.cell? ⟨g, 2, none⟩ = some (.int .u64 c) ∧ w.cell? ⟨g, 3, none⟩ = some (.int .u64 d) :=
 ⟨blk_cell h 0, blk_cell h 1, blk_cell h 2, blk_cell h 3⟩
theorem octets_words.free {w : World} {g : Nat} {a b c d : Int} (h : octets_words.B4 w g a b c d) (i : Nat) : w.frozen? ⟨g, i, none⟩ = false := blk_frozen h i
def octets_Has.f (a0_0 a0_1 a0_2 a0_3 a1 : Int) : Option Bool :=
 if 0 ≤ a1 ∧ a1 < 256 then some (Go.bits .and .u64 (if a1 / 64 = 0 then a0_0 else if a1 / 64 = 1 then a0_1 else if a1 / 64 = 2 then a0_2 else a0_3) (2 ^ (a1 % 64).toNat) != 0) else none

set_option maxHeartbeats 400000 in
set_option maxRecDepth 100000 in
theorem octets_Has.at0 (x0 x1 x2 x3 c : Int) (h0 : 0 ≤ c) (h1 : c < 64) (w : World) :
  Calls Try.prog 17 #[.agg #[.int .u64 x0, .int .u64 x1, .int .u64 x2, .int .u64 x3], .int .u8 c] w fun e w' => e = .returned (.bool (Go.bits .and .u64 x0 (2 ^ (c % 64).toNat) != 0)) ∧ Below w.heap.size w w' := by
 have hd : c / 64 = 0 := by omega
 have HD := Aside0.mk hd
 clear hd
 go_enter Try.func17, Try.ntmps17
 go_wp2_with fail
 refine (octets_words.bit c (by omega) (by omega) _).mono ?_
 rintro e w' ⟨rfl, rfl⟩
 rw [HD.out]
 go_wp2_with fail
 go_ret
 exact ⟨rfl, below_alloc (Below.refl _ _) _⟩

set_option maxHeartbeats 400000 in
set_option maxRecDepth 100000 in
theorem octets_Has.at1 (x0 x1 x2 x3 c : Int) (h0 : 64 ≤ c) (h1 : c < 128) (w : World) :
  Calls Try.prog 17 #[.agg #[.int .u64 x0, .int .u64 x1, .int .u64 x2, .int .u64 x3], .int .u8 c] w fun e w' => e = .returned (.bool (Go.bits .and .u64 x1 (2 ^ (c % 64).toNat) != 0)) ∧ Below w.heap.size w w' := by
 have hd : c / 64 = 1 := by omega
 have HD := Aside0.mk hd
 clear hd
 go_enter Try.func17, Try.ntmps17
 go_wp2_with fail
 refine (octets_words.bit c (by omega) (by omega) _).mono ?_
 rintro e w' ⟨rfl, rfl⟩
 rw [HD.out]
 go_wp2_with fail
 go_ret
 exact ⟨rfl, below_alloc (Below.refl _ _) _⟩

set_option maxHeartbeats 400000 in
set_option maxRecDepth 100000 in
theorem octets_Has.at2 (x0 x1 x2 x3 c : Int) (h0 : 128 ≤ c) (h1 : c < 192) (w : World) :
  Calls Try.prog 17 #[.agg #[.int .u64 x0, .int .u64 x1, .int .u64 x2, .int .u64 x3], .int .u8 c] w fun e w' => e = .returned (.bool (Go.bits .and .u64 x2 (2 ^ (c % 64).toNat) != 0)) ∧ Below w.heap.size w w' := by
 have hd : c / 64 = 2 := by omega
 have HD := Aside0.mk hd
 clear hd
 go_enter Try.func17, Try.ntmps17
 go_wp2_with fail
 refine (octets_words.bit c (by omega) (by omega) _).mono ?_
 rintro e w' ⟨rfl, rfl⟩
 rw [HD.out]
 go_wp2_with fail
 go_ret
 exact ⟨rfl, below_alloc (Below.refl _ _) _⟩

set_option maxHeartbeats 400000 in
set_option maxRecDepth 100000 in
theorem octets_Has.at3 (x0 x1 x2 x3 c : Int) (h0 : 192 ≤ c) (h1 : c < 256) (w : World) :
  Calls Try.prog 17 #[.agg #[.int .u64 x0, .int .u64 x1, .int .u64 x2, .int .u64 x3], .int .u8 c] w fun e w' => e = .returned (.bool (Go.bits .and .u64 x3 (2 ^ (c % 64).toNat) != 0)) ∧ Below w.heap.size w w' := by
 have hd : c / 64 = 3 := by omega
 have HD := Aside0.mk hd
 clear hd
 go_enter Try.func17, Try.ntmps17
 go_wp2_with fail
 refine (octets_words.bit c (by omega) (by omega) _).mono ?_
 rintro e w' ⟨rfl, rfl⟩
 rw [HD.out]
 go_wp2_with fail
 go_ret
 exact ⟨rfl, below_alloc (Below.refl _ _) _⟩

theorem octets_Has.calls (a0_0 a0_1 a0_2 a0_3 a1 : Int) (r : Bool) (w : World) (h : octets_Has.f a0_0 a0_1 a0_2 a0_3 a1 = some r) :
  Calls Try.prog 17 #[.agg #[.int .u64 a0_0, .int .u64 a0_1, .int .u64 a0_2, .int .u64 a0_3], .int .u8 a1] w fun e w' => e = .returned (.bool r) ∧ Below w.heap.size w w' := by
 unfold octets_Has.f at h
 by_cases hc : 0 ≤ a1 ∧ a1 < 256
 ·rw [if_pos hc] at h
  have h := (Option.some.inj h).symm
  obtain ⟨h0, h1⟩ := hc
  by_cases c0 : a1 / 64 = 0
  ·rw [if_pos c0] at h; subst h; exact octets_Has.at0 _ _ _ _ _ (by omega) (by omega) w
  ·rw [if_neg c0] at h
   by_cases c1 : a1 / 64 = 1
   ·rw [if_pos c1] at h; subst h; exact octets_Has.at1 _ _ _ _ _ (by omega) (by omega) w
   ·rw [if_neg c1] at h
    by_cases c2 : a1 / 64 = 2
    ·rw [if_pos c2] at h; subst h; exact octets_Has.at2 _ _ _ _ _ (by omega) (by omega) w
    ·rw [if_neg c2] at h; subst h; exact octets_Has.at3 _ _ _ _ _ (by omega) (by omega) w
 ·rw [if_neg hc] at h; exact absurd h (by simp)
/-- A byte of a set. -/
theorem octets_Has.set (p : Nat → Bool) (c : Int) (h0 : 0 ≤ c) (h1 : c < 256) : octets_Has.f (Base.wd p 0) (Base.wd p 1) (Base.wd p 2) (Base.wd p 3) c = some (p c.toNat) := by
 obtain ⟨n, rfl⟩ : ∃ n : Nat, c = n := ⟨c.toNat, by omega⟩
 unfold octets_Has.f
 rw [if_pos ⟨h0, h1⟩]
 by_cases c0 : ((n : Int)) / 64 = 0
 ·rw [if_pos c0, Base.wd_has p 0 n (by omega)]; rfl
 ·rw [if_neg c0]
  by_cases c1 : ((n : Int)) / 64 = 1
  ·rw [if_pos c1, Base.wd_has p 1 n (by omega)]; rfl
  ·rw [if_neg c1]
   by_cases c2 : ((n : Int)) / 64 = 2
   ·rw [if_pos c2, Base.wd_has p 2 n (by omega)]; rfl
   ·rw [if_neg c2, Base.wd_has p 3 n (by omega)]; rfl


/-! ### octets_Or: function 20 -/
-- words: function 17's text
def octets_Or.f (a0_0 a0_1 a0_2 a0_3 a1_0 a1_1 a1_2 a1_3 : Int) : Option (Int × Int × Int × Int) := some (Go.bits .or .u64 a0_0 a1_0, Go.bits .or .u64 a0_1 a1_1, Go.bits .or .u64 a0_2 a1_2, Go.bits .or .u64 a0_3 a1_3)
set_option maxHeartbeats 1000000 in
set_option maxRecDepth 100000 in
theorem octets_Or.any (x0 x1 x2 x3 y0 y1 y2 y3 : Int) (w : World) :
  Calls Try.prog 20 #[.agg #[.int .u64 x0, .int .u64 x1, .int .u64 x2, .int .u64 x3], .agg #[.int .u64 y0, .int .u64 y1, .int .u64 y2, .int .u64 y3]] w fun e w' => e = .returned (.agg #[.int .u64 (Go.bits .or .u64 x0 y0), .int .u64 (Go.bits .or .u64 x1 y1), .int .u64 (Go.bits .or .u64 x2 y2), .int .u64 (Go.bits .or .u64 x3 y3)]) ∧ Below w.heap.size w w' := by
 go_enter Try.func20, Try.ntmps20
 go_wp2
 go_loopw [6] (fun i wr => ∃ (k : Nat) (a b c d : Int), k ≤ 4 ∧ i = .int .i64 k ∧ Aside0 (a = (if 0 < k then Go.bits .or .u64 x0 y0 else x0) ∧ b = (if 1 < k then Go.bits .or .u64 x1 y1 else x1) ∧ c = (if 2 < k then Go.bits .or .u64 x2 y2 else x2) ∧ d = (if 3 < k then Go.bits .or .u64 x3 y3 else x3)) ∧ Aside0 (octets_words.B4 wr w.heap.size a b c d) ∧ Aside0 (octets_words.B4 wr (w.heap.size + 1) y0 y1 y2 y3) ∧ Aside0 (octets_words.B4 wr (w.heap.size + 1 + 1) 0 0 0 0) ∧ Aside0 (Below w.heap.size w wr)) (fun i _ => 4 - (intOf i).toNat)
 case atStart =>
  refine ⟨0, x0, x1, x2, x3, by omega, rfl, ⟨by simp⟩, ⟨?_⟩, ⟨?_⟩, ⟨?_⟩, ⟨?_⟩⟩
  ·exact blk_alloc (blk_alloc (blk_new _ _) _) _
  ·refine blk_alloc ?_ _; simpa using blk_new (w.alloc _) _
  ·have := blk_new ((w.alloc (Obj.cells #[Value.int .u64 x0, Value.int .u64 x1, Value.int .u64 x2, Value.int .u64 x3] 41)).alloc (Obj.cells #[Value.int .u64 y0, Value.int .u64 y1, Value.int .u64 y2, Value.int .u64 y3] 41)) (Obj.cells #[Value.int .u64 0, Value.int .u64 0, Value.int .u64 0, Value.int .u64 0] 41)
   simpa [octets_words.B4] using this
  ·exact ((((Below.refl _ _).alloc (Nat.le_refl _) _).alloc (by simp) _).alloc (by simp; omega) _)
 case round =>
  obtain ⟨k, a, b, c, d, hk, rfl, he, ha, hb, hc, hd⟩ := hrel
  have fa := fun i => octets_words.free ha.out i
  obtain ⟨a0, a1, a2, a3⟩ := octets_words.cells ha.out
  obtain ⟨b0, b1, b2, b3⟩ := octets_words.cells hb.out
  by_cases hlt : k < 4
  ·have q : k = 0 ∨ k = 1 ∨ k = 2 ∨ k = 3 := by omega
   rcases q with rfl | rfl | rfl | rfl
   ·have f0 := fa 0
    clear hk hlt fa a1 b1 a2 b2 a3 b3
    go_wp2
    go_region
    all_goals go_wp2
    all_goals go_roundw
    case rel =>
     obtain ⟨e0, e1, e2, e3⟩ := he.out
     refine ⟨1, _, b, c, d, by omega, by go_num, ⟨?_⟩, ⟨blk_put ha.out 0 _ rfl⟩, ⟨blk_far hb.out (by show w.heap.size + 1 ≠ w.heap.size; omega) _⟩, ⟨blk_far hc.out (by show w.heap.size + 1 + 1 ≠ w.heap.size; omega) _⟩, ⟨(hd.out.setCell (by simp) _).drew⟩⟩
     simp [e0, e1, e2, e3]
    case measure => simp [intOf]
   ·have f1 := fa 1
    clear hk hlt fa a0 b0 a2 b2 a3 b3
    go_wp2
    go_region
    all_goals go_wp2
    all_goals go_roundw
    case rel =>
     obtain ⟨e0, e1, e2, e3⟩ := he.out
     refine ⟨2, a, _, c, d, by omega, by go_num, ⟨?_⟩, ⟨blk_put ha.out 1 _ rfl⟩, ⟨blk_far hb.out (by show w.heap.size + 1 ≠ w.heap.size; omega) _⟩, ⟨blk_far hc.out (by show w.heap.size + 1 + 1 ≠ w.heap.size; omega) _⟩, ⟨(hd.out.setCell (by simp) _).drew⟩⟩
     simp [e0, e1, e2, e3]
    case measure => simp [intOf]
   ·have f2 := fa 2
    clear hk hlt fa a0 b0 a1 b1 a3 b3
    go_wp2
    go_region
    all_goals go_wp2
    all_goals go_roundw
    case rel =>
     obtain ⟨e0, e1, e2, e3⟩ := he.out
     refine ⟨3, a, b, _, d, by omega, by go_num, ⟨?_⟩, ⟨blk_put ha.out 2 _ rfl⟩, ⟨blk_far hb.out (by show w.heap.size + 1 ≠ w.heap.size; omega) _⟩, ⟨blk_far hc.out (by show w.heap.size + 1 + 1 ≠ w.heap.size; omega) _⟩, ⟨(hd.out.setCell (by simp) _).drew⟩⟩
     simp [e0, e1, e2, e3]
    case measure => simp [intOf]
   ·have f3 := fa 3
    clear hk hlt fa a0 b0 a1 b1 a2 b2
    go_wp2
    go_region
    all_goals go_wp2
    all_goals go_roundw
    case rel =>
     obtain ⟨e0, e1, e2, e3⟩ := he.out
     refine ⟨4, a, b, c, _, by omega, by go_num, ⟨?_⟩, ⟨blk_put ha.out 3 _ rfl⟩, ⟨blk_far hb.out (by show w.heap.size + 1 ≠ w.heap.size; omega) _⟩, ⟨blk_far hc.out (by show w.heap.size + 1 + 1 ≠ w.heap.size; omega) _⟩, ⟨(hd.out.setCell (by simp) _).drew⟩⟩
     simp [e0, e1, e2, e3]
    case measure => simp [intOf]
  ·obtain rfl : k = 4 := by omega
   have fc := fun i => octets_words.free hc.out i
   obtain ⟨c0, c1, c2, c3⟩ := octets_words.cells hc.out
   have f0 := fc 0
   have f1 := fc 1
   have f2 := fc 2
   have f3 := fc 3
   clear fa fc hk hlt
   go_wp2
   obtain ⟨e0, e1, e2, e3⟩ := he.out
   have hz := Aside0.mk (show octets_words.B4 _ (w.heap.size + 1 + 1) a b c d from blk_put (blk_put (blk_put (blk_put hc.out 0 (.int .u64 a) rfl) 1 (.int .u64 b) rfl) 2 (.int .u64 c) rfl) 3 (.int .u64 d) rfl)
   have hb4 := Aside0.mk ((((hd.out.setCell (p := ⟨w.heap.size + 1 + 1, 0, none⟩) (by simp; try omega) (.int .u64 a)).setCell (p := ⟨w.heap.size + 1 + 1, 1, none⟩) (by simp; try omega) (.int .u64 b)).setCell (p := ⟨w.heap.size + 1 + 1, 2, none⟩) (by simp; try omega) (.int .u64 c)).setCell (p := ⟨w.heap.size + 1 + 1, 3, none⟩) (by simp; try omega) (.int .u64 d))
   revert hz hb4
   generalize ((((wr.setCell ⟨w.heap.size + 1 + 1, 0, none⟩ (.int .u64 a)).setCell ⟨w.heap.size + 1 + 1, 1, none⟩ (.int .u64 b)).setCell ⟨w.heap.size + 1 + 1, 2, none⟩ (.int .u64 c)).setCell ⟨w.heap.size + 1 + 1, 3, none⟩ (.int .u64 d)) = W
   intro hz hb4
   obtain ⟨z0, z1, z2, z3⟩ := octets_words.cells hz.out
   refine bodyPost_ret (v := .agg #[.int .u64 a, .int .u64 b, .int .u64 c, .int .u64 d]) (by simp [results, Try.results20, go_sem, z0, z1, z2, z3]) rfl ⟨?_, hb4.out⟩
   simp [e0, e1, e2, e3]
theorem octets_Or.calls (a0_0 a0_1 a0_2 a0_3 a1_0 a1_1 a1_2 a1_3 : Int) (r1 r2 r3 r4 : Int) (w : World) (h : octets_Or.f a0_0 a0_1 a0_2 a0_3 a1_0 a1_1 a1_2 a1_3 = some (r1, r2, r3, r4)) :
  Calls Try.prog 20 #[.agg #[.int .u64 a0_0, .int .u64 a0_1, .int .u64 a0_2, .int .u64 a0_3], .agg #[.int .u64 a1_0, .int .u64 a1_1, .int .u64 a1_2, .int .u64 a1_3]] w fun e w' => e = .returned (.agg #[.int .u64 r1, .int .u64 r2, .int .u64 r3, .int .u64 r4]) ∧ Below w.heap.size w w' := by
 simp only [octets_Or.f, Option.some.injEq, Prod.mk.injEq] at h
 obtain ⟨rfl, rfl, rfl, rfl⟩ := h
 exact octets_Or.any _ _ _ _ _ _ _ _ w
theorem octets_Or.set (p q : Nat → Bool) : octets_Or.f (Base.wd p 0) (Base.wd p 1) (Base.wd p 2) (Base.wd p 3) (Base.wd q 0) (Base.wd q 1) (Base.wd q 2) (Base.wd q 3) = some (Base.wd (fun n => p n || q n) 0, Base.wd (fun n => p n || q n) 1, Base.wd (fun n => p n || q n) 2, Base.wd (fun n => p n || q n) 3) := by
 simp only [octets_Or.f, Base.wd_or]


end Go.Proofs.Ytiihgddpejmehaa.ZA

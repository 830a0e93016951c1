/- My own print (tools/mp.py) of functions of this seat: each function as a plain Lean function, and the proof that the code does what that function says. -/
import Derived.Test.YtiihgddpejmehaaZA0
import Derived.Test.YtiihgddpejmehaaZA1
import Derived.Test.YtiihgddpejmehaaZA6
import Derived.Test.YtiihgddpejmehaaZA9
import Derived.Test.YtiihgddpejmehaaZA10
namespace Go.Proofs.Ytiihgddpejmehaa.ZA
open Go.RowKit Go.Proofs.YtiihgddpejmehaaW.PrintWords Go.Proofs.YtiihgddpejmehaaW.PrintLast Go.Proofs.YtiihgddpejmehaaW.PrintMore
attribute [local go_sem] max2_int min2_int max_two min_two max_three min_three max_four min_four   -- for this text's walks alone
set_option linter.unusedVariables false
set_option linter.unusedSimpArgs false

attribute [local go_sem high] eqA24
/-! ### shibbolethlaw19_RfcFields: function 7 -/
mutual
def shibbolethlaw19_RfcFields.l0 : Nat → ByteArray → Int → Bool → ByteArray → ByteArray → Option (Bool)
  | 0, _, _, _, _, _ => none
  | k + 1, x0, x4, x335000, x335001, x335002 => if x4 < (x0.size : Int) then (if 0 ≤ x4 then (if (bt x0 x4) < 33 then (some false) else (if (bt x0 x4) > 126 then (some false) else (if x4 ≤ (wrap64 (x4 + 1)) then (if (wrap64 (x4 + 1)) ≤ (x0.size : Int) then ((shibbolethlaw19_has.f k (x0.extract (x4 : Int).toNat ((wrap64 (x4 + 1)) : Int).toNat) (⟨#[34, 60, 62, 92, 94, 96, 123, 124, 125]⟩ : ByteArray)).bind fun t336 => (if t336 = true then (some false) else (shibbolethlaw19_RfcFields.l0 k x0 (wrap64 (x4 + 1)) x335000 x335001 x335002))) else (none)) else (none)))) else (none)) else ((shibbolethlaw19_has.f k x335001 (⟨#[47, 63, 35, 64]⟩ : ByteArray)).bind fun t337 => (if t337 = true then (shibbolethlaw19_RfcFields.j1 k true x335000 x335001 x335002) else ((shibbolethlaw19_has.f k x335002 (⟨#[63, 35, 91, 93]⟩ : ByteArray)).bind fun t338 => (if t338 = true then (shibbolethlaw19_RfcFields.j1 k true x335000 x335001 x335002) else ((percent_Valid.f k x335001).bind fun t339 => (if t339 = true then ((percent_Valid.f k x335002).bind fun t340 => (shibbolethlaw19_RfcFields.j1 k (!t340) x335000 x335001 x335002)) else (shibbolethlaw19_RfcFields.j1 k true x335000 x335001 x335002)))))))
def shibbolethlaw19_RfcFields.j1 : Nat → Bool → Bool → ByteArray → ByteArray → Option (Bool)
  | 0, _, _, _, _ => none
  | k + 1, x62, x335000, x335001, x335002 => if x62 = true then (some false) else (if (x335001.size : Int) > 0 then (if 0 < (x335001.size : Int) then (shibbolethlaw19_RfcFields.j2 k (x335001.size : Int) ((bt x335001 0) == 91) x335000 x335001 x335002) else (none)) else (shibbolethlaw19_RfcFields.j2 k (x335001.size : Int) false x335000 x335001 x335002))
def shibbolethlaw19_RfcFields.j2 : Nat → Int → Bool → Bool → ByteArray → ByteArray → Option (Bool)
  | 0, _, _, _, _, _ => none
  | k + 1, x5, x73, x335000, x335001, x335002 => if x73 = true then (if 0 ≤ (wrap64 (x5 - 1)) then (if (wrap64 (x5 - 1)) < (x335001.size : Int) then (if (bt x335001 (wrap64 (x5 - 1))) = 93 then (if x5 > 2 then ((shibbolethlaw19_awake.f k).bind fun t341 => (some t341)) else (some false)) else (some false)) else (none)) else (none)) else ((shibbolethlaw19_has.f k x335001 (⟨#[58, 91, 93]⟩ : ByteArray)).bind fun t342 => (if t342 = true then (some false) else ((shibbolethlaw19_awake.f k).bind fun t343 => (some t343))))
end
def shibbolethlaw19_RfcFields.f (k : Nat) (a0 : ByteArray) : Option (Bool) := (shibbolethlaw19_Short.f a0).bind fun t330 => ((rfc_Parse.f k t330).bind fun bt331 => (if bt331.1 = true then (shibbolethlaw19_RfcFields.l0 k t330 0 bt331.1 bt331.2.1 bt331.2.2) else (if (!bt331.1 && (bt331.2.1.toList == ([] : List UInt8) && (bt331.2.2.toList == ([] : List UInt8)))) = true then ((shibbolethlaw19_awake.f k).bind fun t335 => (some t335)) else (some false))))
theorem shibbolethlaw19_RfcFields.mono_l : ∀ k, (∀ y0 y1 y2 y3 y4, LeO (shibbolethlaw19_RfcFields.l0 k y0 y1 y2 y3 y4) (shibbolethlaw19_RfcFields.l0 (k + 1) y0 y1 y2 y3 y4)) ∧ (∀ y0 y1 y2 y3, LeO (shibbolethlaw19_RfcFields.j1 k y0 y1 y2 y3) (shibbolethlaw19_RfcFields.j1 (k + 1) y0 y1 y2 y3)) ∧ (∀ y0 y1 y2 y3 y4, LeO (shibbolethlaw19_RfcFields.j2 k y0 y1 y2 y3 y4) (shibbolethlaw19_RfcFields.j2 (k + 1) y0 y1 y2 y3 y4))
  | 0 => ⟨fun _ _ _ _ _ r h => by simp [shibbolethlaw19_RfcFields.l0] at h, fun _ _ _ _ r h => by simp [shibbolethlaw19_RfcFields.j1] at h, fun _ _ _ _ _ r h => by simp [shibbolethlaw19_RfcFields.j2] at h⟩
  | k + 1 => by
    obtain ⟨ih0, ih1, ih2⟩ := shibbolethlaw19_RfcFields.mono_l k
    refine ⟨?_, ?_, ?_⟩
    · intro y0 y1 y2 y3 y4
      unfold shibbolethlaw19_RfcFields.l0
      repeat' first
      | (with_reducible exact ih0 _ _ _ _ _)
      | (with_reducible exact ih1 _ _ _ _)
      | (with_reducible exact ih2 _ _ _ _ _)
      | (with_reducible exact percent_Valid.mono _ _)
      | (with_reducible exact rfc_Parse.mono _ _)
      | (with_reducible exact shibbolethlaw19_awake.mono _)
      | (with_reducible exact shibbolethlaw19_has.mono _ _ _)
      | (with_reducible exact LeO.refl _)
      | (with_reducible exact LeO.none _)
      | (with_reducible refine LeO.ite ?_ ?_)
      | (with_reducible refine LeO.bind ?_ (fun _ => ?_))
      | exact ih0 _ _ _ _ _
      | exact ih1 _ _ _ _
      | exact ih2 _ _ _ _ _
      | exact percent_Valid.mono _ _
      | exact rfc_Parse.mono _ _
      | exact shibbolethlaw19_awake.mono _
      | exact shibbolethlaw19_has.mono _ _ _
      | exact LeO.none _
      | refine LeO.ite ?_ ?_
      | refine LeO.bind ?_ (fun _ => ?_)
    · intro y0 y1 y2 y3
      unfold shibbolethlaw19_RfcFields.j1
      repeat' first
      | (with_reducible exact ih0 _ _ _ _ _)
      | (with_reducible exact ih1 _ _ _ _)
      | (with_reducible exact ih2 _ _ _ _ _)
      | (with_reducible exact percent_Valid.mono _ _)
      | (with_reducible exact rfc_Parse.mono _ _)
      | (with_reducible exact shibbolethlaw19_awake.mono _)
      | (with_reducible exact shibbolethlaw19_has.mono _ _ _)
      | (with_reducible exact LeO.refl _)
      | (with_reducible exact LeO.none _)
      | (with_reducible refine LeO.ite ?_ ?_)
      | (with_reducible refine LeO.bind ?_ (fun _ => ?_))
      | exact ih0 _ _ _ _ _
      | exact ih1 _ _ _ _
      | exact ih2 _ _ _ _ _
      | exact percent_Valid.mono _ _
      | exact rfc_Parse.mono _ _
      | exact shibbolethlaw19_awake.mono _
      | exact shibbolethlaw19_has.mono _ _ _
      | exact LeO.none _
      | refine LeO.ite ?_ ?_
      | refine LeO.bind ?_ (fun _ => ?_)
    · intro y0 y1 y2 y3 y4
      unfold shibbolethlaw19_RfcFields.j2
      repeat' first
      | (with_reducible exact ih0 _ _ _ _ _)
      | (with_reducible exact ih1 _ _ _ _)
      | (with_reducible exact ih2 _ _ _ _ _)
      | (with_reducible exact percent_Valid.mono _ _)
      | (with_reducible exact rfc_Parse.mono _ _)
      | (with_reducible exact shibbolethlaw19_awake.mono _)
      | (with_reducible exact shibbolethlaw19_has.mono _ _ _)
      | (with_reducible exact LeO.refl _)
      | (with_reducible exact LeO.none _)
      | (with_reducible refine LeO.ite ?_ ?_)
      | (with_reducible refine LeO.bind ?_ (fun _ => ?_))
      | exact ih0 _ _ _ _ _
      | exact ih1 _ _ _ _
      | exact ih2 _ _ _ _ _
      | exact percent_Valid.mono _ _
      | exact rfc_Parse.mono _ _
      | exact shibbolethlaw19_awake.mono _
      | exact shibbolethlaw19_has.mono _ _ _
      | exact LeO.none _
      | refine LeO.ite ?_ ?_
      | refine LeO.bind ?_ (fun _ => ?_)
theorem shibbolethlaw19_RfcFields.mono : ∀ a0 k, LeO (shibbolethlaw19_RfcFields.f k a0) (shibbolethlaw19_RfcFields.f (k + 1) a0) := by
  intro a0 k
  obtain ⟨ih0, ih1, ih2⟩ := shibbolethlaw19_RfcFields.mono_l k
  unfold shibbolethlaw19_RfcFields.f
  repeat' first
      | (with_reducible exact ih0 _ _ _ _ _)
      | (with_reducible exact ih1 _ _ _ _)
      | (with_reducible exact ih2 _ _ _ _ _)
      | (with_reducible exact percent_Valid.mono _ _)
      | (with_reducible exact rfc_Parse.mono _ _)
      | (with_reducible exact shibbolethlaw19_awake.mono _)
      | (with_reducible exact shibbolethlaw19_has.mono _ _ _)
      | (with_reducible exact LeO.refl _)
      | (with_reducible exact LeO.none _)
      | (with_reducible refine LeO.ite ?_ ?_)
      | (with_reducible refine LeO.bind ?_ (fun _ => ?_))
      | exact ih0 _ _ _ _ _
      | exact ih1 _ _ _ _
      | exact ih2 _ _ _ _ _
      | exact percent_Valid.mono _ _
      | exact rfc_Parse.mono _ _
      | exact shibbolethlaw19_awake.mono _
      | exact shibbolethlaw19_has.mono _ _ _
      | exact LeO.none _
      | refine LeO.ite ?_ ?_
      | refine LeO.bind ?_ (fun _ => ?_)
set_option maxHeartbeats 8000000 in
set_option maxRecDepth 100000 in
theorem shibbolethlaw19_RfcFields.calls (k : Nat) (a0 : ByteArray) (r : Bool) (w : World) (h : shibbolethlaw19_RfcFields.f k a0 = some r) :
    Calls Try.prog 7 #[.string a0] w fun e w' => e = .returned (.bool r) ∧ Below w.heap.size w w' := by
  have hu24 := Try.underlying24
  have HB := Aside0.mk (Below.refl w.heap.size w)
  have H : ((shibbolethlaw19_Short.f a0).bind fun t330 => ((rfc_Parse.f k t330).bind fun bt331 => (if bt331.1 = true then (shibbolethlaw19_RfcFields.l0 k t330 0 bt331.1 bt331.2.1 bt331.2.2) else (if (!bt331.1 && (bt331.2.1.toList == ([] : List UInt8) && (bt331.2.2.toList == ([] : List UInt8)))) = true then ((shibbolethlaw19_awake.f k).bind fun t335 => (some t335)) else (some false))))) = some r := h
  clear h
  replace H := Option.bind_eq_some_iff.mp H
  obtain ⟨t330, A20, H⟩ := H
  replace H : ((rfc_Parse.f k t330).bind fun bt331 => (if bt331.1 = true then (shibbolethlaw19_RfcFields.l0 k t330 0 bt331.1 bt331.2.1 bt331.2.2) else (if (!bt331.1 && (bt331.2.1.toList == ([] : List UInt8) && (bt331.2.2.toList == ([] : List UInt8)))) = true then ((shibbolethlaw19_awake.f k).bind fun t335 => (some t335)) else (some false)))) = some r := H
  have A2 := Aside0.mk A20
  clear A20
  replace H := Option.bind_eq_some_iff.mp H
  obtain ⟨⟨t331, t332, t333⟩, A30, H⟩ := H
  replace H : (if t331 = true then (shibbolethlaw19_RfcFields.l0 k t330 0 t331 t332 t333) else (if (!t331 && (t332.toList == ([] : List UInt8) && (t333.toList == ([] : List UInt8)))) = true then ((shibbolethlaw19_awake.f k).bind fun t335 => (some t335)) else (some false))) = some r := H
  have A3 := Aside0.mk A30
  clear A30
  by_cases c4 : t331 = true
  · subst c4
    have H1 : (shibbolethlaw19_RfcFields.l0 k t330 0 true t332 t333) = some r := by rw [if_pos rfl] at H; exact H
    clear H
    have H := H1
    clear H1
    have H' := Aside0.mk H
    clear H
    go_enter Try.func7, Try.ntmps7
    go_wp2_with (first | ((with_reducible refine gate_callee (f := 13) rfl ?_); refine goesL_ (some 7) rfl rfl Try.func13 (by kernel_rfl) rfl #[.string a0] rfl (by (try simp only [List.map_toArray, List.map_cons, List.map_nil]); first | done | rfl | (simp only [List.length_drop, List.length_take]; rfl)) ?_; (with_reducible refine (shibbolethlaw19_Short.calls a0 t330 _ A2.out).mono ?_); rintro e w' ⟨rfl, ⟨nd, rfl⟩⟩; refine ⟨_, rfl, ?_⟩) | ((with_reducible refine gate_callee (f := 9) rfl ?_); refine goesL_ (some 9) rfl rfl Try.func9 (by kernel_rfl) rfl #[.string t330] rfl (by (try simp only [List.map_toArray, List.map_cons, List.map_nil]); first | done | rfl | (simp only [List.length_drop, List.length_take]; rfl)) ?_; (with_reducible refine (rfc_Parse.calls k t330 true t332 t333 _ A3.out).mono ?_); rintro e w5 ⟨rfl, hb⟩; refine ⟨_, rfl, ?_⟩; have n0_ := Aside0.mk (below_step (by repeat (first | (with_reducible first | exact HB.out | apply below_alloc | apply pw_below_drewN | apply below_drew1) | exact HB.out)) hb); clear HB; have HB := n0_; clear n0_; (try clear hb); (try clear hb2); (try clear hk); (try clear hi)) | ((with_reducible refine gate_dst (N := 3) rfl ?_); refine box_event ?hg (N := 3) ?hd (cs := #[.bool false, .string (⟨#[]⟩ : ByteArray), .string (⟨#[]⟩ : ByteArray)]) (t := 24) ?hr ?_; (case hd => rfl); (case hg => rfl); (case hr => first | (go_simp; done) | (go_simp; rfl)); intro gb334 hg w6 hbox hb; have n0_ := Aside0.mk (below_step (by repeat (first | (with_reducible first | exact HB.out | apply below_alloc | apply pw_below_drewN | apply below_drew1) | exact HB.out)) hb); have n1_ := Aside0.mk (hbox); have n2_ := Aside0.mk ((by rw [hg]; exact (below_size (by repeat (first | (with_reducible first | exact HB.out | apply below_alloc | apply pw_below_drewN | apply below_drew1) | exact HB.out))) : w.heap.size ≤ gb334)); have n3_ := Aside0.mk ((by rw [hg]; exact (below_size (by repeat (first | (with_reducible first | exact HB.out | apply below_alloc | apply pw_below_drewN | apply below_drew1) | exact HB.out))) : w.heap.size ≤ gb334)); clear HB; have HB := n0_; have BK334 := n1_; have GW334 := n2_; have GE334 := n3_; clear n0_ n1_ n2_ n3_; clear hb hbox hg; have hcz7_0 : w6.cell? ⟨gb334, 0, none⟩ = some (.bool false) := (blk_cell BK334.out 0).trans rfl; have hcz7_1 : w6.cell? ⟨gb334, 1, none⟩ = some (.string (⟨#[]⟩ : ByteArray)) := (blk_cell BK334.out 1).trans rfl; have hcz7_2 : w6.cell? ⟨gb334, 2, none⟩ = some (.string (⟨#[]⟩ : ByteArray)) := (blk_cell BK334.out 2).trans rfl; have hfz7_0 := blk_frozen BK334.out 0; have hfz7_1 := blk_frozen BK334.out 1; have hfz7_2 := blk_frozen BK334.out 2))
    go_loopg [4] k (fun kq v4 w' => ∃ (x4_1 : Int), v4 = .int .i64 x4_1 ∧ Aside0 (shibbolethlaw19_RfcFields.l0 kq t330 x4_1 true t332 t333 = some r) ∧ Aside0 (kq ≤ k) ∧ Aside0 (w'.heap[gb334]? = some (.cells #[.bool true, .string t332, .string t333] 24 (0, 0))) ∧ Aside0 (Below w.heap.size w w'))
    case atStart => exact ⟨(0), (by first | rfl | (simp; done) | (simp [*]; done)), H', ⟨Nat.le_refl _⟩, ⟨by (with_reducible repeat (first | refine blk_drewN ?_ _ | refine blk_drew ?_ | refine blk_alloc ?_ _)); refine blk_put (cs := #[.bool true, .string t332, .string (⟨#[]⟩ : ByteArray)]) ?_ 2 _ rfl; (with_reducible repeat (first | refine blk_drewN ?_ _ | refine blk_drew ?_ | refine blk_alloc ?_ _)); refine blk_put (cs := #[.bool true, .string (⟨#[]⟩ : ByteArray), .string (⟨#[]⟩ : ByteArray)]) ?_ 1 _ rfl; (with_reducible repeat (first | refine blk_drewN ?_ _ | refine blk_drew ?_ | refine blk_alloc ?_ _)); refine blk_put (cs := #[.bool false, .string (⟨#[]⟩ : ByteArray), .string (⟨#[]⟩ : ByteArray)]) ?_ 0 _ rfl; (with_reducible repeat (first | refine blk_drewN ?_ _ | refine blk_drew ?_ | refine blk_alloc ?_ _)); exact BK334.out⟩, ⟨by repeat (first | (with_reducible first | exact HB.out | apply below_alloc | apply pw_below_drewN | apply below_drew1 | refine below_set ?_ GE334.out) | exact HB.out)⟩⟩
    case round =>
      clear H'
      try clear c1
      try clear p2
      try clear c4
      try clear c7
      try clear hcz7_0
      try clear hcz7_1
      try clear hcz7_2
      try clear hfz7_0
      try clear hfz7_1
      try clear hfz7_2
      obtain ⟨x4_1, rfl, HA, HK1, BK334, HB⟩ := hrel
      cases gk with
      | zero => exact absurd HA.out (by simp [shibbolethlaw19_RfcFields.l0])
      | succ k1 =>
        have H := HA.out
        clear HA
        simp only [shibbolethlaw19_RfcFields.l0] at H
        by_cases c8 : x4_1 < (t330.size : Int)
        · rw [if_pos c8] at H
          have c8b0 : decide (x4_1 < (t330.size : Int)) = true := decide_eq_true c8
          clear c8
          by_cases c9 : 0 ≤ x4_1
          · rw [if_pos c9] at H
            have c9b0 : decide (0 ≤ x4_1) = true := decide_eq_true c9
            clear c9
            by_cases c11 : (bt t330 x4_1) < 33
            · rw [if_pos c11] at H
              have c11b0 : decide ((bt t330 x4_1) < 33) = true := decide_eq_true c11
              clear c11
              obtain rfl := Option.some.inj H
              have p10 : 0 ≤ (x4_1 : Int) := of_decide_eq_true (by first | (with_reducible assumption) | assumption)
              have q10 : x4_1 < (t330.size : Int) := of_decide_eq_true (by first | (with_reducible assumption) | assumption)
              have hx10 := bt_at t330 x4_1
              replace p10 := eq_true p10
              replace q10 := eq_true q10
              go_wp2
              go_ret
              exact ⟨by first | rfl | (simp [errW_none, errW_some] <;> rfl) | (simp [*, errW_none, errW_some] <;> rfl), by repeat (first | (with_reducible first | exact HB.out | apply below_alloc | apply pw_below_drewN | apply below_drew1 | refine below_set ?_ GE334.out) | exact HB.out)⟩
            · rw [if_neg c11] at H
              have c11b0 : decide ((bt t330 x4_1) < 33) = false := decide_eq_false c11
              clear c11
              by_cases c13 : (bt t330 x4_1) > 126
              · rw [if_pos c13] at H
                have c13b0 : decide (126 < (bt t330 x4_1)) = true := decide_eq_true c13
                clear c13
                obtain rfl := Option.some.inj H
                have p10 : 0 ≤ (x4_1 : Int) := of_decide_eq_true (by first | (with_reducible assumption) | assumption)
                have q10 : x4_1 < (t330.size : Int) := of_decide_eq_true (by first | (with_reducible assumption) | assumption)
                have hx10 := bt_at t330 x4_1
                replace p10 := eq_true p10
                replace q10 := eq_true q10
                have p12 : 0 ≤ (x4_1 : Int) := of_decide_eq_true (by first | (with_reducible assumption) | assumption)
                have q12 : x4_1 < (t330.size : Int) := of_decide_eq_true (by first | (with_reducible assumption) | assumption)
                have hx12 := bt_at t330 x4_1
                replace p12 := eq_true p12
                replace q12 := eq_true q12
                go_wp2
                go_ret
                exact ⟨by first | rfl | (simp [errW_none, errW_some] <;> rfl) | (simp [*, errW_none, errW_some] <;> rfl), by repeat (first | (with_reducible first | exact HB.out | apply below_alloc | apply pw_below_drewN | apply below_drew1 | refine below_set ?_ GE334.out) | exact HB.out)⟩
              · rw [if_neg c13] at H
                have c13b0 : decide (126 < (bt t330 x4_1)) = false := decide_eq_false c13
                clear c13
                have c14b0 := eq_true (of_decide_eq_true (by first | (with_reducible assumption) | assumption) : 0 ≤ x4_1)
                by_cases c15 : x4_1 ≤ (wrap64 (x4_1 + 1))
                · rw [if_pos c15] at H
                  have c15b0 := eq_true c15
                  have c15b1 : decide (x4_1 ≤ (wrap64 (x4_1 + 1))) = true := decide_eq_true c15
                  by_cases c16 : (wrap64 (x4_1 + 1)) ≤ (t330.size : Int)
                  · rw [if_pos c16] at H
                    have c16b0 := eq_true c16
                    have c16b1 : decide ((wrap64 (x4_1 + 1)) ≤ (t330.size : Int)) = true := decide_eq_true c16
                    replace H := Option.bind_eq_some_iff.mp H
                    obtain ⟨t336, A170, H⟩ := H
                    replace H : (if t336 = true then (some false) else (shibbolethlaw19_RfcFields.l0 k1 t330 (wrap64 (x4_1 + 1)) true t332 t333)) = some r := H
                    have A17 := Aside0.mk A170
                    clear A170
                    by_cases c18 : t336 = true
                    · subst c18
                      have H1 : (some false) = some r := by rw [if_pos rfl] at H; exact H
                      clear H
                      have H := H1
                      clear H1
                      obtain rfl := Option.some.inj H
                      have p10 : 0 ≤ (x4_1 : Int) := of_decide_eq_true (by first | (with_reducible assumption) | assumption)
                      have q10 : x4_1 < (t330.size : Int) := of_decide_eq_true (by first | (with_reducible assumption) | assumption)
                      have hx10 := bt_at t330 x4_1
                      replace p10 := eq_true p10
                      replace q10 := eq_true q10
                      have p12 : 0 ≤ (x4_1 : Int) := of_decide_eq_true (by first | (with_reducible assumption) | assumption)
                      have q12 : x4_1 < (t330.size : Int) := of_decide_eq_true (by first | (with_reducible assumption) | assumption)
                      have hx12 := bt_at t330 x4_1
                      replace p12 := eq_true p12
                      replace q12 := eq_true q12
                      go_wp2_with (first | (go_at_call 14; (with_reducible refine (shibbolethlaw19_has.calls k1 (t330.extract (x4_1 : Int).toNat ((wrap64 (x4_1 + 1)) : Int).toNat) (⟨#[34, 60, 62, 92, 94, 96, 123, 124, 125]⟩ : ByteArray) true _ A17.out).mono ?_); rintro e w' ⟨rfl, ⟨nd, rfl⟩⟩))
                      go_ret
                      exact ⟨by first | rfl | (simp [errW_none, errW_some] <;> rfl) | (simp [*, errW_none, errW_some] <;> rfl), by repeat (first | (with_reducible first | exact HB.out | apply below_alloc | apply pw_below_drewN | apply below_drew1 | refine below_set ?_ GE334.out) | exact HB.out)⟩
                    · replace c18 := Bool.eq_false_iff.mpr c18
                      subst c18
                      have H1 : (shibbolethlaw19_RfcFields.l0 k1 t330 (wrap64 (x4_1 + 1)) true t332 t333) = some r := by rw [if_neg (show ¬ (false = true) by decide)] at H; exact H
                      clear H
                      have H := H1
                      clear H1
                      have H' := Aside0.mk H
                      clear H
                      have p10 : 0 ≤ (x4_1 : Int) := of_decide_eq_true (by first | (with_reducible assumption) | assumption)
                      have q10 : x4_1 < (t330.size : Int) := of_decide_eq_true (by first | (with_reducible assumption) | assumption)
                      have hx10 := bt_at t330 x4_1
                      replace p10 := eq_true p10
                      replace q10 := eq_true q10
                      have p12 : 0 ≤ (x4_1 : Int) := of_decide_eq_true (by first | (with_reducible assumption) | assumption)
                      have q12 : x4_1 < (t330.size : Int) := of_decide_eq_true (by first | (with_reducible assumption) | assumption)
                      have hx12 := bt_at t330 x4_1
                      replace p12 := eq_true p12
                      replace q12 := eq_true q12
                      go_wp2_with (first | (go_at_call 14; (with_reducible refine (shibbolethlaw19_has.calls k1 (t330.extract (x4_1 : Int).toNat ((wrap64 (x4_1 + 1)) : Int).toNat) (⟨#[34, 60, 62, 92, 94, 96, 123, 124, 125]⟩ : ByteArray) false _ A17.out).mono ?_); rintro e w' ⟨rfl, ⟨nd, rfl⟩⟩))
                      go_roundg k1
                      case measure => have := HK1.out; omega
                      case rel => exact ⟨(wrap64 (x4_1 + 1)), (by first | rfl | (simp; done) | (simp [*]; done)), H', ⟨by have := HK1.out; omega⟩, ⟨by (with_reducible repeat (first | refine blk_drewN ?_ _ | refine blk_drew ?_ | refine blk_alloc ?_ _)); exact BK334.out⟩, ⟨by repeat (first | (with_reducible first | exact HB.out | apply below_alloc | apply pw_below_drewN | apply below_drew1 | refine below_set ?_ GE334.out) | exact HB.out)⟩⟩
                  · rw [if_neg c16] at H
                    exact absurd H (by simp)
                · rw [if_neg c15] at H
                  exact absurd H (by simp)
          · rw [if_neg c9] at H
            exact absurd H (by simp)
        · rw [if_neg c8] at H
          have c8b0 : decide (x4_1 < (t330.size : Int)) = false := decide_eq_false c8
          clear c8
          have HC19 := Aside0.mk H
          clear H
          go_upto_region 10 with (fail)
          go_cut [62] (fun v62 wc => ∃ (kq : Nat) (x62_18 : Bool), v62 = .bool x62_18 ∧ Aside0 (shibbolethlaw19_RfcFields.j1 kq x62_18 true t332 t333 = some r) ∧ Aside0 (kq ≤ k1) ∧ Aside0 (wc.heap[gb334]? = some (.cells #[.bool true, .string t332, .string t333] 24 (0, 0))) ∧ Aside0 (Below w.heap.size w wc))
          case first =>
            have H := HC19.out
            clear HC19
            replace H := Option.bind_eq_some_iff.mp H
            obtain ⟨t337, A200, H⟩ := H
            replace H : (if t337 = true then (shibbolethlaw19_RfcFields.j1 k1 true true t332 t333) else ((shibbolethlaw19_has.f k1 t333 (⟨#[63, 35, 91, 93]⟩ : ByteArray)).bind fun t338 => (if t338 = true then (shibbolethlaw19_RfcFields.j1 k1 true true t332 t333) else ((percent_Valid.f k1 t332).bind fun t339 => (if t339 = true then ((percent_Valid.f k1 t333).bind fun t340 => (shibbolethlaw19_RfcFields.j1 k1 (!t340) true t332 t333)) else (shibbolethlaw19_RfcFields.j1 k1 true true t332 t333)))))) = some r := H
            have A20 := Aside0.mk A200
            clear A200
            by_cases c21 : t337 = true
            · subst c21
              have H1 : (shibbolethlaw19_RfcFields.j1 k1 true true t332 t333) = some r := by rw [if_pos rfl] at H; exact H
              clear H
              have H := H1
              clear H1
              have H' := Aside0.mk H
              clear H
              have hcz22_0 : wr.cell? ⟨gb334, 0, none⟩ = some (.bool true) := (blk_cell BK334.out 0).trans rfl
              have hcz22_1 : wr.cell? ⟨gb334, 1, none⟩ = some (.string t332) := (blk_cell BK334.out 1).trans rfl
              have hcz22_2 : wr.cell? ⟨gb334, 2, none⟩ = some (.string t333) := (blk_cell BK334.out 2).trans rfl
              have hfz22_0 := blk_frozen BK334.out 0
              have hfz22_1 := blk_frozen BK334.out 1
              have hfz22_2 := blk_frozen BK334.out 2
              go_wp2_with (first | ((with_reducible refine gate_callee (f := 14) rfl ?_); refine goesL_ (some 45) rfl rfl Try.func14 (by kernel_rfl) rfl #[.string t332, .string (⟨#[47, 63, 35, 64]⟩ : ByteArray)] rfl (by (try simp only [List.map_toArray, List.map_cons, List.map_nil]); first | done | rfl | (simp only [List.length_drop, List.length_take]; rfl)) ?_; (with_reducible refine (shibbolethlaw19_has.calls k1 t332 (⟨#[47, 63, 35, 64]⟩ : ByteArray) true _ A20.out).mono ?_); rintro e w' ⟨rfl, ⟨nd, rfl⟩⟩; refine ⟨_, rfl, ?_⟩))
              go_meet
              case rel => exact ⟨_, (true), (by first | rfl | (simp; done) | (simp [*]; done)), H', ⟨by have := HK1.out; first | omega | exact Nat.le_refl _⟩, ⟨by (with_reducible repeat (first | refine blk_drewN ?_ _ | refine blk_drew ?_ | refine blk_alloc ?_ _)); exact BK334.out⟩, ⟨by repeat (first | (with_reducible first | exact HB.out | apply below_alloc | apply pw_below_drewN | apply below_drew1 | refine below_set ?_ GE334.out) | exact HB.out)⟩⟩
            · replace c21 := Bool.eq_false_iff.mpr c21
              subst c21
              have H1 : ((shibbolethlaw19_has.f k1 t333 (⟨#[63, 35, 91, 93]⟩ : ByteArray)).bind fun t338 => (if t338 = true then (shibbolethlaw19_RfcFields.j1 k1 true true t332 t333) else ((percent_Valid.f k1 t332).bind fun t339 => (if t339 = true then ((percent_Valid.f k1 t333).bind fun t340 => (shibbolethlaw19_RfcFields.j1 k1 (!t340) true t332 t333)) else (shibbolethlaw19_RfcFields.j1 k1 true true t332 t333))))) = some r := by rw [if_neg (show ¬ (false = true) by decide)] at H; exact H
              clear H
              have H := H1
              clear H1
              replace H := Option.bind_eq_some_iff.mp H
              obtain ⟨t338, A230, H⟩ := H
              replace H : (if t338 = true then (shibbolethlaw19_RfcFields.j1 k1 true true t332 t333) else ((percent_Valid.f k1 t332).bind fun t339 => (if t339 = true then ((percent_Valid.f k1 t333).bind fun t340 => (shibbolethlaw19_RfcFields.j1 k1 (!t340) true t332 t333)) else (shibbolethlaw19_RfcFields.j1 k1 true true t332 t333)))) = some r := H
              have A23 := Aside0.mk A230
              clear A230
              by_cases c24 : t338 = true
              · subst c24
                have H1 : (shibbolethlaw19_RfcFields.j1 k1 true true t332 t333) = some r := by rw [if_pos rfl] at H; exact H
                clear H
                have H := H1
                clear H1
                have H' := Aside0.mk H
                clear H
                have hcz25_0 : wr.cell? ⟨gb334, 0, none⟩ = some (.bool true) := (blk_cell BK334.out 0).trans rfl
                have hcz25_1 : wr.cell? ⟨gb334, 1, none⟩ = some (.string t332) := (blk_cell BK334.out 1).trans rfl
                have hcz25_2 : wr.cell? ⟨gb334, 2, none⟩ = some (.string t333) := (blk_cell BK334.out 2).trans rfl
                have hfz25_0 := blk_frozen BK334.out 0
                have hfz25_1 := blk_frozen BK334.out 1
                have hfz25_2 := blk_frozen BK334.out 2
                go_wp2_with (first | ((with_reducible refine gate_callee (f := 14) rfl ?_); refine goesL_ (some 45) rfl rfl Try.func14 (by kernel_rfl) rfl #[.string t332, .string (⟨#[47, 63, 35, 64]⟩ : ByteArray)] rfl (by (try simp only [List.map_toArray, List.map_cons, List.map_nil]); first | done | rfl | (simp only [List.length_drop, List.length_take]; rfl)) ?_; (with_reducible refine (shibbolethlaw19_has.calls k1 t332 (⟨#[47, 63, 35, 64]⟩ : ByteArray) false _ A20.out).mono ?_); rintro e w' ⟨rfl, ⟨nd, rfl⟩⟩; refine ⟨_, rfl, ?_⟩) | (go_at_call 14; (with_reducible refine (shibbolethlaw19_has.calls k1 t333 (⟨#[63, 35, 91, 93]⟩ : ByteArray) true _ A23.out).mono ?_); rintro e w' ⟨rfl, ⟨nd, rfl⟩⟩))
                go_meet
                case rel => exact ⟨_, (true), (by first | rfl | (simp; done) | (simp [*]; done)), H', ⟨by have := HK1.out; first | omega | exact Nat.le_refl _⟩, ⟨by (with_reducible repeat (first | refine blk_drewN ?_ _ | refine blk_drew ?_ | refine blk_alloc ?_ _)); exact BK334.out⟩, ⟨by repeat (first | (with_reducible first | exact HB.out | apply below_alloc | apply pw_below_drewN | apply below_drew1 | refine below_set ?_ GE334.out) | exact HB.out)⟩⟩
              · replace c24 := Bool.eq_false_iff.mpr c24
                subst c24
                have H1 : ((percent_Valid.f k1 t332).bind fun t339 => (if t339 = true then ((percent_Valid.f k1 t333).bind fun t340 => (shibbolethlaw19_RfcFields.j1 k1 (!t340) true t332 t333)) else (shibbolethlaw19_RfcFields.j1 k1 true true t332 t333))) = some r := by rw [if_neg (show ¬ (false = true) by decide)] at H; exact H
                clear H
                have H := H1
                clear H1
                replace H := Option.bind_eq_some_iff.mp H
                obtain ⟨t339, A260, H⟩ := H
                replace H : (if t339 = true then ((percent_Valid.f k1 t333).bind fun t340 => (shibbolethlaw19_RfcFields.j1 k1 (!t340) true t332 t333)) else (shibbolethlaw19_RfcFields.j1 k1 true true t332 t333)) = some r := H
                have A26 := Aside0.mk A260
                clear A260
                by_cases c27 : t339 = true
                · subst c27
                  have H1 : ((percent_Valid.f k1 t333).bind fun t340 => (shibbolethlaw19_RfcFields.j1 k1 (!t340) true t332 t333)) = some r := by rw [if_pos rfl] at H; exact H
                  clear H
                  have H := H1
                  clear H1
                  replace H := Option.bind_eq_some_iff.mp H
                  obtain ⟨t340, A280, H⟩ := H
                  replace H : (shibbolethlaw19_RfcFields.j1 k1 (!t340) true t332 t333) = some r := H
                  have A28 := Aside0.mk A280
                  clear A280
                  have H' := Aside0.mk H
                  clear H
                  have hcz29_0 : wr.cell? ⟨gb334, 0, none⟩ = some (.bool true) := (blk_cell BK334.out 0).trans rfl
                  have hcz29_1 : wr.cell? ⟨gb334, 1, none⟩ = some (.string t332) := (blk_cell BK334.out 1).trans rfl
                  have hcz29_2 : wr.cell? ⟨gb334, 2, none⟩ = some (.string t333) := (blk_cell BK334.out 2).trans rfl
                  have hfz29_0 := blk_frozen BK334.out 0
                  have hfz29_1 := blk_frozen BK334.out 1
                  have hfz29_2 := blk_frozen BK334.out 2
                  go_wp2_with (first | ((with_reducible refine gate_callee (f := 14) rfl ?_); refine goesL_ (some 45) rfl rfl Try.func14 (by kernel_rfl) rfl #[.string t332, .string (⟨#[47, 63, 35, 64]⟩ : ByteArray)] rfl (by (try simp only [List.map_toArray, List.map_cons, List.map_nil]); first | done | rfl | (simp only [List.length_drop, List.length_take]; rfl)) ?_; (with_reducible refine (shibbolethlaw19_has.calls k1 t332 (⟨#[47, 63, 35, 64]⟩ : ByteArray) false _ A20.out).mono ?_); rintro e w' ⟨rfl, ⟨nd, rfl⟩⟩; refine ⟨_, rfl, ?_⟩) | (go_at_call 14; (with_reducible refine (shibbolethlaw19_has.calls k1 t333 (⟨#[63, 35, 91, 93]⟩ : ByteArray) false _ A23.out).mono ?_); rintro e w' ⟨rfl, ⟨nd, rfl⟩⟩) | (go_at_call 16; (with_reducible refine (percent_Valid.calls k1 t332 true _ A26.out).mono ?_); rintro e w' ⟨rfl, ⟨nd, rfl⟩⟩) | (go_at_call 16; (with_reducible refine (percent_Valid.calls k1 t333 t340 _ A28.out).mono ?_); rintro e w' ⟨rfl, ⟨nd, rfl⟩⟩))
                  go_meet
                  case rel => exact ⟨_, (!t340), (by first | rfl | (simp; done) | (simp [*]; done)), H', ⟨by have := HK1.out; first | omega | exact Nat.le_refl _⟩, ⟨by (with_reducible repeat (first | refine blk_drewN ?_ _ | refine blk_drew ?_ | refine blk_alloc ?_ _)); exact BK334.out⟩, ⟨by repeat (first | (with_reducible first | exact HB.out | apply below_alloc | apply pw_below_drewN | apply below_drew1 | refine below_set ?_ GE334.out) | exact HB.out)⟩⟩
                · replace c27 := Bool.eq_false_iff.mpr c27
                  subst c27
                  have H1 : (shibbolethlaw19_RfcFields.j1 k1 true true t332 t333) = some r := by rw [if_neg (show ¬ (false = true) by decide)] at H; exact H
                  clear H
                  have H := H1
                  clear H1
                  have H' := Aside0.mk H
                  clear H
                  have hcz30_0 : wr.cell? ⟨gb334, 0, none⟩ = some (.bool true) := (blk_cell BK334.out 0).trans rfl
                  have hcz30_1 : wr.cell? ⟨gb334, 1, none⟩ = some (.string t332) := (blk_cell BK334.out 1).trans rfl
                  have hcz30_2 : wr.cell? ⟨gb334, 2, none⟩ = some (.string t333) := (blk_cell BK334.out 2).trans rfl
                  have hfz30_0 := blk_frozen BK334.out 0
                  have hfz30_1 := blk_frozen BK334.out 1
                  have hfz30_2 := blk_frozen BK334.out 2
                  go_wp2_with (first | ((with_reducible refine gate_callee (f := 14) rfl ?_); refine goesL_ (some 45) rfl rfl Try.func14 (by kernel_rfl) rfl #[.string t332, .string (⟨#[47, 63, 35, 64]⟩ : ByteArray)] rfl (by (try simp only [List.map_toArray, List.map_cons, List.map_nil]); first | done | rfl | (simp only [List.length_drop, List.length_take]; rfl)) ?_; (with_reducible refine (shibbolethlaw19_has.calls k1 t332 (⟨#[47, 63, 35, 64]⟩ : ByteArray) false _ A20.out).mono ?_); rintro e w' ⟨rfl, ⟨nd, rfl⟩⟩; refine ⟨_, rfl, ?_⟩) | (go_at_call 14; (with_reducible refine (shibbolethlaw19_has.calls k1 t333 (⟨#[63, 35, 91, 93]⟩ : ByteArray) false _ A23.out).mono ?_); rintro e w' ⟨rfl, ⟨nd, rfl⟩⟩) | (go_at_call 16; (with_reducible refine (percent_Valid.calls k1 t332 false _ A26.out).mono ?_); rintro e w' ⟨rfl, ⟨nd, rfl⟩⟩))
                  go_meet
                  case rel => exact ⟨_, (true), (by first | rfl | (simp; done) | (simp [*]; done)), H', ⟨by have := HK1.out; first | omega | exact Nat.le_refl _⟩, ⟨by (with_reducible repeat (first | refine blk_drewN ?_ _ | refine blk_drew ?_ | refine blk_alloc ?_ _)); exact BK334.out⟩, ⟨by repeat (first | (with_reducible first | exact HB.out | apply below_alloc | apply pw_below_drewN | apply below_drew1 | refine below_set ?_ GE334.out) | exact HB.out)⟩⟩
          case rest =>
            clear HC19
            try clear c1
            try clear p1
            try clear q1
            try clear hx1
            try clear c2
            try clear p2
            try clear c4
            try clear p6
            try clear c7
            try clear c8
            try clear c8b0
            try clear c9
            try clear c9b0
            try clear p10
            try clear q10
            try clear hx10
            try clear c11
            try clear c11b0
            try clear p12
            try clear q12
            try clear hx12
            try clear c13
            try clear c13b0
            try clear c14
            try clear c14b0
            try clear c15
            try clear c15b0
            try clear c15b1
            try clear c16
            try clear c16b0
            try clear c16b1
            try clear c18
            try clear c21
            try clear c24
            try clear c27
            try clear hcz22_0
            try clear hcz22_1
            try clear hcz22_2
            try clear hcz25_0
            try clear hcz25_1
            try clear hcz25_2
            try clear hcz29_0
            try clear hcz29_1
            try clear hcz29_2
            try clear hcz30_0
            try clear hcz30_1
            try clear hcz30_2
            try clear hcz7_0
            try clear hcz7_1
            try clear hcz7_2
            try clear hfz22_0
            try clear hfz22_1
            try clear hfz22_2
            try clear hfz25_0
            try clear hfz25_1
            try clear hfz25_2
            try clear hfz29_0
            try clear hfz29_1
            try clear hfz29_2
            try clear hfz30_0
            try clear hfz30_1
            try clear hfz30_2
            try clear hfz7_0
            try clear hfz7_1
            try clear hfz7_2
            try clear p10
            try clear p12
            try clear p2
            try clear q10
            try clear q12
            obtain ⟨kq, x62_18, rfl, HA, HJ18, BK334, HB⟩ := hcut
            cases kq with
            | zero => exact absurd HA.out (by simp [shibbolethlaw19_RfcFields.j1])
            | succ kj18 =>
              have H := HA.out
              clear HA
              simp only [shibbolethlaw19_RfcFields.j1] at H
              by_cases c31 : x62_18 = true
              · subst c31
                have H1 : (some false) = some r := by rw [if_pos rfl] at H; exact H
                clear H
                have H := H1
                clear H1
                obtain rfl := Option.some.inj H
                go_wp2
                go_ret
                exact ⟨by first | rfl | (simp [errW_none, errW_some] <;> rfl) | (simp [*, errW_none, errW_some] <;> rfl), by repeat (first | (with_reducible first | exact HB.out | apply below_alloc | apply pw_below_drewN | apply below_drew1 | refine below_set ?_ GE334.out) | exact HB.out)⟩
              · replace c31 := Bool.eq_false_iff.mpr c31
                subst c31
                have H1 : (if (t332.size : Int) > 0 then (if 0 < (t332.size : Int) then (shibbolethlaw19_RfcFields.j2 kj18 (t332.size : Int) ((bt t332 0) == 91) true t332 t333) else (none)) else (shibbolethlaw19_RfcFields.j2 kj18 (t332.size : Int) false true t332 t333)) = some r := by rw [if_neg (show ¬ (false = true) by decide)] at H; exact H
                clear H
                have H := H1
                clear H1
                have HC32 := Aside0.mk H
                clear H
                have hcz33_0 : wc.cell? ⟨gb334, 0, none⟩ = some (.bool true) := (blk_cell BK334.out 0).trans rfl
                have hcz33_1 : wc.cell? ⟨gb334, 1, none⟩ = some (.string t332) := (blk_cell BK334.out 1).trans rfl
                have hcz33_2 : wc.cell? ⟨gb334, 2, none⟩ = some (.string t333) := (blk_cell BK334.out 2).trans rfl
                have hfz33_0 := blk_frozen BK334.out 0
                have hfz33_1 := blk_frozen BK334.out 1
                have hfz33_2 := blk_frozen BK334.out 2
                go_upto_region 13 with (fail)
                go_cut [73] (fun v73 wc => ∃ (kq : Nat) (x73_31 : Bool), v73 = .bool x73_31 ∧ Aside0 (shibbolethlaw19_RfcFields.j2 kq (t332.size : Int) x73_31 true t332 t333 = some r) ∧ Aside0 (kq ≤ kj18) ∧ Aside0 (wc.heap[gb334]? = some (.cells #[.bool true, .string t332, .string t333] 24 (0, 0))) ∧ Aside0 (Below w.heap.size w wc))
                case first =>
                  have H := HC32.out
                  clear HC32
                  by_cases c34 : (t332.size : Int) > 0
                  · rw [if_pos c34] at H
                    have c34b0 : decide (0 < (t332.size : Int)) = true := decide_eq_true c34
                    have c34b1 : decide (0 < t332.size) = true := decide_eq_true (by omega)
                    clear c34
                    (first | rw [c34b0] | (simp only [i64_w, i32_w]; rw [c34b0]) | skip)
                    by_cases c35 : 0 < (t332.size : Int)
                    · rw [if_pos c35] at H
                      have c35b0 : decide (0 < (t332.size : Int)) = true := decide_eq_true c35
                      have c35b1 : decide (0 < t332.size) = true := decide_eq_true (by omega)
                      clear c35
                      have H' := Aside0.mk H
                      clear H
                      have hcz37_0 : wc.cell? ⟨gb334, 0, none⟩ = some (.bool true) := (blk_cell BK334.out 0).trans rfl
                      have hcz37_1 : wc.cell? ⟨gb334, 1, none⟩ = some (.string t332) := (blk_cell BK334.out 1).trans rfl
                      have hcz37_2 : wc.cell? ⟨gb334, 2, none⟩ = some (.string t333) := (blk_cell BK334.out 2).trans rfl
                      have hfz37_0 := blk_frozen BK334.out 0
                      have hfz37_1 := blk_frozen BK334.out 1
                      have hfz37_2 := blk_frozen BK334.out 2
                      have p36 : 0 ≤ (0 : Int) := (by omega)
                      have q36 : 0 < t332.size := (by have : (0 : Int) < (t332.size : Int) := of_decide_eq_true (by first | (with_reducible assumption) | assumption); omega)
                      have hx36 : ∀ h : 0 < t332.size, ((t332[0]'h).toNat : Int) = bt t332 0 := bt_at t332 0
                      clear p36
                      have qi36 : (0 < (t332.size : Int)) = True := eq_true (of_decide_eq_true (by first | (with_reducible assumption) | assumption))
                      replace q36 := eq_true q36
                      go_wp2
                      go_meet
                      case rel => exact ⟨_, (((bt t332 0) == 91)), (by first | rfl | (simp; done) | (simp [*]; done)), H', ⟨by have := HK1.out; have := HJ18.out; first | omega | exact Nat.le_refl _⟩, ⟨by (with_reducible repeat (first | refine blk_drewN ?_ _ | refine blk_drew ?_ | refine blk_alloc ?_ _)); exact BK334.out⟩, ⟨by repeat (first | (with_reducible first | exact HB.out | apply below_alloc | apply pw_below_drewN | apply below_drew1 | refine below_set ?_ GE334.out) | exact HB.out)⟩⟩
                    · rw [if_neg c35] at H
                      exact absurd H (by simp)
                  · rw [if_neg c34] at H
                    have c34b0 : decide (0 < (t332.size : Int)) = false := decide_eq_false c34
                    have c34b1 : decide (0 < t332.size) = false := decide_eq_false (by omega)
                    clear c34
                    (first | rw [c34b0] | (simp only [i64_w, i32_w]; rw [c34b0]) | skip)
                    have H' := Aside0.mk H
                    clear H
                    go_wp2
                    go_meet
                    case rel => exact ⟨_, (false), (by first | rfl | (simp; done) | (simp [*]; done)), H', ⟨by have := HK1.out; have := HJ18.out; first | omega | exact Nat.le_refl _⟩, ⟨by (with_reducible repeat (first | refine blk_drewN ?_ _ | refine blk_drew ?_ | refine blk_alloc ?_ _)); exact BK334.out⟩, ⟨by repeat (first | (with_reducible first | exact HB.out | apply below_alloc | apply pw_below_drewN | apply below_drew1 | refine below_set ?_ GE334.out) | exact HB.out)⟩⟩
                case rest =>
                  clear HC32
                  try clear c1
                  try clear p1
                  try clear q1
                  try clear hx1
                  try clear c2
                  try clear p2
                  try clear c3
                  try clear p3
                  try clear q3
                  try clear hx3
                  try clear qi3
                  try clear c4
                  try clear p6
                  try clear c7
                  try clear c8
                  try clear c8b0
                  try clear c9
                  try clear c9b0
                  try clear p10
                  try clear q10
                  try clear hx10
                  try clear c11
                  try clear c11b0
                  try clear p12
                  try clear q12
                  try clear hx12
                  try clear c13
                  try clear c13b0
                  try clear c14
                  try clear c14b0
                  try clear c15
                  try clear c15b0
                  try clear c15b1
                  try clear c16
                  try clear c16b0
                  try clear c16b1
                  try clear c18
                  try clear c21
                  try clear c24
                  try clear c27
                  try clear c31
                  try clear c34
                  try clear c34b0
                  try clear c34b1
                  try clear c35
                  try clear c35b0
                  try clear c35b1
                  try clear p36
                  try clear q36
                  try clear hx36
                  try clear qi36
                  try clear hcz22_0
                  try clear hcz22_1
                  try clear hcz22_2
                  try clear hcz25_0
                  try clear hcz25_1
                  try clear hcz25_2
                  try clear hcz29_0
                  try clear hcz29_1
                  try clear hcz29_2
                  try clear hcz30_0
                  try clear hcz30_1
                  try clear hcz30_2
                  try clear hcz33_0
                  try clear hcz33_1
                  try clear hcz33_2
                  try clear hcz37_0
                  try clear hcz37_1
                  try clear hcz37_2
                  try clear hcz7_0
                  try clear hcz7_1
                  try clear hcz7_2
                  try clear hfz22_0
                  try clear hfz22_1
                  try clear hfz22_2
                  try clear hfz25_0
                  try clear hfz25_1
                  try clear hfz25_2
                  try clear hfz29_0
                  try clear hfz29_1
                  try clear hfz29_2
                  try clear hfz30_0
                  try clear hfz30_1
                  try clear hfz30_2
                  try clear hfz33_0
                  try clear hfz33_1
                  try clear hfz33_2
                  try clear hfz37_0
                  try clear hfz37_1
                  try clear hfz37_2
                  try clear hfz7_0
                  try clear hfz7_1
                  try clear hfz7_2
                  try clear p1
                  try clear p10
                  try clear p12
                  try clear p2
                  try clear p36
                  try clear p6
                  try clear q1
                  try clear q10
                  try clear q12
                  try clear q36
                  obtain ⟨kq, x73_31, rfl, HA, HJ31, BK334, HB⟩ := hcut
                  cases kq with
                  | zero => exact absurd HA.out (by simp [shibbolethlaw19_RfcFields.j2])
                  | succ kj31 =>
                    have H := HA.out
                    clear HA
                    simp only [shibbolethlaw19_RfcFields.j2] at H
                    by_cases c38 : x73_31 = true
                    · subst c38
                      have H1 : (if 0 ≤ (wrap64 ((t332.size : Int) - 1)) then (if (wrap64 ((t332.size : Int) - 1)) < (t332.size : Int) then (if (bt t332 (wrap64 ((t332.size : Int) - 1))) = 93 then (if (t332.size : Int) > 2 then ((shibbolethlaw19_awake.f kj31).bind fun t341 => (some t341)) else (some false)) else (some false)) else (none)) else (none)) = some r := by rw [if_pos rfl] at H; exact H
                      clear H
                      have H := H1
                      clear H1
                      obtain ⟨ji39, hji39⟩ : ∃ j_ : Int, (wrap64 ((t332.size : Int) - 1)) = j_ := ⟨_, rfl⟩
                      replace H : (if 0 ≤ (ji39) then (if (ji39) < (t332.size : Int) then (if (bt t332 (ji39)) = 93 then (if (t332.size : Int) > 2 then ((shibbolethlaw19_awake.f kj31).bind fun t341 => (some t341)) else (some false)) else (some false)) else (none)) else (none)) = some r := by first | (rw [hji39] at H; exact H) | (simp only [hji39] at H ⊢; exact H)
                      have hji39w : (IntKind.i64.wrap ((t332.size : Int) - 1)) = ji39 := (i64_w _).trans hji39
                      by_cases c40 : 0 ≤ (ji39)
                      · rw [if_pos c40] at H
                        have c40b0 : decide (0 ≤ (ji39)) = true := decide_eq_true c40
                        clear c40
                        by_cases c41 : (ji39) < (t332.size : Int)
                        · rw [if_pos c41] at H
                          have c41b0 : decide ((ji39) < (t332.size : Int)) = true := decide_eq_true c41
                          clear c41
                          by_cases c43 : (bt t332 (ji39)) = 93
                          · rw [if_pos c43] at H
                            have c43b0 : ((bt t332 (ji39)) == 93) = true := beq_iff_eq.mpr c43
                            have c43b1 : ((bt t332 (ji39)) != 93) = false := bne_eq_false_iff_eq.mpr c43
                            clear c43
                            by_cases c44 : (t332.size : Int) > 2
                            · rw [if_pos c44] at H
                              have c44b0 : decide (2 < (t332.size : Int)) = true := decide_eq_true c44
                              have c44b1 : decide (2 < t332.size) = true := decide_eq_true (by omega)
                              clear c44
                              replace H := Option.bind_eq_some_iff.mp H
                              obtain ⟨t341, A450, H⟩ := H
                              replace H : (some t341) = some r := H
                              have A45 := Aside0.mk A450
                              clear A450
                              obtain rfl := Option.some.inj H
                              have hcz46_0 : wc.cell? ⟨gb334, 0, none⟩ = some (.bool true) := (blk_cell BK334.out 0).trans rfl
                              have hcz46_1 : wc.cell? ⟨gb334, 1, none⟩ = some (.string t332) := (blk_cell BK334.out 1).trans rfl
                              have hcz46_2 : wc.cell? ⟨gb334, 2, none⟩ = some (.string t333) := (blk_cell BK334.out 2).trans rfl
                              have hfz46_0 := blk_frozen BK334.out 0
                              have hfz46_1 := blk_frozen BK334.out 1
                              have hfz46_2 := blk_frozen BK334.out 2
                              have p42 : 0 ≤ ((ji39) : Int) := of_decide_eq_true (by first | (with_reducible assumption) | assumption)
                              have q42 : (ji39) < (t332.size : Int) := of_decide_eq_true (by first | (with_reducible assumption) | assumption)
                              have hx42 := bt_at t332 (ji39)
                              replace p42 := eq_true p42
                              replace q42 := eq_true q42
                              go_wp2_with (first | (go_at_call 11; (with_reducible refine (shibbolethlaw19_awake.calls kj31  t341 _ A45.out).mono ?_); rintro e w47 ⟨rfl, hb⟩; have n0_ := Aside0.mk (blk_below (g := gb334) (o := .cells #[.bool true, .string t332, .string t333] 24 (0, 0)) (by (with_reducible repeat (first | refine blk_drewN ?_ _ | refine blk_drew ?_ | refine blk_alloc ?_ _)); exact BK334.out) hb); have n1_ := Aside0.mk (below_step (by repeat (first | (with_reducible first | exact HB.out | apply below_alloc | apply pw_below_drewN | apply below_drew1 | refine below_set ?_ GE334.out) | exact HB.out)) hb); clear BK334; clear HB; have BK334 := n0_; have HB := n1_; clear n0_ n1_; (try clear hb); (try clear hb2); (try clear hk); (try clear hi)))
                              go_ret
                              exact ⟨by first | rfl | (simp [errW_none, errW_some] <;> rfl) | (simp only [← hji39]; first | rfl | (simp [errW_none, errW_some] <;> rfl)) | (simp [*, errW_none, errW_some] <;> rfl), by repeat (first | (with_reducible first | exact HB.out | apply below_alloc | apply pw_below_drewN | apply below_drew1 | refine below_set ?_ GE334.out) | exact HB.out)⟩
                            · rw [if_neg c44] at H
                              have c44b0 : decide (2 < (t332.size : Int)) = false := decide_eq_false c44
                              have c44b1 : decide (2 < t332.size) = false := decide_eq_false (by omega)
                              clear c44
                              obtain rfl := Option.some.inj H
                              have hcz48_0 : wc.cell? ⟨gb334, 0, none⟩ = some (.bool true) := (blk_cell BK334.out 0).trans rfl
                              have hcz48_1 : wc.cell? ⟨gb334, 1, none⟩ = some (.string t332) := (blk_cell BK334.out 1).trans rfl
                              have hcz48_2 : wc.cell? ⟨gb334, 2, none⟩ = some (.string t333) := (blk_cell BK334.out 2).trans rfl
                              have hfz48_0 := blk_frozen BK334.out 0
                              have hfz48_1 := blk_frozen BK334.out 1
                              have hfz48_2 := blk_frozen BK334.out 2
                              have p42 : 0 ≤ ((ji39) : Int) := of_decide_eq_true (by first | (with_reducible assumption) | assumption)
                              have q42 : (ji39) < (t332.size : Int) := of_decide_eq_true (by first | (with_reducible assumption) | assumption)
                              have hx42 := bt_at t332 (ji39)
                              replace p42 := eq_true p42
                              replace q42 := eq_true q42
                              go_wp2
                              go_ret
                              exact ⟨by first | rfl | (simp [errW_none, errW_some] <;> rfl) | (simp only [← hji39]; first | rfl | (simp [errW_none, errW_some] <;> rfl)) | (simp [*, errW_none, errW_some] <;> rfl), by repeat (first | (with_reducible first | exact HB.out | apply below_alloc | apply pw_below_drewN | apply below_drew1 | refine below_set ?_ GE334.out) | exact HB.out)⟩
                          · rw [if_neg c43] at H
                            have c43b0 : ((bt t332 (ji39)) == 93) = false := beq_eq_false_iff_ne.mpr c43
                            have c43b1 : ((bt t332 (ji39)) != 93) = true := bne_iff_ne.mpr c43
                            obtain rfl := Option.some.inj H
                            have hcz49_0 : wc.cell? ⟨gb334, 0, none⟩ = some (.bool true) := (blk_cell BK334.out 0).trans rfl
                            have hcz49_1 : wc.cell? ⟨gb334, 1, none⟩ = some (.string t332) := (blk_cell BK334.out 1).trans rfl
                            have hcz49_2 : wc.cell? ⟨gb334, 2, none⟩ = some (.string t333) := (blk_cell BK334.out 2).trans rfl
                            have hfz49_0 := blk_frozen BK334.out 0
                            have hfz49_1 := blk_frozen BK334.out 1
                            have hfz49_2 := blk_frozen BK334.out 2
                            have p42 : 0 ≤ ((ji39) : Int) := of_decide_eq_true (by first | (with_reducible assumption) | assumption)
                            have q42 : (ji39) < (t332.size : Int) := of_decide_eq_true (by first | (with_reducible assumption) | assumption)
                            have hx42 := bt_at t332 (ji39)
                            replace p42 := eq_true p42
                            replace q42 := eq_true q42
                            go_wp2
                            go_ret
                            exact ⟨by first | rfl | (simp [errW_none, errW_some] <;> rfl) | (simp only [← hji39]; first | rfl | (simp [errW_none, errW_some] <;> rfl)) | (simp [*, errW_none, errW_some] <;> rfl), by repeat (first | (with_reducible first | exact HB.out | apply below_alloc | apply pw_below_drewN | apply below_drew1 | refine below_set ?_ GE334.out) | exact HB.out)⟩
                        · rw [if_neg c41] at H
                          exact absurd H (by simp)
                      · rw [if_neg c40] at H
                        exact absurd H (by simp)
                    · replace c38 := Bool.eq_false_iff.mpr c38
                      subst c38
                      have H1 : ((shibbolethlaw19_has.f kj31 t332 (⟨#[58, 91, 93]⟩ : ByteArray)).bind fun t342 => (if t342 = true then (some false) else ((shibbolethlaw19_awake.f kj31).bind fun t343 => (some t343)))) = some r := by rw [if_neg (show ¬ (false = true) by decide)] at H; exact H
                      clear H
                      have H := H1
                      clear H1
                      replace H := Option.bind_eq_some_iff.mp H
                      obtain ⟨t342, A500, H⟩ := H
                      replace H : (if t342 = true then (some false) else ((shibbolethlaw19_awake.f kj31).bind fun t343 => (some t343))) = some r := H
                      have A50 := Aside0.mk A500
                      clear A500
                      by_cases c51 : t342 = true
                      · subst c51
                        have H1 : (some false) = some r := by rw [if_pos rfl] at H; exact H
                        clear H
                        have H := H1
                        clear H1
                        obtain rfl := Option.some.inj H
                        have hcz52_0 : wc.cell? ⟨gb334, 0, none⟩ = some (.bool true) := (blk_cell BK334.out 0).trans rfl
                        have hcz52_1 : wc.cell? ⟨gb334, 1, none⟩ = some (.string t332) := (blk_cell BK334.out 1).trans rfl
                        have hcz52_2 : wc.cell? ⟨gb334, 2, none⟩ = some (.string t333) := (blk_cell BK334.out 2).trans rfl
                        have hfz52_0 := blk_frozen BK334.out 0
                        have hfz52_1 := blk_frozen BK334.out 1
                        have hfz52_2 := blk_frozen BK334.out 2
                        go_wp2_with (first | ((with_reducible refine gate_callee (f := 14) rfl ?_); refine goesL_ (some 89) rfl rfl Try.func14 (by kernel_rfl) rfl #[.string t332, .string (⟨#[58, 91, 93]⟩ : ByteArray)] rfl (by (try simp only [List.map_toArray, List.map_cons, List.map_nil]); first | done | rfl | (simp only [List.length_drop, List.length_take]; rfl)) ?_; (with_reducible refine (shibbolethlaw19_has.calls kj31 t332 (⟨#[58, 91, 93]⟩ : ByteArray) true _ A50.out).mono ?_); rintro e w' ⟨rfl, ⟨nd, rfl⟩⟩; refine ⟨_, rfl, ?_⟩))
                        go_ret
                        exact ⟨by first | rfl | (simp [errW_none, errW_some] <;> rfl) | (simp [*, errW_none, errW_some] <;> rfl), by repeat (first | (with_reducible first | exact HB.out | apply below_alloc | apply pw_below_drewN | apply below_drew1 | refine below_set ?_ GE334.out) | exact HB.out)⟩
                      · replace c51 := Bool.eq_false_iff.mpr c51
                        subst c51
                        have H1 : ((shibbolethlaw19_awake.f kj31).bind fun t343 => (some t343)) = some r := by rw [if_neg (show ¬ (false = true) by decide)] at H; exact H
                        clear H
                        have H := H1
                        clear H1
                        replace H := Option.bind_eq_some_iff.mp H
                        obtain ⟨t343, A530, H⟩ := H
                        replace H : (some t343) = some r := H
                        have A53 := Aside0.mk A530
                        clear A530
                        obtain rfl := Option.some.inj H
                        have hcz54_0 : wc.cell? ⟨gb334, 0, none⟩ = some (.bool true) := (blk_cell BK334.out 0).trans rfl
                        have hcz54_1 : wc.cell? ⟨gb334, 1, none⟩ = some (.string t332) := (blk_cell BK334.out 1).trans rfl
                        have hcz54_2 : wc.cell? ⟨gb334, 2, none⟩ = some (.string t333) := (blk_cell BK334.out 2).trans rfl
                        have hfz54_0 := blk_frozen BK334.out 0
                        have hfz54_1 := blk_frozen BK334.out 1
                        have hfz54_2 := blk_frozen BK334.out 2
                        go_wp2_with (first | ((with_reducible refine gate_callee (f := 14) rfl ?_); refine goesL_ (some 89) rfl rfl Try.func14 (by kernel_rfl) rfl #[.string t332, .string (⟨#[58, 91, 93]⟩ : ByteArray)] rfl (by (try simp only [List.map_toArray, List.map_cons, List.map_nil]); first | done | rfl | (simp only [List.length_drop, List.length_take]; rfl)) ?_; (with_reducible refine (shibbolethlaw19_has.calls kj31 t332 (⟨#[58, 91, 93]⟩ : ByteArray) false _ A50.out).mono ?_); rintro e w' ⟨rfl, ⟨nd, rfl⟩⟩; refine ⟨_, rfl, ?_⟩) | (go_at_call 11; (with_reducible refine (shibbolethlaw19_awake.calls kj31  t343 _ A53.out).mono ?_); rintro e w55 ⟨rfl, hb⟩; have n0_ := Aside0.mk (blk_below (g := gb334) (o := .cells #[.bool true, .string t332, .string t333] 24 (0, 0)) (by (with_reducible repeat (first | refine blk_drewN ?_ _ | refine blk_drew ?_ | refine blk_alloc ?_ _)); exact BK334.out) hb); have n1_ := Aside0.mk (below_step (by repeat (first | (with_reducible first | exact HB.out | apply below_alloc | apply pw_below_drewN | apply below_drew1 | refine below_set ?_ GE334.out) | exact HB.out)) hb); clear BK334; clear HB; have BK334 := n0_; have HB := n1_; clear n0_ n1_; (try clear hb); (try clear hb2); (try clear hk); (try clear hi)))
                        go_ret
                        exact ⟨by first | rfl | (simp [errW_none, errW_some] <;> rfl) | (simp [*, errW_none, errW_some] <;> rfl), by repeat (first | (with_reducible first | exact HB.out | apply below_alloc | apply pw_below_drewN | apply below_drew1 | refine below_set ?_ GE334.out) | exact HB.out)⟩
  · replace c4 := Bool.eq_false_iff.mpr c4
    subst c4
    have H1 : (if (!false && (t332.toList == ([] : List UInt8) && (t333.toList == ([] : List UInt8)))) = true then ((shibbolethlaw19_awake.f k).bind fun t335 => (some t335)) else (some false)) = some r := by rw [if_neg (show ¬ (false = true) by decide)] at H; exact H
    clear H
    have H := H1
    clear H1
    by_cases c56 : (!false && (t332.toList == ([] : List UInt8) && (t333.toList == ([] : List UInt8)))) = true
    · rw [if_pos c56] at H
      have c56b0 : (!false && (t332.toList == ([] : List UInt8) && (t333.toList == ([] : List UInt8)))) = true := c56
      (try (have c56b1 : (((t332).toList.isEmpty && ((t333).toList.isEmpty))) = true := by simpa using c56))
      clear c56
      replace H := Option.bind_eq_some_iff.mp H
      obtain ⟨t335, A570, H⟩ := H
      replace H : (some t335) = some r := H
      have A57 := Aside0.mk A570
      clear A570
      obtain rfl := Option.some.inj H
      go_enter Try.func7, Try.ntmps7
      go_wp2_with (first | ((with_reducible refine gate_callee (f := 13) rfl ?_); refine goesL_ (some 7) rfl rfl Try.func13 (by kernel_rfl) rfl #[.string a0] rfl (by (try simp only [List.map_toArray, List.map_cons, List.map_nil]); first | done | rfl | (simp only [List.length_drop, List.length_take]; rfl)) ?_; (with_reducible refine (shibbolethlaw19_Short.calls a0 t330 _ A2.out).mono ?_); rintro e w' ⟨rfl, ⟨nd, rfl⟩⟩; refine ⟨_, rfl, ?_⟩) | ((with_reducible refine gate_callee (f := 9) rfl ?_); refine goesL_ (some 9) rfl rfl Try.func9 (by kernel_rfl) rfl #[.string t330] rfl (by (try simp only [List.map_toArray, List.map_cons, List.map_nil]); first | done | rfl | (simp only [List.length_drop, List.length_take]; rfl)) ?_; (with_reducible refine (rfc_Parse.calls k t330 false t332 t333 _ A3.out).mono ?_); rintro e w58 ⟨rfl, hb⟩; refine ⟨_, rfl, ?_⟩; have n0_ := Aside0.mk (below_step (by repeat (first | (with_reducible first | exact HB.out | apply below_alloc | apply pw_below_drewN | apply below_drew1) | exact HB.out)) hb); clear HB; have HB := n0_; clear n0_; (try clear hb); (try clear hb2); (try clear hk); (try clear hi)) | ((with_reducible refine gate_dst (N := 3) rfl ?_); refine box_event ?hg (N := 3) ?hd (cs := #[.bool false, .string (⟨#[]⟩ : ByteArray), .string (⟨#[]⟩ : ByteArray)]) (t := 24) ?hr ?_; (case hd => rfl); (case hg => rfl); (case hr => first | (go_simp; done) | (go_simp; rfl)); intro gb334 hg w59 hbox hb; have n0_ := Aside0.mk (below_step (by repeat (first | (with_reducible first | exact HB.out | apply below_alloc | apply pw_below_drewN | apply below_drew1) | exact HB.out)) hb); have n1_ := Aside0.mk (hbox); have n2_ := Aside0.mk ((by rw [hg]; exact (below_size (by repeat (first | (with_reducible first | exact HB.out | apply below_alloc | apply pw_below_drewN | apply below_drew1) | exact HB.out))) : w.heap.size ≤ gb334)); have n3_ := Aside0.mk ((by rw [hg]; exact (below_size (by repeat (first | (with_reducible first | exact HB.out | apply below_alloc | apply pw_below_drewN | apply below_drew1) | exact HB.out))) : w.heap.size ≤ gb334)); clear HB; have HB := n0_; have BK334 := n1_; have GW334 := n2_; have GE334 := n3_; clear n0_ n1_ n2_ n3_; clear hb hbox hg; have hcz60_0 : w59.cell? ⟨gb334, 0, none⟩ = some (.bool false) := (blk_cell BK334.out 0).trans rfl; have hcz60_1 : w59.cell? ⟨gb334, 1, none⟩ = some (.string (⟨#[]⟩ : ByteArray)) := (blk_cell BK334.out 1).trans rfl; have hcz60_2 : w59.cell? ⟨gb334, 2, none⟩ = some (.string (⟨#[]⟩ : ByteArray)) := (blk_cell BK334.out 2).trans rfl; have hfz60_0 := blk_frozen BK334.out 0; have hfz60_1 := blk_frozen BK334.out 1; have hfz60_2 := blk_frozen BK334.out 2) | (go_at_call 11; (with_reducible refine (shibbolethlaw19_awake.calls k  t335 _ A57.out).mono ?_); rintro e w61 ⟨rfl, hb⟩; have n0_ := Aside0.mk (blk_below (g := gb334) (o := .cells #[.bool false, .string t332, .string t333] 24 (0, 0)) (by (with_reducible repeat (first | refine blk_drewN ?_ _ | refine blk_drew ?_ | refine blk_alloc ?_ _)); refine blk_put (cs := #[.bool false, .string t332, .string (⟨#[]⟩ : ByteArray)]) ?_ 2 _ rfl; (with_reducible repeat (first | refine blk_drewN ?_ _ | refine blk_drew ?_ | refine blk_alloc ?_ _)); refine blk_put (cs := #[.bool false, .string (⟨#[]⟩ : ByteArray), .string (⟨#[]⟩ : ByteArray)]) ?_ 1 _ rfl; (with_reducible repeat (first | refine blk_drewN ?_ _ | refine blk_drew ?_ | refine blk_alloc ?_ _)); refine blk_put (cs := #[.bool false, .string (⟨#[]⟩ : ByteArray), .string (⟨#[]⟩ : ByteArray)]) ?_ 0 _ rfl; (with_reducible repeat (first | refine blk_drewN ?_ _ | refine blk_drew ?_ | refine blk_alloc ?_ _)); exact BK334.out) hb); have n1_ := Aside0.mk (below_step (by repeat (first | (with_reducible first | exact HB.out | apply below_alloc | apply pw_below_drewN | apply below_drew1 | refine below_set ?_ GE334.out) | exact HB.out)) hb); clear BK334; clear HB; have BK334 := n0_; have HB := n1_; clear n0_ n1_; (try clear hb); (try clear hb2); (try clear hk); (try clear hi)))
      go_ret
      exact ⟨by first | rfl | (simp [errW_none, errW_some] <;> rfl) | (simp [*, errW_none, errW_some] <;> rfl), by repeat (first | (with_reducible first | exact HB.out | apply below_alloc | apply pw_below_drewN | apply below_drew1 | refine below_set ?_ GE334.out) | exact HB.out)⟩
    · rw [if_neg c56] at H
      have c56b0 : (!false && (t332.toList == ([] : List UInt8) && (t333.toList == ([] : List UInt8)))) = false := by simpa using c56
      (try (have c56b1 : (((t332).toList.isEmpty && ((t333).toList.isEmpty))) = false := by simpa using c56))
      clear c56
      obtain rfl := Option.some.inj H
      go_enter Try.func7, Try.ntmps7
      go_wp2_with (first | ((with_reducible refine gate_callee (f := 13) rfl ?_); refine goesL_ (some 7) rfl rfl Try.func13 (by kernel_rfl) rfl #[.string a0] rfl (by (try simp only [List.map_toArray, List.map_cons, List.map_nil]); first | done | rfl | (simp only [List.length_drop, List.length_take]; rfl)) ?_; (with_reducible refine (shibbolethlaw19_Short.calls a0 t330 _ A2.out).mono ?_); rintro e w' ⟨rfl, ⟨nd, rfl⟩⟩; refine ⟨_, rfl, ?_⟩) | ((with_reducible refine gate_callee (f := 9) rfl ?_); refine goesL_ (some 9) rfl rfl Try.func9 (by kernel_rfl) rfl #[.string t330] rfl (by (try simp only [List.map_toArray, List.map_cons, List.map_nil]); first | done | rfl | (simp only [List.length_drop, List.length_take]; rfl)) ?_; (with_reducible refine (rfc_Parse.calls k t330 false t332 t333 _ A3.out).mono ?_); rintro e w62 ⟨rfl, hb⟩; refine ⟨_, rfl, ?_⟩; have n0_ := Aside0.mk (below_step (by repeat (first | (with_reducible first | exact HB.out | apply below_alloc | apply pw_below_drewN | apply below_drew1) | exact HB.out)) hb); clear HB; have HB := n0_; clear n0_; (try clear hb); (try clear hb2); (try clear hk); (try clear hi)) | ((with_reducible refine gate_dst (N := 3) rfl ?_); refine box_event ?hg (N := 3) ?hd (cs := #[.bool false, .string (⟨#[]⟩ : ByteArray), .string (⟨#[]⟩ : ByteArray)]) (t := 24) ?hr ?_; (case hd => rfl); (case hg => rfl); (case hr => first | (go_simp; done) | (go_simp; rfl)); intro gb334 hg w63 hbox hb; have n0_ := Aside0.mk (below_step (by repeat (first | (with_reducible first | exact HB.out | apply below_alloc | apply pw_below_drewN | apply below_drew1) | exact HB.out)) hb); have n1_ := Aside0.mk (hbox); have n2_ := Aside0.mk ((by rw [hg]; exact (below_size (by repeat (first | (with_reducible first | exact HB.out | apply below_alloc | apply pw_below_drewN | apply below_drew1) | exact HB.out))) : w.heap.size ≤ gb334)); have n3_ := Aside0.mk ((by rw [hg]; exact (below_size (by repeat (first | (with_reducible first | exact HB.out | apply below_alloc | apply pw_below_drewN | apply below_drew1) | exact HB.out))) : w.heap.size ≤ gb334)); clear HB; have HB := n0_; have BK334 := n1_; have GW334 := n2_; have GE334 := n3_; clear n0_ n1_ n2_ n3_; clear hb hbox hg; have hcz64_0 : w63.cell? ⟨gb334, 0, none⟩ = some (.bool false) := (blk_cell BK334.out 0).trans rfl; have hcz64_1 : w63.cell? ⟨gb334, 1, none⟩ = some (.string (⟨#[]⟩ : ByteArray)) := (blk_cell BK334.out 1).trans rfl; have hcz64_2 : w63.cell? ⟨gb334, 2, none⟩ = some (.string (⟨#[]⟩ : ByteArray)) := (blk_cell BK334.out 2).trans rfl; have hfz64_0 := blk_frozen BK334.out 0; have hfz64_1 := blk_frozen BK334.out 1; have hfz64_2 := blk_frozen BK334.out 2))
      go_ret
      exact ⟨by first | rfl | (simp [errW_none, errW_some] <;> rfl) | (simp [*, errW_none, errW_some] <;> rfl), by repeat (first | (with_reducible first | exact HB.out | apply below_alloc | apply pw_below_drewN | apply below_drew1 | refine below_set ?_ GE334.out) | exact HB.out)⟩

/-- THE ONE PURE STATEMENT of shibbolethlaw19_RfcFields: yours. -/
def shibbolethlaw19_RfcFields.Pure : Prop := ∀ (a0 : ByteArray), a0.size ≤ 140737488351232 → ∃ k, shibbolethlaw19_RfcFields.f k a0 = some true
theorem shibbolethlaw19_RfcFields.walk (P : shibbolethlaw19_RfcFields.Pure) (a0 : ByteArray) (w : World) (w0 : a0.size ≤ 140737488351232) :
    Calls Try.prog 7 #[.string a0] w fun e w' => e = .returned (.bool true) ∧ Below w.heap.size w w' := by
  obtain ⟨k, h⟩ := P a0 w0
  refine (shibbolethlaw19_RfcFields.calls k a0 true w h).mono ?_
  rintro e w' ⟨rfl, hd⟩
  exact ⟨rfl, hd⟩

end Go.Proofs.Ytiihgddpejmehaa.ZA

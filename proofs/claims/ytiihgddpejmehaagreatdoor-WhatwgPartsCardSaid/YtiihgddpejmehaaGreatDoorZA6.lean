/- My own print (tools/mp.py) of functions of this seat: each function as a plain Lean function, and the proof that the code does what that function says. -/
import Derived.Test.YtiihgddpejmehaaGreatDoorZA0
import Derived.Test.YtiihgddpejmehaaGreatDoorZA5
namespace Go.Proofs.YtiihgddpejmehaaGreatDoor.ZA
open Go.RowKit Go.Proofs.YtiihgddpejmehaaGreatDoorW.PrintWords Go.Proofs.YtiihgddpejmehaaGreatDoorW.PrintLast Go.Proofs.YtiihgddpejmehaaGreatDoorW.PrintMore
attribute [local go_sem] max2_int min2_int max_two min_two max_three min_three max_four min_four   -- for this text's walks alone
set_option linter.unusedVariables false
set_option linter.unusedSimpArgs false

/-! ### octets_Of: function 75 -/
-- words: function 38's text
/-- The bytes of a list. -/
def octets_Of.p (l : List Int) : Nat → Bool := fun n => l.contains (n : Int)
theorem octets_Of.step (l : List Int) (k : Nat) (h : k < l.length) (h0 : 0 ≤ rd l k) : (fun n => octets_Of.p (l.take k) n || n == (rd l k).toNat) = octets_Of.p (l.take (k + 1)) := by
  funext n
  unfold octets_Of.p
  have e : rd l k = l[k] := by simp [rd, List.getD_eq_getElem?_getD, h]
  rw [e] at h0 ⊢
  rw [List.take_succ_eq_append_getElem h, Bool.eq_iff_iff]
  simp only [Bool.or_eq_true, List.contains_iff_mem, List.mem_append, List.mem_singleton, beq_iff_eq]
  constructor
  · rintro (h | h)
    · exact .inl h
    · right; omega
  · rintro (h | h)
    · exact .inl h
    · right; omega
theorem octets_Of.add (p : Nat → Bool) (j : Nat) (x : Int) (h0 : 0 ≤ x) (hj : x / 64 = j) : Go.bits .or .u64 (Base.wd p j) (2 ^ (x % 64).toNat) = Base.wd (fun n => p n || n == x.toNat) j := by
  have := Base.wd_add p j x.toNat (by omega)
  rwa [show ((x.toNat : Nat) : Int) = x from by omega] at this
def octets_Of.f (l0 : List Int) : Option (Int × Int × Int × Int) :=
  if (l0.all fun x => decide (0 ≤ x) && decide (x ≤ 255)) = true then some (Base.wd (octets_Of.p l0) 0, Base.wd (octets_Of.p l0) 1, Base.wd (octets_Of.p l0) 2, Base.wd (octets_Of.p l0) 3) else none
set_option maxHeartbeats 1000000 in
set_option maxRecDepth 100000 in
theorem octets_Of.any (A0 : Option Addr) (c0 : Nat) (l0 : List Int) (w : World) (hr0 : Kd.C (Kd.int .u8) w A0 l0.length l0) (hc0 : l0.length ≤ c0) (hl : ∀ x, x ∈ l0 → 0 ≤ x ∧ x ≤ 255) :
    Calls Tryz.prog 75 #[.slice A0 l0.length c0] w fun e w' => e = .returned (.agg #[.int .u64 (Base.wd (octets_Of.p l0) 0), .int .u64 (Base.wd (octets_Of.p l0) 1), .int .u64 (Base.wd (octets_Of.p l0) 2), .int .u64 (Base.wd (octets_Of.p l0) 3)]) ∧ Below w.heap.size w w' := by
  have hlen : l0.length ≤ 9223372036854775807 := hr0.2.1
  have HL := Aside0.mk hl
  have HR := Aside0.mk hr0
  clear hl hr0 hc0
  go_enter Tryz.func75, Tryz.ntmps75
  go_wp2
  go_loopw [10] (fun i wr => ∃ (k : Nat) (a b c d : Int), k ≤ l0.length ∧ i = .int .i64 k ∧ Aside0 (a = Base.wd (octets_Of.p (l0.take k)) 0 ∧ b = Base.wd (octets_Of.p (l0.take k)) 1 ∧ c = Base.wd (octets_Of.p (l0.take k)) 2 ∧ d = Base.wd (octets_Of.p (l0.take k)) 3) ∧ Aside0 (octets_words.B4 wr w.heap.size 0 0 0 0) ∧ Aside0 (octets_words.B4 wr (w.heap.size + 1) a b c d) ∧ Aside0 (Below w.heap.size w wr)) (fun i _ => l0.length - (intOf i).toNat)
  case atStart =>
    refine ⟨0, 0, 0, 0, 0, by omega, by go_num, ⟨?_⟩, ⟨?_⟩, ⟨?_⟩, ⟨?_⟩⟩
    · have e : octets_Of.p (l0.take 0) = fun _ => false := by funext n; simp [octets_Of.p]
      rw [e]
      simp only [Base.wd_none, and_self]
    · exact blk_alloc (blk_new _ _) _
    · have := blk_new (w.alloc (Obj.cells #[Value.int .u64 0, Value.int .u64 0, Value.int .u64 0, Value.int .u64 0] 77)) (Obj.cells #[Value.int .u64 0, Value.int .u64 0, Value.int .u64 0, Value.int .u64 0] 77)
      simpa [octets_words.B4] using this
    · exact (((Below.refl _ _).alloc (Nat.le_refl _) _).alloc (by simp) _)
  case round =>
    obtain ⟨k, a, b, c, d, hk, rfl, he, hb, ha, hd⟩ := hrel
    have fa := fun i => octets_words.free ha.out i
    obtain ⟨a0, a1, a2, a3⟩ := octets_words.cells ha.out
    by_cases hlt : k < l0.length
    · obtain ⟨ad, rfl, hcell⟩ := Kd.at_int (Kd.C_below HR.out hd.out) (k : Int) (by omega) (by omega)
      have hmem : rd l0 k ∈ l0 := by
        have e : rd l0 k = l0[k] := by simp [rd, List.getD_eq_getElem?_getD, hlt]
        rw [e]; exact List.getElem_mem _
      obtain ⟨b0, b1⟩ := HL.out _ hmem
      have HS := Aside0.mk (octets_Of.step l0 k hlt b0)
      clear hmem
      obtain ⟨x, hx⟩ : ∃ x, rd l0 (k : Int) = x := ⟨_, rfl⟩
      rw [hx] at hcell b0 b1 HS
      have hcell' : wr.cell? (ad.add k) = some (.int .u8 x) := hcell
      clear hcell hx
      have q : x / 64 = 0 ∨ x / 64 = 1 ∨ x / 64 = 2 ∨ x / 64 = 3 := by omega
      rcases q with q | q | q | q
      · have f0 := fa 0
        have Q := Aside0.mk q
        have hd64 : Aside0 (x / 64 = 0) := ⟨by omega⟩
        clear q fa a1 a2 a3 
        go_wp2_with fail
        refine (octets_words.bit x (by omega) (by omega) _).mono ?_
        rintro e w' ⟨rfl, rfl⟩
        rw [hd64.out]
        go_wp2_with fail
        go_roundw
        case rel =>
          obtain ⟨e0, e1, e2, e3⟩ := he.out
          have q := Q.out
          refine ⟨k + 1, _, b, c, d, by omega, by go_num, ⟨?_⟩, ⟨blk_far hb.out (by show w.heap.size ≠ w.heap.size + 1; omega) _⟩, ⟨blk_put ha.out 0 _ rfl⟩, ⟨hd.out.setCell (by simp) _⟩⟩
          rw [← HS.out]
          refine ⟨by rw [e0]; exact octets_Of.add _ 0 _ b0 (by omega), by rw [e1]; exact Base.wd_other _ 1 _ (by omega), by rw [e2]; exact Base.wd_other _ 2 _ (by omega), by rw [e3]; exact Base.wd_other _ 3 _ (by omega)⟩
        case measure => simp [intOf]; omega
      · have f1 := fa 1
        have Q := Aside0.mk q
        have hd64 : Aside0 (x / 64 = 1) := ⟨by omega⟩
        clear q fa a0 a2 a3 
        go_wp2_with fail
        refine (octets_words.bit x (by omega) (by omega) _).mono ?_
        rintro e w' ⟨rfl, rfl⟩
        rw [hd64.out]
        go_wp2_with fail
        go_roundw
        case rel =>
          obtain ⟨e0, e1, e2, e3⟩ := he.out
          have q := Q.out
          refine ⟨k + 1, a, _, c, d, by omega, by go_num, ⟨?_⟩, ⟨blk_far hb.out (by show w.heap.size ≠ w.heap.size + 1; omega) _⟩, ⟨blk_put ha.out 1 _ rfl⟩, ⟨hd.out.setCell (by simp) _⟩⟩
          rw [← HS.out]
          refine ⟨by rw [e0]; exact Base.wd_other _ 0 _ (by omega), by rw [e1]; exact octets_Of.add _ 1 _ b0 (by omega), by rw [e2]; exact Base.wd_other _ 2 _ (by omega), by rw [e3]; exact Base.wd_other _ 3 _ (by omega)⟩
        case measure => simp [intOf]; omega
      · have f2 := fa 2
        have Q := Aside0.mk q
        have hd64 : Aside0 (x / 64 = 2) := ⟨by omega⟩
        clear q fa a0 a1 a3 
        go_wp2_with fail
        refine (octets_words.bit x (by omega) (by omega) _).mono ?_
        rintro e w' ⟨rfl, rfl⟩
        rw [hd64.out]
        go_wp2_with fail
        go_roundw
        case rel =>
          obtain ⟨e0, e1, e2, e3⟩ := he.out
          have q := Q.out
          refine ⟨k + 1, a, b, _, d, by omega, by go_num, ⟨?_⟩, ⟨blk_far hb.out (by show w.heap.size ≠ w.heap.size + 1; omega) _⟩, ⟨blk_put ha.out 2 _ rfl⟩, ⟨hd.out.setCell (by simp) _⟩⟩
          rw [← HS.out]
          refine ⟨by rw [e0]; exact Base.wd_other _ 0 _ (by omega), by rw [e1]; exact Base.wd_other _ 1 _ (by omega), by rw [e2]; exact octets_Of.add _ 2 _ b0 (by omega), by rw [e3]; exact Base.wd_other _ 3 _ (by omega)⟩
        case measure => simp [intOf]; omega
      · have f3 := fa 3
        have Q := Aside0.mk q
        have hd64 : Aside0 (x / 64 = 3) := ⟨by omega⟩
        clear q fa a0 a1 a2 
        go_wp2_with fail
        refine (octets_words.bit x (by omega) (by omega) _).mono ?_
        rintro e w' ⟨rfl, rfl⟩
        rw [hd64.out]
        go_wp2_with fail
        go_roundw
        case rel =>
          obtain ⟨e0, e1, e2, e3⟩ := he.out
          have q := Q.out
          refine ⟨k + 1, a, b, c, _, by omega, by go_num, ⟨?_⟩, ⟨blk_far hb.out (by show w.heap.size ≠ w.heap.size + 1; omega) _⟩, ⟨blk_put ha.out 3 _ rfl⟩, ⟨hd.out.setCell (by simp) _⟩⟩
          rw [← HS.out]
          refine ⟨by rw [e0]; exact Base.wd_other _ 0 _ (by omega), by rw [e1]; exact Base.wd_other _ 1 _ (by omega), by rw [e2]; exact Base.wd_other _ 2 _ (by omega), by rw [e3]; exact octets_Of.add _ 3 _ b0 (by omega)⟩
        case measure => simp [intOf]; omega
    · obtain rfl : k = l0.length := by omega
      have fc := fun i => octets_words.free hb.out i
      obtain ⟨c0, c1, c2, c3⟩ := octets_words.cells hb.out
      have f0 := fc 0
      have f1 := fc 1
      have f2 := fc 2
      have f3 := fc 3
      clear fa fc
      go_wp2
      obtain ⟨e0, e1, e2, e3⟩ := he.out
      have hz := Aside0.mk (show octets_words.B4 _ (w.heap.size) a b c d from blk_put (blk_put (blk_put (blk_put hb.out 0 (.int .u64 a) rfl) 1 (.int .u64 b) rfl) 2 (.int .u64 c) rfl) 3 (.int .u64 d) rfl)
      have hb4 := Aside0.mk ((((hd.out.setCell (p := ⟨w.heap.size, 0, none⟩) (by simp; try omega) (.int .u64 a)).setCell (p := ⟨w.heap.size, 1, none⟩) (by simp; try omega) (.int .u64 b)).setCell (p := ⟨w.heap.size, 2, none⟩) (by simp; try omega) (.int .u64 c)).setCell (p := ⟨w.heap.size, 3, none⟩) (by simp; try omega) (.int .u64 d))
      revert hz hb4
      generalize ((((wr.setCell ⟨w.heap.size, 0, none⟩ (.int .u64 a)).setCell ⟨w.heap.size, 1, none⟩ (.int .u64 b)).setCell ⟨w.heap.size, 2, none⟩ (.int .u64 c)).setCell ⟨w.heap.size, 3, none⟩ (.int .u64 d)) = W
      intro hz hb4
      obtain ⟨z0, z1, z2, z3⟩ := octets_words.cells hz.out
      refine bodyPost_ret (v := .agg #[.int .u64 a, .int .u64 b, .int .u64 c, .int .u64 d]) (by simp [results, Tryz.results75, go_sem, z0, z1, z2, z3]) rfl ⟨?_, hb4.out⟩
      rw [List.take_length] at e0 e1 e2 e3
      rw [e0, e1, e2, e3]
theorem octets_Of.calls (A0 : Option Addr) (c0 : Nat) (l0 : List Int) (r1 r2 r3 r4 : Int) (w : World) (hr0 : Kd.C (Kd.int .u8) w A0 l0.length l0) (hc0 : l0.length ≤ c0) (h : octets_Of.f l0 = some (r1, r2, r3, r4)) :
    Calls Tryz.prog 75 #[.slice A0 l0.length c0] w fun e w' => e = .returned (.agg #[.int .u64 r1, .int .u64 r2, .int .u64 r3, .int .u64 r4]) ∧ Below w.heap.size w w' := by
  unfold octets_Of.f at h
  by_cases hc : (l0.all fun x => decide (0 ≤ x) && decide (x ≤ 255)) = true
  · rw [if_pos hc] at h
    simp only [Option.some.injEq, Prod.mk.injEq] at h
    obtain ⟨rfl, rfl, rfl, rfl⟩ := h
    exact octets_Of.any A0 c0 l0 w hr0 hc0 (fun x hx => by have := List.all_eq_true.1 hc x hx; simpa using this)
  · rw [if_neg hc] at h; exact absurd h (by simp)
theorem octets_Of.callsn (A0 : Option Addr) (c0 : Nat) (l0 : List Int) (r1 r2 r3 r4 : Int) (w : World) {n : Nat} (hr0 : Kd.C (Kd.int .u8) w A0 n l0) (hc0 : n ≤ c0) (h : octets_Of.f l0 = some (r1, r2, r3, r4)) :
    Calls Tryz.prog 75 #[.slice A0 n c0] w fun e w' => e = .returned (.agg #[.int .u64 r1, .int .u64 r2, .int .u64 r3, .int .u64 r4]) ∧ Below w.heap.size w w' := by
  have e := hr0.1
  subst e
  exact octets_Of.calls A0 c0 l0 r1 r2 r3 r4 w hr0 hc0 h
/-- A literal's row, with its mark. -/
theorem lit8_C (W0 : World) (e : TypeId) (xs : List Int) (fz : Nat × Nat) (hs : xs.length ≤ 9223372036854775807 := by decide) : Kd.C (Kd.int .u8) (W0.alloc (.cells (xs.map (Value.int .u8)).toArray e fz)) (some ⟨W0.heap.size, 0, none⟩) xs.length xs := by
  refine Kd.C_of_reads (d := (0 : Int)) (h1 := fun _ => rfl) ⟨rfl, hs, fun _ => ⟨_, rfl, fun j hj => ?_⟩⟩
  have h1 : (W0.alloc (.cells (xs.map (Value.int .u8)).toArray e fz)).heap[W0.heap.size]? = some (.cells (xs.map (Value.int .u8)).toArray e fz) := blk_new _ _
  have h2 := cell_of_row _ W0.heap.size j _ _ _ h1
  have e2 : (⟨W0.heap.size, 0, none⟩ : Addr).add j = ⟨W0.heap.size, j, none⟩ := by
    unfold Addr.add
    by_cases hz : j = 0
    · subst hz; rfl
    · simp [hz]
  rw [e2, h2]
  simp [List.getD_eq_getElem?_getD, hj]


/-! ### whatwg_barred: function 125 -/
def whatwg_barred.f  : Option (Int × Int × Int × Int) := (octets_Range.f 0 32).bind fun bt156 => ((octets_Of.f ([35, 47, 58, 60, 62, 63, 64, 91, 92, 93, 94, 124, 127] : List Int)).bind fun bt160 => ((octets_Or.f bt156.1 bt156.2.1 bt156.2.2.1 bt156.2.2.2 bt160.1 bt160.2.1 bt160.2.2.1 bt160.2.2.2).bind fun bt164 => (some (bt164.1, bt164.2.1, bt164.2.2.1, bt164.2.2.2))))
set_option maxHeartbeats 8000000 in
set_option maxRecDepth 100000 in
theorem whatwg_barred.calls  (r1 : Int) (r2 : Int) (r3 : Int) (r4 : Int) (w : World) (h : whatwg_barred.f  = some (r1, r2, r3, r4)) :
    Calls Tryz.prog 125 #[] w fun e w' => e = .returned (.agg #[.int .u64 r1, .int .u64 r2, .int .u64 r3, .int .u64 r4]) ∧ Below w.heap.size w w' := by
  have hu77 := Tryz.underlying77
  have kc8 := fun (w : World) (C : Array Value) (n c : Nat) => Lib.run_convert_bytes_const (P := Tryz.prog) w 44 5 C n c Tryz.underlying44 Tryz.underlying5
  have HB := Aside0.mk (Below.refl w.heap.size w)
  have H : ((octets_Range.f 0 32).bind fun bt156 => ((octets_Of.f ([35, 47, 58, 60, 62, 63, 64, 91, 92, 93, 94, 124, 127] : List Int)).bind fun bt160 => ((octets_Or.f bt156.1 bt156.2.1 bt156.2.2.1 bt156.2.2.2 bt160.1 bt160.2.1 bt160.2.2.1 bt160.2.2.2).bind fun bt164 => (some (bt164.1, bt164.2.1, bt164.2.2.1, bt164.2.2.2))))) = some (r1, r2, r3, r4) := h
  clear h
  replace H := Option.bind_eq_some_iff.mp H
  obtain ⟨⟨t156, t157, t158, t159⟩, A10, H⟩ := H
  replace H : ((octets_Of.f ([35, 47, 58, 60, 62, 63, 64, 91, 92, 93, 94, 124, 127] : List Int)).bind fun bt160 => ((octets_Or.f t156 t157 t158 t159 bt160.1 bt160.2.1 bt160.2.2.1 bt160.2.2.2).bind fun bt164 => (some (bt164.1, bt164.2.1, bt164.2.2.1, bt164.2.2.2)))) = some (r1, r2, r3, r4) := H
  have A1 := Aside0.mk A10
  clear A10
  replace H := Option.bind_eq_some_iff.mp H
  obtain ⟨⟨t160, t161, t162, t163⟩, A20, H⟩ := H
  replace H : ((octets_Or.f t156 t157 t158 t159 t160 t161 t162 t163).bind fun bt164 => (some (bt164.1, bt164.2.1, bt164.2.2.1, bt164.2.2.2))) = some (r1, r2, r3, r4) := H
  have A2 := Aside0.mk A20
  clear A20
  replace H := Option.bind_eq_some_iff.mp H
  obtain ⟨⟨t164, t165, t166, t167⟩, A30, H⟩ := H
  replace H : (some (t164, t165, t166, t167)) = some (r1, r2, r3, r4) := H
  have A3 := Aside0.mk A30
  clear A30
  simp only [Option.some.injEq, Prod.mk.injEq] at H
  obtain ⟨rfl, rfl, rfl, rfl⟩ := H
  go_enter Tryz.func125, Tryz.ntmps125
  go_wp2_with (first | ((with_reducible refine gate_dst (N := 0) rfl ?_); refine box_event ?hg (N := 0) ?hd (cs := #[.int .u64 0, .int .u64 0, .int .u64 0, .int .u64 0]) (t := 77) ?hr ?_; (case hd => rfl); (case hg => rfl); (case hr => first | (go_simp; done) | (go_simp; rfl)); intro gb155 hg w4 hbox hb; have n0_ := Aside0.mk (below_step (by repeat (first | (with_reducible first | exact HB.out | apply below_alloc | apply pw_below_drewN | apply below_drew1) | exact HB.out)) hb); have n1_ := Aside0.mk (hbox); have n2_ := Aside0.mk ((by rw [hg]; exact (below_size (by repeat (first | (with_reducible first | exact HB.out | apply below_alloc | apply pw_below_drewN | apply below_drew1) | exact HB.out))) : w.heap.size ≤ gb155)); have n3_ := Aside0.mk ((by rw [hg]; exact (below_size (by repeat (first | (with_reducible first | exact HB.out | apply below_alloc | apply pw_below_drewN | apply below_drew1) | exact HB.out))) : w.heap.size ≤ gb155)); clear HB; have HB := n0_; have BK155 := n1_; have GW155 := n2_; have GE155 := n3_; clear n0_ n1_ n2_ n3_; clear hb hbox hg) | ((with_reducible refine gate_callee (f := 74) rfl ?_); refine goesL_ (some 1) rfl rfl Tryz.func74 (by kernel_rfl) rfl #[.int .u8 0, .int .u8 32] rfl (by (try simp only [List.map_toArray, List.map_cons, List.map_nil]); first | done | rfl | (simp only [List.length_drop, List.length_take]; rfl)) ?_; (with_reducible refine (octets_Range.calls 0 32 t156 t157 t158 t159 _ A1.out).mono ?_); rintro e w5 ⟨rfl, hb⟩; refine ⟨_, rfl, ?_⟩; have n0_ := Aside0.mk (blk_below (g := gb155) (o := .cells #[.int .u64 0, .int .u64 0, .int .u64 0, .int .u64 0] 77 (0, 0)) (by (with_reducible repeat (first | refine blk_drewN ?_ _ | refine blk_drew ?_ | refine blk_alloc ?_ _)); exact BK155.out) hb); have n1_ := Aside0.mk (below_step (by repeat (first | (with_reducible first | exact HB.out | apply below_alloc | apply pw_below_drewN | apply below_drew1 | refine below_set ?_ GE155.out) | exact HB.out)) hb); clear BK155; clear HB; have BK155 := n0_; have HB := n1_; clear n0_ n1_; (try clear hb); (try clear hb2); (try clear hk); (try clear hi)) | ((with_reducible refine gate_callee (f := 75) rfl ?_); refine goesL_ (some 4) rfl rfl Tryz.func75 (by kernel_rfl) rfl #[.slice _ _ _] rfl (by (try simp only [List.map_toArray, List.map_cons, List.map_nil]); first | done | rfl | (simp only [List.length_drop, List.length_take]; rfl)) ?_; (with_reducible refine (octets_Of.callsn _ _ ([35, 47, 58, 60, 62, 63, 64, 91, 92, 93, 94, 124, 127] : List Int) t160 t161 t162 t163 _ ?side1 ?side2 A2.out).mono ?_); (case side1 => repeat (first | exact lit8_C _ _ _ _ | (with_reducible refine Kd.C_alloc ?_ _) | (with_reducible refine Kd.C_drewN ?_ _) | (with_reducible refine Kd.C_drew ?_))); (case side2 => decide); rintro e w6 ⟨rfl, hb⟩; refine ⟨_, rfl, ?_⟩; have n0_ := Aside0.mk (blk_below (g := gb155) (o := .cells #[.int .u64 0, .int .u64 0, .int .u64 0, .int .u64 0] 77 (0, 0)) (by (with_reducible repeat (first | refine blk_drewN ?_ _ | refine blk_drew ?_ | refine blk_alloc ?_ _)); exact BK155.out) hb); have n1_ := Aside0.mk (below_step (by repeat (first | (with_reducible first | exact HB.out | apply below_alloc | apply pw_below_drewN | apply below_drew1 | refine below_set ?_ GE155.out) | exact HB.out)) hb); clear BK155; clear HB; have BK155 := n0_; have HB := n1_; clear n0_ n1_; (try clear hb); (try clear hb2); (try clear hk); (try clear hi)) | ((with_reducible refine gate_callee (f := 41) rfl ?_); refine goesL_ (some 5) rfl rfl Tryz.func41 (by kernel_rfl) rfl #[.agg #[.int .u64 t156, .int .u64 t157, .int .u64 t158, .int .u64 t159], .agg #[.int .u64 t160, .int .u64 t161, .int .u64 t162, .int .u64 t163]] rfl (by (try simp only [List.map_toArray, List.map_cons, List.map_nil]); first | done | rfl | (simp only [List.length_drop, List.length_take]; rfl)) ?_; (with_reducible refine (octets_Or.calls t156 t157 t158 t159 t160 t161 t162 t163 t164 t165 t166 t167 _ A3.out).mono ?_); rintro e w7 ⟨rfl, hb⟩; refine ⟨_, rfl, ?_⟩; have n0_ := Aside0.mk (blk_below (g := gb155) (o := .cells #[.int .u64 0, .int .u64 0, .int .u64 0, .int .u64 0] 77 (0, 0)) (by (with_reducible repeat (first | refine blk_drewN ?_ _ | refine blk_drew ?_ | refine blk_alloc ?_ _)); exact BK155.out) hb); have n1_ := Aside0.mk (below_step (by repeat (first | (with_reducible first | exact HB.out | apply below_alloc | apply pw_below_drewN | apply below_drew1 | refine below_set ?_ GE155.out) | exact HB.out)) hb); clear BK155; clear HB; have BK155 := n0_; have HB := n1_; clear n0_ n1_; (try clear hb); (try clear hb2); (try clear hk); (try clear hi); have hcz8_0 : w7.cell? ⟨gb155, 0, none⟩ = some (.int .u64 0) := (blk_cell BK155.out 0).trans rfl; have hcz8_1 : w7.cell? ⟨gb155, 1, none⟩ = some (.int .u64 0) := (blk_cell BK155.out 1).trans rfl; have hcz8_2 : w7.cell? ⟨gb155, 2, none⟩ = some (.int .u64 0) := (blk_cell BK155.out 2).trans rfl; have hcz8_3 : w7.cell? ⟨gb155, 3, none⟩ = some (.int .u64 0) := (blk_cell BK155.out 3).trans rfl; have hfz8_0 := blk_frozen BK155.out 0; have hfz8_1 := blk_frozen BK155.out 1; have hfz8_2 := blk_frozen BK155.out 2; have hfz8_3 := blk_frozen BK155.out 3))
  refine bodyPost_ret (results_cell_row rfl _ _ gb155 77 #[.int .u64 t164, .int .u64 t165, .int .u64 t166, .int .u64 t167] (0, 0) _ rfl (by (with_reducible repeat (first | refine blk_drewN ?_ _ | refine blk_drew ?_ | refine blk_alloc ?_ _)); refine blk_put (cs := #[.int .u64 t164, .int .u64 t165, .int .u64 t166, .int .u64 0]) ?_ 3 _ rfl; (with_reducible repeat (first | refine blk_drewN ?_ _ | refine blk_drew ?_ | refine blk_alloc ?_ _)); refine blk_put (cs := #[.int .u64 t164, .int .u64 t165, .int .u64 0, .int .u64 0]) ?_ 2 _ rfl; (with_reducible repeat (first | refine blk_drewN ?_ _ | refine blk_drew ?_ | refine blk_alloc ?_ _)); refine blk_put (cs := #[.int .u64 t164, .int .u64 0, .int .u64 0, .int .u64 0]) ?_ 1 _ rfl; (with_reducible repeat (first | refine blk_drewN ?_ _ | refine blk_drew ?_ | refine blk_alloc ?_ _)); refine blk_put (cs := #[.int .u64 0, .int .u64 0, .int .u64 0, .int .u64 0]) ?_ 0 _ rfl; (with_reducible repeat (first | refine blk_drewN ?_ _ | refine blk_drew ?_ | refine blk_alloc ?_ _)); exact BK155.out) Tryz.underlying77 rfl (by kernel_rfl)) rfl ?_
  exact ⟨by first | rfl | (simp [errW_none, errW_some] <;> rfl) | (simp [*, errW_none, errW_some] <;> rfl), by repeat (first | (with_reducible first | exact HB.out | apply below_alloc | apply pw_below_drewN | apply below_drew1 | refine below_set ?_ GE155.out) | exact HB.out)⟩

/-! ### percent_Value: function 149 -/
mutual
def percent_Value.j0 : Nat → Int → Bool → Option (Int × Bool)
  | 0, _, _ => none
  | k + 1, x0, x4 => if x4 = true then (some ((x0 - 48) % 256, true)) else (if x0 ≥ 97 then (percent_Value.j1 k x0 (decide (x0 ≤ 102))) else (percent_Value.j1 k x0 false))
def percent_Value.j1 : Nat → Int → Bool → Option (Int × Bool)
  | 0, _, _ => none
  | k + 1, x0, x13 => if x13 = true then (some ((((x0 - 97) % 256) + 10) % 256, true)) else (if x0 ≥ 65 then (if x0 ≤ 70 then (some ((((x0 - 65) % 256) + 10) % 256, true)) else (some (0, false))) else (some (0, false)))
end
def percent_Value.f (k : Nat) (a0 : Int) : Option (Int × Bool) := if a0 ≥ 48 then (percent_Value.j0 k a0 (decide (a0 ≤ 57))) else (percent_Value.j0 k a0 false)
theorem percent_Value.mono_l : ∀ k, (∀ y0 y1, LeO (percent_Value.j0 k y0 y1) (percent_Value.j0 (k + 1) y0 y1)) ∧ (∀ y0 y1, LeO (percent_Value.j1 k y0 y1) (percent_Value.j1 (k + 1) y0 y1))
  | 0 => ⟨fun _ _ r h => by simp [percent_Value.j0] at h, fun _ _ r h => by simp [percent_Value.j1] at h⟩
  | k + 1 => by
    obtain ⟨ih0, ih1⟩ := percent_Value.mono_l k
    refine ⟨?_, ?_⟩
    · intro y0 y1
      unfold percent_Value.j0
      repeat' first
      | (with_reducible exact ih0 _ _)
      | (with_reducible exact ih1 _ _)
      | (with_reducible exact LeO.refl _)
      | (with_reducible exact LeO.none _)
      | (with_reducible refine LeO.ite ?_ ?_)
      | (with_reducible refine LeO.bind ?_ (fun _ => ?_))
      | exact ih0 _ _
      | exact ih1 _ _
      | exact LeO.none _
      | refine LeO.ite ?_ ?_
      | refine LeO.bind ?_ (fun _ => ?_)
    · intro y0 y1
      unfold percent_Value.j1
      repeat' first
      | (with_reducible exact ih0 _ _)
      | (with_reducible exact ih1 _ _)
      | (with_reducible exact LeO.refl _)
      | (with_reducible exact LeO.none _)
      | (with_reducible refine LeO.ite ?_ ?_)
      | (with_reducible refine LeO.bind ?_ (fun _ => ?_))
      | exact ih0 _ _
      | exact ih1 _ _
      | exact LeO.none _
      | refine LeO.ite ?_ ?_
      | refine LeO.bind ?_ (fun _ => ?_)
theorem percent_Value.mono : ∀ a0 k, LeO (percent_Value.f k a0) (percent_Value.f (k + 1) a0) := by
  intro a0 k
  obtain ⟨ih0, ih1⟩ := percent_Value.mono_l k
  unfold percent_Value.f
  repeat' first
      | (with_reducible exact ih0 _ _)
      | (with_reducible exact ih1 _ _)
      | (with_reducible exact LeO.refl _)
      | (with_reducible exact LeO.none _)
      | (with_reducible refine LeO.ite ?_ ?_)
      | (with_reducible refine LeO.bind ?_ (fun _ => ?_))
      | exact ih0 _ _
      | exact ih1 _ _
      | exact LeO.none _
      | refine LeO.ite ?_ ?_
      | refine LeO.bind ?_ (fun _ => ?_)
set_option maxHeartbeats 8000000 in
set_option maxRecDepth 100000 in
theorem percent_Value.calls (k : Nat) (a0 : Int) (r1 : Int) (r2 : Bool) (w : World) (h : percent_Value.f k a0 = some (r1, r2)) :
    Calls Tryz.prog 149 #[.int .u8 a0] w fun e w' => e = .returned (.tuple #[.int .u8 r1, .bool r2]) ∧ Drawn0 w w' := by
  have H : (if a0 ≥ 48 then (percent_Value.j0 k a0 (decide (a0 ≤ 57))) else (percent_Value.j0 k a0 false)) = some (r1, r2) := h
  clear h
  have HC2 := Aside0.mk H
  clear H
  go_enter Tryz.func149, Tryz.ntmps149
  go_upto_region 1 with (fail)
  go_cut [4] (fun v4 wc => ∃ (kq : Nat) (x4_1 : Bool), v4 = .bool x4_1 ∧ Aside0 (percent_Value.j0 kq a0 x4_1 = some (r1, r2)) ∧ Aside0 (kq ≤ k) ∧ Drawn0 w wc)
  case first =>
    have H := HC2.out
    clear HC2
    by_cases c3 : a0 ≥ 48
    · rw [if_pos c3] at H
      have c3b0 : decide (48 ≤ a0) = true := decide_eq_true c3
      clear c3
      (first | rw [c3b0] | (simp only [i64_w, i32_w]; rw [c3b0]) | skip)
      have H' := Aside0.mk H
      clear H
      go_wp2
      go_meet
      case rel => exact ⟨_, (decide (a0 ≤ 57)), (by first | rfl | (simp; done) | (simp [*]; done)), H', ⟨by first | omega | exact Nat.le_refl _⟩, by repeat (first | exact Drawn0.refl _ | apply Drawn0.step)⟩
    · rw [if_neg c3] at H
      have c3b0 : decide (48 ≤ a0) = false := decide_eq_false c3
      clear c3
      (first | rw [c3b0] | (simp only [i64_w, i32_w]; rw [c3b0]) | skip)
      have H' := Aside0.mk H
      clear H
      go_wp2
      go_meet
      case rel => exact ⟨_, (false), (by first | rfl | (simp; done) | (simp [*]; done)), H', ⟨by first | omega | exact Nat.le_refl _⟩, by repeat (first | exact Drawn0.refl _ | apply Drawn0.step)⟩
  case rest =>
    clear HC2
    try clear c1
    try clear p2
    try clear c3
    try clear c3b0
    obtain ⟨kq, x4_1, rfl, HA, HJ1, ⟨mc1, rfl⟩⟩ := hcut
    cases kq with
    | zero => exact absurd HA.out (by simp [percent_Value.j0])
    | succ kj1 =>
      have H := HA.out
      clear HA
      simp only [percent_Value.j0] at H
      by_cases c4 : x4_1 = true
      · subst c4
        have H1 : (some ((a0 - 48) % 256, true)) = some (r1, r2) := by rw [if_pos rfl] at H; exact H
        clear H
        have H := H1
        clear H1
        simp only [Option.some.injEq, Prod.mk.injEq] at H
        obtain ⟨rfl, rfl⟩ := H
        go_wp2
        go_ret2
        exact ⟨by first | rfl | (simp; done) | (simp [*]; done), by repeat (first | exact Drawn0.refl _ | apply Drawn0.step)⟩
      · replace c4 := Bool.eq_false_iff.mpr c4
        subst c4
        have H1 : (if a0 ≥ 97 then (percent_Value.j1 kj1 a0 (decide (a0 ≤ 102))) else (percent_Value.j1 kj1 a0 false)) = some (r1, r2) := by rw [if_neg (show ¬ (false = true) by decide)] at H; exact H
        clear H
        have H := H1
        clear H1
        have HC5 := Aside0.mk H
        clear H
        go_upto_region 3 with (fail)
        go_cut [13] (fun v13 wc => ∃ (kq : Nat) (x13_4 : Bool), v13 = .bool x13_4 ∧ Aside0 (percent_Value.j1 kq a0 x13_4 = some (r1, r2)) ∧ Aside0 (kq ≤ kj1) ∧ Drawn0 w wc)
        case first =>
          have H := HC5.out
          clear HC5
          by_cases c6 : a0 ≥ 97
          · rw [if_pos c6] at H
            have c6b0 : decide (97 ≤ a0) = true := decide_eq_true c6
            clear c6
            (first | rw [c6b0] | (simp only [i64_w, i32_w]; rw [c6b0]) | skip)
            have H' := Aside0.mk H
            clear H
            go_wp2
            go_meet
            case rel => exact ⟨_, (decide (a0 ≤ 102)), (by first | rfl | (simp; done) | (simp [*]; done)), H', ⟨by have := HJ1.out; first | omega | exact Nat.le_refl _⟩, by repeat (first | exact Drawn0.refl _ | apply Drawn0.step)⟩
          · rw [if_neg c6] at H
            have c6b0 : decide (97 ≤ a0) = false := decide_eq_false c6
            clear c6
            (first | rw [c6b0] | (simp only [i64_w, i32_w]; rw [c6b0]) | skip)
            have H' := Aside0.mk H
            clear H
            go_wp2
            go_meet
            case rel => exact ⟨_, (false), (by first | rfl | (simp; done) | (simp [*]; done)), H', ⟨by have := HJ1.out; first | omega | exact Nat.le_refl _⟩, by repeat (first | exact Drawn0.refl _ | apply Drawn0.step)⟩
        case rest =>
          clear HC5
          try clear c1
          try clear p2
          try clear c3
          try clear c3b0
          try clear c4
          try clear c6
          try clear c6b0
          try clear p2
          obtain ⟨kq, x13_4, rfl, HA, HJ4, ⟨mc4, rfl⟩⟩ := hcut
          cases kq with
          | zero => exact absurd HA.out (by simp [percent_Value.j1])
          | succ kj4 =>
            have H := HA.out
            clear HA
            simp only [percent_Value.j1] at H
            by_cases c7 : x13_4 = true
            · subst c7
              have H1 : (some ((((a0 - 97) % 256) + 10) % 256, true)) = some (r1, r2) := by rw [if_pos rfl] at H; exact H
              clear H
              have H := H1
              clear H1
              simp only [Option.some.injEq, Prod.mk.injEq] at H
              obtain ⟨rfl, rfl⟩ := H
              go_wp2
              go_ret2
              exact ⟨by first | rfl | (simp; done) | (simp [*]; done), by repeat (first | exact Drawn0.refl _ | apply Drawn0.step)⟩
            · replace c7 := Bool.eq_false_iff.mpr c7
              subst c7
              have H1 : (if a0 ≥ 65 then (if a0 ≤ 70 then (some ((((a0 - 65) % 256) + 10) % 256, true)) else (some (0, false))) else (some (0, false))) = some (r1, r2) := by rw [if_neg (show ¬ (false = true) by decide)] at H; exact H
              clear H
              have H := H1
              clear H1
              by_cases c8 : a0 ≥ 65
              · rw [if_pos c8] at H
                have c8b0 : decide (65 ≤ a0) = true := decide_eq_true c8
                clear c8
                by_cases c9 : a0 ≤ 70
                · rw [if_pos c9] at H
                  have c9b0 : decide (a0 ≤ 70) = true := decide_eq_true c9
                  clear c9
                  simp only [Option.some.injEq, Prod.mk.injEq] at H
                  obtain ⟨rfl, rfl⟩ := H
                  go_wp2
                  go_ret2
                  exact ⟨by first | rfl | (simp; done) | (simp [*]; done), by repeat (first | exact Drawn0.refl _ | apply Drawn0.step)⟩
                · rw [if_neg c9] at H
                  have c9b0 : decide (a0 ≤ 70) = false := decide_eq_false c9
                  clear c9
                  simp only [Option.some.injEq, Prod.mk.injEq] at H
                  obtain ⟨rfl, rfl⟩ := H
                  go_wp2
                  go_ret2
                  exact ⟨by first | rfl | (simp; done) | (simp [*]; done), by repeat (first | exact Drawn0.refl _ | apply Drawn0.step)⟩
              · rw [if_neg c8] at H
                have c8b0 : decide (65 ≤ a0) = false := decide_eq_false c8
                clear c8
                simp only [Option.some.injEq, Prod.mk.injEq] at H
                obtain ⟨rfl, rfl⟩ := H
                go_wp2
                go_ret2
                exact ⟨by first | rfl | (simp; done) | (simp [*]; done), by repeat (first | exact Drawn0.refl _ | apply Drawn0.step)⟩

/-! ### percent_Hex: function 126 -/
def percent_Hex.f (k : Nat) (a0 : Int) : Option (Bool) := (percent_Value.f k a0).bind fun bt168 => (some bt168.2)
theorem percent_Hex.mono : ∀ a0 k, LeO (percent_Hex.f k a0) (percent_Hex.f (k + 1) a0) := by
  intro a0 k
  unfold percent_Hex.f
  repeat' first
      | (with_reducible exact percent_Value.mono _ _)
      | (with_reducible exact LeO.refl _)
      | (with_reducible exact LeO.none _)
      | (with_reducible refine LeO.ite ?_ ?_)
      | (with_reducible refine LeO.bind ?_ (fun _ => ?_))
      | exact percent_Value.mono _ _
      | exact LeO.none _
      | refine LeO.ite ?_ ?_
      | refine LeO.bind ?_ (fun _ => ?_)
set_option maxHeartbeats 8000000 in
set_option maxRecDepth 100000 in
theorem percent_Hex.calls (k : Nat) (a0 : Int) (r : Bool) (w : World) (h : percent_Hex.f k a0 = some r) :
    Calls Tryz.prog 126 #[.int .u8 a0] w fun e w' => e = .returned (.bool r) ∧ Drawn0 w w' := by
  have H : ((percent_Value.f k a0).bind fun bt168 => (some bt168.2)) = some r := h
  clear h
  replace H := Option.bind_eq_some_iff.mp H
  obtain ⟨⟨t168, t169⟩, A20, H⟩ := H
  replace H : (some t169) = some r := H
  have A2 := Aside0.mk A20
  clear A20
  obtain rfl := Option.some.inj H
  go_enter Tryz.func126, Tryz.ntmps126
  go_wp2_with (first | ((with_reducible refine gate_callee (f := 149) rfl ?_); refine goesL_ (some 7) rfl rfl Tryz.func149 (by kernel_rfl) rfl #[.int .u8 a0] rfl (by (try simp only [List.map_toArray, List.map_cons, List.map_nil]); first | done | rfl | (simp only [List.length_drop, List.length_take]; rfl)) ?_; (with_reducible refine (percent_Value.calls k a0 t168 t169 _ A2.out).mono ?_); rintro e w' ⟨rfl, ⟨nd, rfl⟩⟩; refine ⟨_, rfl, ?_⟩))
  go_ret
  exact ⟨by first | rfl | (simp; done) | (simp [*]; done), by repeat (first | exact Drawn0.refl _ | apply Drawn0.step)⟩

end Go.Proofs.YtiihgddpejmehaaGreatDoor.ZA

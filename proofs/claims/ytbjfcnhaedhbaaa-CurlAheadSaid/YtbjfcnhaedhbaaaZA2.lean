/- My own print (tools/mp.py) of functions of this seat: each function as a plain Lean function, and the proof that the code does what that function says. -/
import Derived.Test.YtbjfcnhaedhbaaaZA0
namespace Go.Proofs.Ytbjfcnhaedhbaaa.ZA
open Go.RowKit Go.Proofs.YtbjfcnhaedhbaaaW.PrintWords Go.Proofs.YtbjfcnhaedhbaaaW.PrintLast Go.Proofs.YtbjfcnhaedhbaaaW.PrintMore
attribute [local go_sem] max2_int min2_int max_two min_two max_three min_three max_four min_four   -- for this text's walks alone
set_option linter.unusedVariables false
set_option linter.unusedSimpArgs false

/-! ### octets_bit: function 45 -/
def octets_bit.f (a0 : Int) : Option (Int × Int) := if 0 ≤ (Int.tmod a0 64) then (some ((Int.tdiv a0 64) % 256, shl .u64 1 (Int.tmod a0 64))) else (none)
set_option maxHeartbeats 8000000 in
set_option maxRecDepth 100000 in
theorem octets_bit.calls (a0 : Int) (r1 : Int) (r2 : Int) (w : World) (h : octets_bit.f a0 = some (r1, r2)) :
    Calls Try.prog 45 #[.int .u8 a0] w fun e w' => e = .returned (.tuple #[.int .i64 r1, .int .u64 r2]) ∧ Drawn0 w w' := by
  have H : (if 0 ≤ (Int.tmod a0 64) then (some ((Int.tdiv a0 64) % 256, shl .u64 1 (Int.tmod a0 64))) else (none)) = some (r1, r2) := h
  clear h
  obtain ⟨ji2, hji2⟩ : ∃ j_ : Int, (Int.tmod a0 64) = j_ := ⟨_, rfl⟩
  replace H : (if 0 ≤ (ji2) then (some ((Int.tdiv a0 64) % 256, shl .u64 1 (ji2))) else (none)) = some (r1, r2) := by first | (rw [hji2] at H; exact H) | (simp only [hji2] at H ⊢; exact H)
  by_cases c3 : 0 ≤ (ji2)
  · rw [if_pos c3] at H
    have c3b0 := eq_true c3
    have c3b1 : decide (0 ≤ (ji2)) = true := decide_eq_true c3
    clear c3
    obtain ⟨ji4, hji4⟩ : ∃ j_ : Int, (shl .u64 1 (ji2)) = j_ := ⟨_, rfl⟩
    replace H : (some ((Int.tdiv a0 64) % 256, ji4)) = some (r1, r2) := by first | (rw [hji4] at H; exact H) | (simp only [hji4] at H ⊢; exact H)
    have hji4_ : (IntKind.u64.wrap (1 * 2 ^ min (ji2).toNat 64)) = ji4 := hji4
    have hji4z : (ji2) ≤ 64 → (IntKind.u64.wrap (1 * 2 ^ (ji2).toNat)) = ji4 := shl_small hji4
    have hji4u : (IntKind.u64.wrap (2 ^ min (ji2).toNat 64)) = ji4 := by have h_ := hji4_; rw [Int.one_mul] at h_; exact h_
    have hji4v : (ji2) ≤ 64 → (IntKind.u64.wrap (2 ^ (ji2).toNat)) = ji4 := fun hle_ => by have h_ := hji4z hle_; rw [Int.one_mul] at h_; exact h_
    simp only [Option.some.injEq, Prod.mk.injEq] at H
    obtain ⟨rfl, rfl⟩ := H
    go_enter Try.func45, Try.ntmps45
    go_wp2
    go_ret2
    exact ⟨by first | rfl | (simp; done) | (simp only [← hji2, ← hji4] <;> (first | rfl | simp)) | (simp [*]; done), by repeat (first | exact Drawn0.refl _ | apply Drawn0.step)⟩
  · rw [if_neg c3] at H
    exact absurd H (by simp)

/-! ### octets_Has: function 46 -/
theorem octets_words.pow_wrap (n : Nat) (h : n < 64) : IntKind.u64.wrap (2 ^ n) = 2 ^ n := by
  have h2 : 2 ^ n < 2 ^ 64 := Nat.pow_lt_pow_right (by decide) h
  have e : (2:Int) ^ n = ((2 ^ n : Nat) : Int) := by simp
  rw [e]
  generalize 2 ^ n = p at h2
  simp [IntKind.wrap, IntKind.bits, IntKind.signed] at *
  omega
theorem octets_words.ret2 {a b c d : Value} (h : a = c) (k : b = d) : Ending.returned (.tuple #[a, b]) = .returned (.tuple #[c, d]) := by rw [h, k]
set_option maxHeartbeats 400000 in
set_option maxRecDepth 100000 in
theorem octets_words.bit (c : Int) (h0 : 0 ≤ c) (h1 : c < 256) (w : World) :
    Calls Try.prog 45 #[.int .u8 c] w fun e w' => e = .returned (.tuple #[.int .i64 (c / 64), .int .u64 (2 ^ (c % 64).toNat)]) ∧ w = w' := by
  have hw := Aside0.mk (octets_words.pow_wrap (c % 64).toNat (by omega))
  go_enter Try.func45, Try.ntmps45
  go_wp2
  go_ret2
  exact ⟨octets_words.ret2 rfl (by show Value.int .u64 _ = _; rw [hw.out]), rfl⟩
/-- A block of four words. -/
def octets_words.B4 (w : World) (g : Nat) (a b c d : Int) : Prop := w.heap[g]? = some (.cells #[.int .u64 a, .int .u64 b, .int .u64 c, .int .u64 d] 38 (0, 0))
theorem octets_words.cells {w : World} {g : Nat} {a b c d : Int} (h : octets_words.B4 w g a b c d) :
    w.cell? ⟨g, 0, none⟩ = some (.int .u64 a) ∧ w.cell? ⟨g, 1, none⟩ = some (.int .u64 b) ∧ w.cell? ⟨g, 2, none⟩ = some (.int .u64 c) ∧ w.cell? ⟨g, 3, none⟩ = some (.int .u64 d) :=
  ⟨blk_cell h 0, blk_cell h 1, blk_cell h 2, blk_cell h 3⟩
theorem octets_words.free {w : World} {g : Nat} {a b c d : Int} (h : octets_words.B4 w g a b c d) (i : Nat) : w.frozen? ⟨g, i, none⟩ = false := blk_frozen h i
def octets_Has.f (a0_0 a0_1 a0_2 a0_3 a1 : Int) : Option Bool :=
  if 0 ≤ a1 ∧ a1 < 256 then some (Go.bits .and .u64 (if a1 / 64 = 0 then a0_0 else if a1 / 64 = 1 then a0_1 else if a1 / 64 = 2 then a0_2 else a0_3) (2 ^ (a1 % 64).toNat) != 0) else none

set_option maxHeartbeats 400000 in
set_option maxRecDepth 100000 in
theorem octets_Has.at0 (x0 x1 x2 x3 c : Int) (h0 : 0 ≤ c) (h1 : c < 64) (w : World) :
    Calls Try.prog 46 #[.agg #[.int .u64 x0, .int .u64 x1, .int .u64 x2, .int .u64 x3], .int .u8 c] w fun e w' => e = .returned (.bool (Go.bits .and .u64 x0 (2 ^ (c % 64).toNat) != 0)) ∧ Below w.heap.size w w' := by
  have hd : c / 64 = 0 := by omega
  have HD := Aside0.mk hd
  clear hd
  go_enter Try.func46, Try.ntmps46
  go_wp2_with fail
  refine (octets_words.bit c (by omega) (by omega) _).mono ?_
  rintro e w' ⟨rfl, rfl⟩
  rw [HD.out]
  go_wp2_with fail
  go_ret
  exact ⟨rfl, below_alloc (Below.refl _ _) _⟩

set_option maxHeartbeats 400000 in
set_option maxRecDepth 100000 in
theorem octets_Has.at1 (x0 x1 x2 x3 c : Int) (h0 : 64 ≤ c) (h1 : c < 128) (w : World) :
    Calls Try.prog 46 #[.agg #[.int .u64 x0, .int .u64 x1, .int .u64 x2, .int .u64 x3], .int .u8 c] w fun e w' => e = .returned (.bool (Go.bits .and .u64 x1 (2 ^ (c % 64).toNat) != 0)) ∧ Below w.heap.size w w' := by
  have hd : c / 64 = 1 := by omega
  have HD := Aside0.mk hd
  clear hd
  go_enter Try.func46, Try.ntmps46
  go_wp2_with fail
  refine (octets_words.bit c (by omega) (by omega) _).mono ?_
  rintro e w' ⟨rfl, rfl⟩
  rw [HD.out]
  go_wp2_with fail
  go_ret
  exact ⟨rfl, below_alloc (Below.refl _ _) _⟩

set_option maxHeartbeats 400000 in
set_option maxRecDepth 100000 in
theorem octets_Has.at2 (x0 x1 x2 x3 c : Int) (h0 : 128 ≤ c) (h1 : c < 192) (w : World) :
    Calls Try.prog 46 #[.agg #[.int .u64 x0, .int .u64 x1, .int .u64 x2, .int .u64 x3], .int .u8 c] w fun e w' => e = .returned (.bool (Go.bits .and .u64 x2 (2 ^ (c % 64).toNat) != 0)) ∧ Below w.heap.size w w' := by
  have hd : c / 64 = 2 := by omega
  have HD := Aside0.mk hd
  clear hd
  go_enter Try.func46, Try.ntmps46
  go_wp2_with fail
  refine (octets_words.bit c (by omega) (by omega) _).mono ?_
  rintro e w' ⟨rfl, rfl⟩
  rw [HD.out]
  go_wp2_with fail
  go_ret
  exact ⟨rfl, below_alloc (Below.refl _ _) _⟩

set_option maxHeartbeats 400000 in
set_option maxRecDepth 100000 in
theorem octets_Has.at3 (x0 x1 x2 x3 c : Int) (h0 : 192 ≤ c) (h1 : c < 256) (w : World) :
    Calls Try.prog 46 #[.agg #[.int .u64 x0, .int .u64 x1, .int .u64 x2, .int .u64 x3], .int .u8 c] w fun e w' => e = .returned (.bool (Go.bits .and .u64 x3 (2 ^ (c % 64).toNat) != 0)) ∧ Below w.heap.size w w' := by
  have hd : c / 64 = 3 := by omega
  have HD := Aside0.mk hd
  clear hd
  go_enter Try.func46, Try.ntmps46
  go_wp2_with fail
  refine (octets_words.bit c (by omega) (by omega) _).mono ?_
  rintro e w' ⟨rfl, rfl⟩
  rw [HD.out]
  go_wp2_with fail
  go_ret
  exact ⟨rfl, below_alloc (Below.refl _ _) _⟩

theorem octets_Has.calls (a0_0 a0_1 a0_2 a0_3 a1 : Int) (r : Bool) (w : World) (h : octets_Has.f a0_0 a0_1 a0_2 a0_3 a1 = some r) :
    Calls Try.prog 46 #[.agg #[.int .u64 a0_0, .int .u64 a0_1, .int .u64 a0_2, .int .u64 a0_3], .int .u8 a1] w fun e w' => e = .returned (.bool r) ∧ Below w.heap.size w w' := by
  unfold octets_Has.f at h
  by_cases hc : 0 ≤ a1 ∧ a1 < 256
  · rw [if_pos hc] at h
    have h := (Option.some.inj h).symm
    obtain ⟨h0, h1⟩ := hc
    by_cases c0 : a1 / 64 = 0
    · rw [if_pos c0] at h; subst h; exact octets_Has.at0 _ _ _ _ _ (by omega) (by omega) w
    · rw [if_neg c0] at h
      by_cases c1 : a1 / 64 = 1
      · rw [if_pos c1] at h; subst h; exact octets_Has.at1 _ _ _ _ _ (by omega) (by omega) w
      · rw [if_neg c1] at h
        by_cases c2 : a1 / 64 = 2
        · rw [if_pos c2] at h; subst h; exact octets_Has.at2 _ _ _ _ _ (by omega) (by omega) w
        · rw [if_neg c2] at h; subst h; exact octets_Has.at3 _ _ _ _ _ (by omega) (by omega) w
  · rw [if_neg hc] at h; exact absurd h (by simp)
/-- A byte of a set. -/
theorem octets_Has.set (p : Nat → Bool) (c : Int) (h0 : 0 ≤ c) (h1 : c < 256) : octets_Has.f (Base.wd p 0) (Base.wd p 1) (Base.wd p 2) (Base.wd p 3) c = some (p c.toNat) := by
  obtain ⟨n, rfl⟩ : ∃ n : Nat, c = n := ⟨c.toNat, by omega⟩
  unfold octets_Has.f
  rw [if_pos ⟨h0, h1⟩]
  by_cases c0 : ((n : Int)) / 64 = 0
  · rw [if_pos c0, Base.wd_has p 0 n (by omega)]; rfl
  · rw [if_neg c0]
    by_cases c1 : ((n : Int)) / 64 = 1
    · rw [if_pos c1, Base.wd_has p 1 n (by omega)]; rfl
    · rw [if_neg c1]
      by_cases c2 : ((n : Int)) / 64 = 2
      · rw [if_pos c2, Base.wd_has p 2 n (by omega)]; rfl
      · rw [if_neg c2, Base.wd_has p 3 n (by omega)]; rfl


-- NOT PRINTED: function 71 (bytealg_IndexByteString)

/-! ### stringslite_IndexByte: function 65 -/
def stringslite_IndexByte.f (a0 : ByteArray) (a1 : Int) : Option Int := some (Lib.indexByte a0.data.toList a1.toNat.toUInt8)
set_option maxHeartbeats 1000000 in
set_option maxRecDepth 100000 in
theorem stringslite_IndexByte.calls (a0 : ByteArray) (a1 : Int) (r : Int) (w : World) (h : stringslite_IndexByte.f a0 a1 = some r) :
    Calls Try.prog 65 #[.string a0, .int .u8 a1] w fun e w' => e = .returned (.int .i64 r) ∧ Below w.heap.size w w' := by
  have h := Option.some.inj h
  subst h
  go_enter Try.func65, Try.ntmps65
  go_wp2
  rw [run_callFunc_extern Try.func71 (by kernel_rfl) (by kernel_rfl) (by kernel_rfl) (e := Extern.BytealgIndexByte.indexByte) (by kernel_rfl), Lib.run_indexByteString]
  simp only [Result.andThen]
  rw [Oper.upon_value]
  go_wp2
  go_ret
  exact ⟨rfl, Below.refl _ _⟩

/-! ### strings_IndexByte: function 47 -/
def strings_IndexByte.f (a0 : ByteArray) (a1 : Int) : Option (Int) := (stringslite_IndexByte.f a0 a1).bind fun t101 => (some t101)
set_option maxHeartbeats 8000000 in
set_option maxRecDepth 100000 in
theorem strings_IndexByte.calls (a0 : ByteArray) (a1 : Int) (r : Int) (w : World) (h : strings_IndexByte.f a0 a1 = some r) :
    Calls Try.prog 47 #[.string a0, .int .u8 a1] w fun e w' => e = .returned (.int .i64 r) ∧ Below w.heap.size w w' := by
  have HB := Aside0.mk (Below.refl w.heap.size w)
  have H : ((stringslite_IndexByte.f a0 a1).bind fun t101 => (some t101)) = some r := h
  clear h
  replace H := Option.bind_eq_some_iff.mp H
  obtain ⟨t101, A30, H⟩ := H
  replace H : (some t101) = some r := H
  have A3 := Aside0.mk A30
  clear A30
  obtain rfl := Option.some.inj H
  go_enter Try.func47, Try.ntmps47
  go_wp2_with (first | ((with_reducible refine gate_callee (f := 65) rfl ?_); refine goesL_ (some 7) rfl rfl Try.func65 (by kernel_rfl) rfl #[.string a0, .int .u8 a1] rfl (by (try simp only [List.map_toArray, List.map_cons, List.map_nil]); first | done | rfl | (simp only [List.length_drop, List.length_take]; rfl)) ?_; (with_reducible refine (stringslite_IndexByte.calls a0 a1 t101 _ A3.out).mono ?_); rintro e w4 ⟨rfl, hb⟩; refine ⟨_, rfl, ?_⟩; have n0_ := Aside0.mk (below_step (by repeat (first | (with_reducible first | exact HB.out | apply below_alloc | apply pw_below_drewN | apply below_drew1) | exact HB.out)) hb); clear HB; have HB := n0_; clear n0_; (try clear hb); (try clear hb2); (try clear hk); (try clear hi)))
  go_ret
  exact ⟨by first | rfl | (simp [errW_none, errW_some] <;> rfl) | (simp [*, errW_none, errW_some] <;> rfl), by repeat (first | (with_reducible first | exact HB.out | apply below_alloc | apply pw_below_drewN | apply below_drew1) | exact HB.out)⟩

/-! ### octets_Or: function 23 -/
-- words: function 46's text
def octets_Or.f (a0_0 a0_1 a0_2 a0_3 a1_0 a1_1 a1_2 a1_3 : Int) : Option (Int × Int × Int × Int) := some (Go.bits .or .u64 a0_0 a1_0, Go.bits .or .u64 a0_1 a1_1, Go.bits .or .u64 a0_2 a1_2, Go.bits .or .u64 a0_3 a1_3)
set_option maxHeartbeats 1000000 in
set_option maxRecDepth 100000 in
theorem octets_Or.any (x0 x1 x2 x3 y0 y1 y2 y3 : Int) (w : World) :
    Calls Try.prog 23 #[.agg #[.int .u64 x0, .int .u64 x1, .int .u64 x2, .int .u64 x3], .agg #[.int .u64 y0, .int .u64 y1, .int .u64 y2, .int .u64 y3]] w fun e w' => e = .returned (.agg #[.int .u64 (Go.bits .or .u64 x0 y0), .int .u64 (Go.bits .or .u64 x1 y1), .int .u64 (Go.bits .or .u64 x2 y2), .int .u64 (Go.bits .or .u64 x3 y3)]) ∧ Below w.heap.size w w' := by
  go_enter Try.func23, Try.ntmps23
  go_wp2
  go_loopw [6] (fun i wr => ∃ (k : Nat) (a b c d : Int), k ≤ 4 ∧ i = .int .i64 k ∧ Aside0 (a = (if 0 < k then Go.bits .or .u64 x0 y0 else x0) ∧ b = (if 1 < k then Go.bits .or .u64 x1 y1 else x1) ∧ c = (if 2 < k then Go.bits .or .u64 x2 y2 else x2) ∧ d = (if 3 < k then Go.bits .or .u64 x3 y3 else x3)) ∧ Aside0 (octets_words.B4 wr w.heap.size a b c d) ∧ Aside0 (octets_words.B4 wr (w.heap.size + 1) y0 y1 y2 y3) ∧ Aside0 (octets_words.B4 wr (w.heap.size + 1 + 1) 0 0 0 0) ∧ Aside0 (Below w.heap.size w wr)) (fun i _ => 4 - (intOf i).toNat)
  case atStart =>
    refine ⟨0, x0, x1, x2, x3, by omega, rfl, ⟨by simp⟩, ⟨?_⟩, ⟨?_⟩, ⟨?_⟩, ⟨?_⟩⟩
    · exact blk_alloc (blk_alloc (blk_new _ _) _) _
    · refine blk_alloc ?_ _; simpa using blk_new (w.alloc _) _
    · have := blk_new ((w.alloc (Obj.cells #[Value.int .u64 x0, Value.int .u64 x1, Value.int .u64 x2, Value.int .u64 x3] 38)).alloc (Obj.cells #[Value.int .u64 y0, Value.int .u64 y1, Value.int .u64 y2, Value.int .u64 y3] 38)) (Obj.cells #[Value.int .u64 0, Value.int .u64 0, Value.int .u64 0, Value.int .u64 0] 38)
      simpa [octets_words.B4] using this
    · exact ((((Below.refl _ _).alloc (Nat.le_refl _) _).alloc (by simp) _).alloc (by simp; omega) _)
  case round =>
    obtain ⟨k, a, b, c, d, hk, rfl, he, ha, hb, hc, hd⟩ := hrel
    have fa := fun i => octets_words.free ha.out i
    obtain ⟨a0, a1, a2, a3⟩ := octets_words.cells ha.out
    obtain ⟨b0, b1, b2, b3⟩ := octets_words.cells hb.out
    by_cases hlt : k < 4
    · have q : k = 0 ∨ k = 1 ∨ k = 2 ∨ k = 3 := by omega
      rcases q with rfl | rfl | rfl | rfl
      · have f0 := fa 0
        clear hk hlt fa a1 b1 a2 b2 a3 b3
        go_wp2
        go_region
        all_goals go_wp2
        all_goals go_roundw
        case rel =>
          obtain ⟨e0, e1, e2, e3⟩ := he.out
          refine ⟨1, _, b, c, d, by omega, by go_num, ⟨?_⟩, ⟨blk_put ha.out 0 _ rfl⟩, ⟨blk_far hb.out (by show w.heap.size + 1 ≠ w.heap.size; omega) _⟩, ⟨blk_far hc.out (by show w.heap.size + 1 + 1 ≠ w.heap.size; omega) _⟩, ⟨(hd.out.setCell (by simp) _).drew⟩⟩
          simp [e0, e1, e2, e3]
        case measure => simp [intOf]
      · have f1 := fa 1
        clear hk hlt fa a0 b0 a2 b2 a3 b3
        go_wp2
        go_region
        all_goals go_wp2
        all_goals go_roundw
        case rel =>
          obtain ⟨e0, e1, e2, e3⟩ := he.out
          refine ⟨2, a, _, c, d, by omega, by go_num, ⟨?_⟩, ⟨blk_put ha.out 1 _ rfl⟩, ⟨blk_far hb.out (by show w.heap.size + 1 ≠ w.heap.size; omega) _⟩, ⟨blk_far hc.out (by show w.heap.size + 1 + 1 ≠ w.heap.size; omega) _⟩, ⟨(hd.out.setCell (by simp) _).drew⟩⟩
          simp [e0, e1, e2, e3]
        case measure => simp [intOf]
      · have f2 := fa 2
        clear hk hlt fa a0 b0 a1 b1 a3 b3
        go_wp2
        go_region
        all_goals go_wp2
        all_goals go_roundw
        case rel =>
          obtain ⟨e0, e1, e2, e3⟩ := he.out
          refine ⟨3, a, b, _, d, by omega, by go_num, ⟨?_⟩, ⟨blk_put ha.out 2 _ rfl⟩, ⟨blk_far hb.out (by show w.heap.size + 1 ≠ w.heap.size; omega) _⟩, ⟨blk_far hc.out (by show w.heap.size + 1 + 1 ≠ w.heap.size; omega) _⟩, ⟨(hd.out.setCell (by simp) _).drew⟩⟩
          simp [e0, e1, e2, e3]
        case measure => simp [intOf]
      · have f3 := fa 3
        clear hk hlt fa a0 b0 a1 b1 a2 b2
        go_wp2
        go_region
        all_goals go_wp2
        all_goals go_roundw
        case rel =>
          obtain ⟨e0, e1, e2, e3⟩ := he.out
          refine ⟨4, a, b, c, _, by omega, by go_num, ⟨?_⟩, ⟨blk_put ha.out 3 _ rfl⟩, ⟨blk_far hb.out (by show w.heap.size + 1 ≠ w.heap.size; omega) _⟩, ⟨blk_far hc.out (by show w.heap.size + 1 + 1 ≠ w.heap.size; omega) _⟩, ⟨(hd.out.setCell (by simp) _).drew⟩⟩
          simp [e0, e1, e2, e3]
        case measure => simp [intOf]
    · obtain rfl : k = 4 := by omega
      have fc := fun i => octets_words.free hc.out i
      obtain ⟨c0, c1, c2, c3⟩ := octets_words.cells hc.out
      have f0 := fc 0
      have f1 := fc 1
      have f2 := fc 2
      have f3 := fc 3
      clear fa fc hk hlt
      go_wp2
      obtain ⟨e0, e1, e2, e3⟩ := he.out
      have hz := Aside0.mk (show octets_words.B4 _ (w.heap.size + 1 + 1) a b c d from blk_put (blk_put (blk_put (blk_put hc.out 0 (.int .u64 a) rfl) 1 (.int .u64 b) rfl) 2 (.int .u64 c) rfl) 3 (.int .u64 d) rfl)
      have hb4 := Aside0.mk ((((hd.out.setCell (p := ⟨w.heap.size + 1 + 1, 0, none⟩) (by simp; try omega) (.int .u64 a)).setCell (p := ⟨w.heap.size + 1 + 1, 1, none⟩) (by simp; try omega) (.int .u64 b)).setCell (p := ⟨w.heap.size + 1 + 1, 2, none⟩) (by simp; try omega) (.int .u64 c)).setCell (p := ⟨w.heap.size + 1 + 1, 3, none⟩) (by simp; try omega) (.int .u64 d))
      revert hz hb4
      generalize ((((wr.setCell ⟨w.heap.size + 1 + 1, 0, none⟩ (.int .u64 a)).setCell ⟨w.heap.size + 1 + 1, 1, none⟩ (.int .u64 b)).setCell ⟨w.heap.size + 1 + 1, 2, none⟩ (.int .u64 c)).setCell ⟨w.heap.size + 1 + 1, 3, none⟩ (.int .u64 d)) = W
      intro hz hb4
      obtain ⟨z0, z1, z2, z3⟩ := octets_words.cells hz.out
      refine bodyPost_ret (v := .agg #[.int .u64 a, .int .u64 b, .int .u64 c, .int .u64 d]) (by simp [results, Try.results23, go_sem, z0, z1, z2, z3]) rfl ⟨?_, hb4.out⟩
      simp [e0, e1, e2, e3]
theorem octets_Or.calls (a0_0 a0_1 a0_2 a0_3 a1_0 a1_1 a1_2 a1_3 : Int) (r1 r2 r3 r4 : Int) (w : World) (h : octets_Or.f a0_0 a0_1 a0_2 a0_3 a1_0 a1_1 a1_2 a1_3 = some (r1, r2, r3, r4)) :
    Calls Try.prog 23 #[.agg #[.int .u64 a0_0, .int .u64 a0_1, .int .u64 a0_2, .int .u64 a0_3], .agg #[.int .u64 a1_0, .int .u64 a1_1, .int .u64 a1_2, .int .u64 a1_3]] w fun e w' => e = .returned (.agg #[.int .u64 r1, .int .u64 r2, .int .u64 r3, .int .u64 r4]) ∧ Below w.heap.size w w' := by
  simp only [octets_Or.f, Option.some.injEq, Prod.mk.injEq] at h
  obtain ⟨rfl, rfl, rfl, rfl⟩ := h
  exact octets_Or.any _ _ _ _ _ _ _ _ w
theorem octets_Or.set (p q : Nat → Bool) : octets_Or.f (Base.wd p 0) (Base.wd p 1) (Base.wd p 2) (Base.wd p 3) (Base.wd q 0) (Base.wd q 1) (Base.wd q 2) (Base.wd q 3) = some (Base.wd (fun n => p n || q n) 0, Base.wd (fun n => p n || q n) 1, Base.wd (fun n => p n || q n) 2, Base.wd (fun n => p n || q n) 3) := by
  simp only [octets_Or.f, Base.wd_or]


/-! ### octets_Range: function 24 -/
-- words: function 46's text
/-- The bytes from a on, below b. -/
def octets_Range.p (a b : Int) : Nat → Bool := fun n => decide (a ≤ (n : Int)) && decide ((n : Int) < b)
theorem octets_Range.step (a : Int) (k : Nat) (h : a ≤ k) : (fun n => octets_Range.p a k n || n == k) = octets_Range.p a (k + 1 : Nat) := by
  funext n
  unfold octets_Range.p
  rw [Bool.eq_iff_iff]
  simp only [Bool.or_eq_true, Bool.and_eq_true, decide_eq_true_eq, beq_iff_eq]
  omega
theorem octets_Range.empty (a : Int) : octets_Range.p a a = fun _ => false := by
  funext n
  unfold octets_Range.p
  rw [Bool.eq_false_iff]
  simp only [ne_eq, Bool.and_eq_true, decide_eq_true_eq]
  omega
def octets_Range.f (a0 a1 : Int) : Option (Int × Int × Int × Int) :=
  if 0 ≤ a0 ∧ a0 ≤ a1 ∧ a1 ≤ 255 then some (Base.wd (octets_Range.p a0 (a1 + 1)) 0, Base.wd (octets_Range.p a0 (a1 + 1)) 1, Base.wd (octets_Range.p a0 (a1 + 1)) 2, Base.wd (octets_Range.p a0 (a1 + 1)) 3) else none
set_option maxHeartbeats 1000000 in
set_option maxRecDepth 100000 in
theorem octets_Range.any (x y : Int) (h0 : 0 ≤ x) (h1 : x ≤ y) (h2 : y ≤ 255) (w : World) :
    Calls Try.prog 24 #[.int .u8 x, .int .u8 y] w fun e w' => e = .returned (.agg #[.int .u64 (Base.wd (octets_Range.p x (y + 1)) 0), .int .u64 (Base.wd (octets_Range.p x (y + 1)) 1), .int .u64 (Base.wd (octets_Range.p x (y + 1)) 2), .int .u64 (Base.wd (octets_Range.p x (y + 1)) 3)]) ∧ Below w.heap.size w w' := by
  go_enter Try.func24, Try.ntmps24
  go_wp2
  go_loopw [6] (fun i wr => ∃ (k : Nat) (a b c d : Int), x ≤ k ∧ k ≤ y + 1 ∧ i = .int .i64 k ∧ Aside0 (a = Base.wd (octets_Range.p x k) 0 ∧ b = Base.wd (octets_Range.p x k) 1 ∧ c = Base.wd (octets_Range.p x k) 2 ∧ d = Base.wd (octets_Range.p x k) 3) ∧ Aside0 (octets_words.B4 wr w.heap.size 0 0 0 0) ∧ Aside0 (octets_words.B4 wr (w.heap.size + 1) a b c d) ∧ Aside0 (Below w.heap.size w wr)) (fun i _ => 256 - (intOf i).toNat)
  case atStart =>
    refine ⟨x.toNat, 0, 0, 0, 0, by omega, by omega, by go_num, ⟨?_⟩, ⟨?_⟩, ⟨?_⟩, ⟨?_⟩⟩
    · have e : ((x.toNat : Nat) : Int) = x := by omega
      rw [e, octets_Range.empty]
      simp only [Base.wd_none, and_self]
    · exact blk_alloc (blk_new _ _) _
    · have := blk_new (w.alloc (Obj.cells #[Value.int .u64 0, Value.int .u64 0, Value.int .u64 0, Value.int .u64 0] 38)) (Obj.cells #[Value.int .u64 0, Value.int .u64 0, Value.int .u64 0, Value.int .u64 0] 38)
      simpa [octets_words.B4] using this
    · exact (((Below.refl _ _).alloc (Nat.le_refl _) _).alloc (by simp) _)
  case round =>
    obtain ⟨k, a, b, c, d, hk, hk2, rfl, he, hb, ha, hd⟩ := hrel
    have fa := fun i => octets_words.free ha.out i
    obtain ⟨a0, a1, a2, a3⟩ := octets_words.cells ha.out
    by_cases hlt : (k : Int) ≤ y
    · have q : k / 64 = 0 ∨ k / 64 = 1 ∨ k / 64 = 2 ∨ k / 64 = 3 := by omega
      have hk8 : (k : Int) < 256 := by omega
      rcases q with q | q | q | q
      · have f0 := fa 0
        have Q := Aside0.mk q
        have hd64 : Aside0 (((k : Nat) : Int) / 64 = 0) := ⟨by omega⟩
        clear q fa a1 a2 a3 
        go_wp2_with fail
        refine (octets_words.bit (k : Int) (by omega) (by omega) _).mono ?_
        rintro e w' ⟨rfl, rfl⟩
        rw [hd64.out]
        go_wp2_with fail
        go_roundw
        case rel =>
          obtain ⟨e0, e1, e2, e3⟩ := he.out
          have q := Q.out
          refine ⟨k + 1, _, b, c, d, by omega, by omega, by go_num, ⟨?_⟩, ⟨blk_far hb.out (by show w.heap.size ≠ w.heap.size + 1; omega) _⟩, ⟨blk_put ha.out 0 _ rfl⟩, ⟨hd.out.setCell (by simp) _⟩⟩
          rw [← octets_Range.step x k hk]
          refine ⟨by rw [e0]; exact Base.wd_add _ 0 _ (by omega), by rw [e1]; exact Base.wd_other _ 1 _ (by omega), by rw [e2]; exact Base.wd_other _ 2 _ (by omega), by rw [e3]; exact Base.wd_other _ 3 _ (by omega)⟩
        case measure => simp [intOf]; omega
      · have f1 := fa 1
        have Q := Aside0.mk q
        have hd64 : Aside0 (((k : Nat) : Int) / 64 = 1) := ⟨by omega⟩
        clear q fa a0 a2 a3 
        go_wp2_with fail
        refine (octets_words.bit (k : Int) (by omega) (by omega) _).mono ?_
        rintro e w' ⟨rfl, rfl⟩
        rw [hd64.out]
        go_wp2_with fail
        go_roundw
        case rel =>
          obtain ⟨e0, e1, e2, e3⟩ := he.out
          have q := Q.out
          refine ⟨k + 1, a, _, c, d, by omega, by omega, by go_num, ⟨?_⟩, ⟨blk_far hb.out (by show w.heap.size ≠ w.heap.size + 1; omega) _⟩, ⟨blk_put ha.out 1 _ rfl⟩, ⟨hd.out.setCell (by simp) _⟩⟩
          rw [← octets_Range.step x k hk]
          refine ⟨by rw [e0]; exact Base.wd_other _ 0 _ (by omega), by rw [e1]; exact Base.wd_add _ 1 _ (by omega), by rw [e2]; exact Base.wd_other _ 2 _ (by omega), by rw [e3]; exact Base.wd_other _ 3 _ (by omega)⟩
        case measure => simp [intOf]; omega
      · have f2 := fa 2
        have Q := Aside0.mk q
        have hd64 : Aside0 (((k : Nat) : Int) / 64 = 2) := ⟨by omega⟩
        clear q fa a0 a1 a3 
        go_wp2_with fail
        refine (octets_words.bit (k : Int) (by omega) (by omega) _).mono ?_
        rintro e w' ⟨rfl, rfl⟩
        rw [hd64.out]
        go_wp2_with fail
        go_roundw
        case rel =>
          obtain ⟨e0, e1, e2, e3⟩ := he.out
          have q := Q.out
          refine ⟨k + 1, a, b, _, d, by omega, by omega, by go_num, ⟨?_⟩, ⟨blk_far hb.out (by show w.heap.size ≠ w.heap.size + 1; omega) _⟩, ⟨blk_put ha.out 2 _ rfl⟩, ⟨hd.out.setCell (by simp) _⟩⟩
          rw [← octets_Range.step x k hk]
          refine ⟨by rw [e0]; exact Base.wd_other _ 0 _ (by omega), by rw [e1]; exact Base.wd_other _ 1 _ (by omega), by rw [e2]; exact Base.wd_add _ 2 _ (by omega), by rw [e3]; exact Base.wd_other _ 3 _ (by omega)⟩
        case measure => simp [intOf]; omega
      · have f3 := fa 3
        have Q := Aside0.mk q
        have hd64 : Aside0 (((k : Nat) : Int) / 64 = 3) := ⟨by omega⟩
        clear q fa a0 a1 a2 
        go_wp2_with fail
        refine (octets_words.bit (k : Int) (by omega) (by omega) _).mono ?_
        rintro e w' ⟨rfl, rfl⟩
        rw [hd64.out]
        go_wp2_with fail
        go_roundw
        case rel =>
          obtain ⟨e0, e1, e2, e3⟩ := he.out
          have q := Q.out
          refine ⟨k + 1, a, b, c, _, by omega, by omega, by go_num, ⟨?_⟩, ⟨blk_far hb.out (by show w.heap.size ≠ w.heap.size + 1; omega) _⟩, ⟨blk_put ha.out 3 _ rfl⟩, ⟨hd.out.setCell (by simp) _⟩⟩
          rw [← octets_Range.step x k hk]
          refine ⟨by rw [e0]; exact Base.wd_other _ 0 _ (by omega), by rw [e1]; exact Base.wd_other _ 1 _ (by omega), by rw [e2]; exact Base.wd_other _ 2 _ (by omega), by rw [e3]; exact Base.wd_add _ 3 _ (by omega)⟩
        case measure => simp [intOf]; omega
    · have hy : (k : Int) = y + 1 := by omega
      have fc := fun i => octets_words.free hb.out i
      obtain ⟨c0, c1, c2, c3⟩ := octets_words.cells hb.out
      have f0 := fc 0
      have f1 := fc 1
      have f2 := fc 2
      have f3 := fc 3
      have HY := Aside0.mk hy
      clear fa fc hy
      go_wp2
      obtain ⟨e0, e1, e2, e3⟩ := he.out
      have hz := Aside0.mk (show octets_words.B4 _ (w.heap.size) a b c d from blk_put (blk_put (blk_put (blk_put hb.out 0 (.int .u64 a) rfl) 1 (.int .u64 b) rfl) 2 (.int .u64 c) rfl) 3 (.int .u64 d) rfl)
      have hb4 := Aside0.mk ((((hd.out.setCell (p := ⟨w.heap.size, 0, none⟩) (by simp; try omega) (.int .u64 a)).setCell (p := ⟨w.heap.size, 1, none⟩) (by simp; try omega) (.int .u64 b)).setCell (p := ⟨w.heap.size, 2, none⟩) (by simp; try omega) (.int .u64 c)).setCell (p := ⟨w.heap.size, 3, none⟩) (by simp; try omega) (.int .u64 d))
      revert hz hb4
      generalize ((((wr.setCell ⟨w.heap.size, 0, none⟩ (.int .u64 a)).setCell ⟨w.heap.size, 1, none⟩ (.int .u64 b)).setCell ⟨w.heap.size, 2, none⟩ (.int .u64 c)).setCell ⟨w.heap.size, 3, none⟩ (.int .u64 d)) = W
      intro hz hb4
      obtain ⟨z0, z1, z2, z3⟩ := octets_words.cells hz.out
      refine bodyPost_ret (v := .agg #[.int .u64 a, .int .u64 b, .int .u64 c, .int .u64 d]) (by simp [results, Try.results24, go_sem, z0, z1, z2, z3]) rfl ⟨?_, hb4.out⟩
      rw [HY.out] at e0 e1 e2 e3
      rw [e0, e1, e2, e3]
theorem octets_Range.calls (a0 a1 : Int) (r1 r2 r3 r4 : Int) (w : World) (h : octets_Range.f a0 a1 = some (r1, r2, r3, r4)) :
    Calls Try.prog 24 #[.int .u8 a0, .int .u8 a1] w fun e w' => e = .returned (.agg #[.int .u64 r1, .int .u64 r2, .int .u64 r3, .int .u64 r4]) ∧ Below w.heap.size w w' := by
  unfold octets_Range.f at h
  by_cases hc : 0 ≤ a0 ∧ a0 ≤ a1 ∧ a1 ≤ 255
  · rw [if_pos hc] at h
    simp only [Option.some.injEq, Prod.mk.injEq] at h
    obtain ⟨rfl, rfl, rfl, rfl⟩ := h
    exact octets_Range.any a0 a1 hc.1 hc.2.1 hc.2.2 w
  · rw [if_neg hc] at h; exact absurd h (by simp)


/-! ### pyurl_letters: function 48 -/
def pyurl_letters.f  : Option (Int × Int × Int × Int) := (octets_Range.f 97 122).bind fun bt103 => ((octets_Range.f 65 90).bind fun bt107 => ((octets_Or.f bt103.1 bt103.2.1 bt103.2.2.1 bt103.2.2.2 bt107.1 bt107.2.1 bt107.2.2.1 bt107.2.2.2).bind fun bt111 => (some (bt111.1, bt111.2.1, bt111.2.2.1, bt111.2.2.2))))
set_option maxHeartbeats 8000000 in
set_option maxRecDepth 100000 in
theorem pyurl_letters.calls  (r1 : Int) (r2 : Int) (r3 : Int) (r4 : Int) (w : World) (h : pyurl_letters.f  = some (r1, r2, r3, r4)) :
    Calls Try.prog 48 #[] w fun e w' => e = .returned (.agg #[.int .u64 r1, .int .u64 r2, .int .u64 r3, .int .u64 r4]) ∧ Below w.heap.size w w' := by
  have hu38 := Try.underlying38
  have HB := Aside0.mk (Below.refl w.heap.size w)
  have H : ((octets_Range.f 97 122).bind fun bt103 => ((octets_Range.f 65 90).bind fun bt107 => ((octets_Or.f bt103.1 bt103.2.1 bt103.2.2.1 bt103.2.2.2 bt107.1 bt107.2.1 bt107.2.2.1 bt107.2.2.2).bind fun bt111 => (some (bt111.1, bt111.2.1, bt111.2.2.1, bt111.2.2.2))))) = some (r1, r2, r3, r4) := h
  clear h
  replace H := Option.bind_eq_some_iff.mp H
  obtain ⟨⟨t103, t104, t105, t106⟩, A10, H⟩ := H
  replace H : ((octets_Range.f 65 90).bind fun bt107 => ((octets_Or.f t103 t104 t105 t106 bt107.1 bt107.2.1 bt107.2.2.1 bt107.2.2.2).bind fun bt111 => (some (bt111.1, bt111.2.1, bt111.2.2.1, bt111.2.2.2)))) = some (r1, r2, r3, r4) := H
  have A1 := Aside0.mk A10
  clear A10
  replace H := Option.bind_eq_some_iff.mp H
  obtain ⟨⟨t107, t108, t109, t110⟩, A20, H⟩ := H
  replace H : ((octets_Or.f t103 t104 t105 t106 t107 t108 t109 t110).bind fun bt111 => (some (bt111.1, bt111.2.1, bt111.2.2.1, bt111.2.2.2))) = some (r1, r2, r3, r4) := H
  have A2 := Aside0.mk A20
  clear A20
  replace H := Option.bind_eq_some_iff.mp H
  obtain ⟨⟨t111, t112, t113, t114⟩, A30, H⟩ := H
  replace H : (some (t111, t112, t113, t114)) = some (r1, r2, r3, r4) := H
  have A3 := Aside0.mk A30
  clear A30
  simp only [Option.some.injEq, Prod.mk.injEq] at H
  obtain ⟨rfl, rfl, rfl, rfl⟩ := H
  go_enter Try.func48, Try.ntmps48
  go_wp2_with (first | ((with_reducible refine gate_dst (N := 0) rfl ?_); refine box_event ?hg (N := 0) ?hd (cs := #[.int .u64 0, .int .u64 0, .int .u64 0, .int .u64 0]) (t := 38) ?hr ?_; (case hd => rfl); (case hg => rfl); (case hr => first | (go_simp; done) | (go_simp; rfl)); intro gb102 hg w4 hbox hb; have n0_ := Aside0.mk (below_step (by repeat (first | (with_reducible first | exact HB.out | apply below_alloc | apply pw_below_drewN | apply below_drew1) | exact HB.out)) hb); have n1_ := Aside0.mk (hbox); have n2_ := Aside0.mk ((by rw [hg]; exact (below_size (by repeat (first | (with_reducible first | exact HB.out | apply below_alloc | apply pw_below_drewN | apply below_drew1) | exact HB.out))) : w.heap.size ≤ gb102)); have n3_ := Aside0.mk ((by rw [hg]; exact (below_size (by repeat (first | (with_reducible first | exact HB.out | apply below_alloc | apply pw_below_drewN | apply below_drew1) | exact HB.out))) : w.heap.size ≤ gb102)); clear HB; have HB := n0_; have BK102 := n1_; have GW102 := n2_; have GE102 := n3_; clear n0_ n1_ n2_ n3_; clear hb hbox hg) | ((with_reducible refine gate_callee (f := 24) rfl ?_); refine goesL_ (some 1) rfl rfl Try.func24 (by kernel_rfl) rfl #[.int .u8 97, .int .u8 122] rfl (by (try simp only [List.map_toArray, List.map_cons, List.map_nil]); first | done | rfl | (simp only [List.length_drop, List.length_take]; rfl)) ?_; (with_reducible refine (octets_Range.calls 97 122 t103 t104 t105 t106 _ A1.out).mono ?_); rintro e w5 ⟨rfl, hb⟩; refine ⟨_, rfl, ?_⟩; have n0_ := Aside0.mk (blk_below (g := gb102) (o := .cells #[.int .u64 0, .int .u64 0, .int .u64 0, .int .u64 0] 38 (0, 0)) (by (with_reducible repeat (first | refine blk_drewN ?_ _ | refine blk_drew ?_ | refine blk_alloc ?_ _)); exact BK102.out) hb); have n1_ := Aside0.mk (below_step (by repeat (first | (with_reducible first | exact HB.out | apply below_alloc | apply pw_below_drewN | apply below_drew1 | refine below_set ?_ GE102.out) | exact HB.out)) hb); clear BK102; clear HB; have BK102 := n0_; have HB := n1_; clear n0_ n1_; (try clear hb); (try clear hb2); (try clear hk); (try clear hi)) | ((with_reducible refine gate_callee (f := 24) rfl ?_); refine goesL_ (some 2) rfl rfl Try.func24 (by kernel_rfl) rfl #[.int .u8 65, .int .u8 90] rfl (by (try simp only [List.map_toArray, List.map_cons, List.map_nil]); first | done | rfl | (simp only [List.length_drop, List.length_take]; rfl)) ?_; (with_reducible refine (octets_Range.calls 65 90 t107 t108 t109 t110 _ A2.out).mono ?_); rintro e w6 ⟨rfl, hb⟩; refine ⟨_, rfl, ?_⟩; have n0_ := Aside0.mk (blk_below (g := gb102) (o := .cells #[.int .u64 0, .int .u64 0, .int .u64 0, .int .u64 0] 38 (0, 0)) (by (with_reducible repeat (first | refine blk_drewN ?_ _ | refine blk_drew ?_ | refine blk_alloc ?_ _)); exact BK102.out) hb); have n1_ := Aside0.mk (below_step (by repeat (first | (with_reducible first | exact HB.out | apply below_alloc | apply pw_below_drewN | apply below_drew1 | refine below_set ?_ GE102.out) | exact HB.out)) hb); clear BK102; clear HB; have BK102 := n0_; have HB := n1_; clear n0_ n1_; (try clear hb); (try clear hb2); (try clear hk); (try clear hi)) | ((with_reducible refine gate_callee (f := 23) rfl ?_); refine goesL_ (some 3) rfl rfl Try.func23 (by kernel_rfl) rfl #[.agg #[.int .u64 t103, .int .u64 t104, .int .u64 t105, .int .u64 t106], .agg #[.int .u64 t107, .int .u64 t108, .int .u64 t109, .int .u64 t110]] rfl (by (try simp only [List.map_toArray, List.map_cons, List.map_nil]); first | done | rfl | (simp only [List.length_drop, List.length_take]; rfl)) ?_; (with_reducible refine (octets_Or.calls t103 t104 t105 t106 t107 t108 t109 t110 t111 t112 t113 t114 _ A3.out).mono ?_); rintro e w7 ⟨rfl, hb⟩; refine ⟨_, rfl, ?_⟩; have n0_ := Aside0.mk (blk_below (g := gb102) (o := .cells #[.int .u64 0, .int .u64 0, .int .u64 0, .int .u64 0] 38 (0, 0)) (by (with_reducible repeat (first | refine blk_drewN ?_ _ | refine blk_drew ?_ | refine blk_alloc ?_ _)); exact BK102.out) hb); have n1_ := Aside0.mk (below_step (by repeat (first | (with_reducible first | exact HB.out | apply below_alloc | apply pw_below_drewN | apply below_drew1 | refine below_set ?_ GE102.out) | exact HB.out)) hb); clear BK102; clear HB; have BK102 := n0_; have HB := n1_; clear n0_ n1_; (try clear hb); (try clear hb2); (try clear hk); (try clear hi); have hcz8_0 : w7.cell? ⟨gb102, 0, none⟩ = some (.int .u64 0) := (blk_cell BK102.out 0).trans rfl; have hcz8_1 : w7.cell? ⟨gb102, 1, none⟩ = some (.int .u64 0) := (blk_cell BK102.out 1).trans rfl; have hcz8_2 : w7.cell? ⟨gb102, 2, none⟩ = some (.int .u64 0) := (blk_cell BK102.out 2).trans rfl; have hcz8_3 : w7.cell? ⟨gb102, 3, none⟩ = some (.int .u64 0) := (blk_cell BK102.out 3).trans rfl; have hfz8_0 := blk_frozen BK102.out 0; have hfz8_1 := blk_frozen BK102.out 1; have hfz8_2 := blk_frozen BK102.out 2; have hfz8_3 := blk_frozen BK102.out 3))
  refine bodyPost_ret (results_cell_row rfl _ _ gb102 38 #[.int .u64 t111, .int .u64 t112, .int .u64 t113, .int .u64 t114] (0, 0) _ rfl (by (with_reducible repeat (first | refine blk_drewN ?_ _ | refine blk_drew ?_ | refine blk_alloc ?_ _)); refine blk_put (cs := #[.int .u64 t111, .int .u64 t112, .int .u64 t113, .int .u64 0]) ?_ 3 _ rfl; (with_reducible repeat (first | refine blk_drewN ?_ _ | refine blk_drew ?_ | refine blk_alloc ?_ _)); refine blk_put (cs := #[.int .u64 t111, .int .u64 t112, .int .u64 0, .int .u64 0]) ?_ 2 _ rfl; (with_reducible repeat (first | refine blk_drewN ?_ _ | refine blk_drew ?_ | refine blk_alloc ?_ _)); refine blk_put (cs := #[.int .u64 t111, .int .u64 0, .int .u64 0, .int .u64 0]) ?_ 1 _ rfl; (with_reducible repeat (first | refine blk_drewN ?_ _ | refine blk_drew ?_ | refine blk_alloc ?_ _)); refine blk_put (cs := #[.int .u64 0, .int .u64 0, .int .u64 0, .int .u64 0]) ?_ 0 _ rfl; (with_reducible repeat (first | refine blk_drewN ?_ _ | refine blk_drew ?_ | refine blk_alloc ?_ _)); exact BK102.out) Try.underlying38 rfl (by kernel_rfl)) rfl ?_
  exact ⟨by first | rfl | (simp [errW_none, errW_some] <;> rfl) | (simp [*, errW_none, errW_some] <;> rfl), by repeat (first | (with_reducible first | exact HB.out | apply below_alloc | apply pw_below_drewN | apply below_drew1 | refine below_set ?_ GE102.out) | exact HB.out)⟩

/-! ### octets_Of: function 25 -/
-- words: function 46's text
/-- The bytes of a list. -/
def octets_Of.p (l : List Int) : Nat → Bool := fun n => l.contains (n : Int)
theorem octets_Of.step (l : List Int) (k : Nat) (h : k < l.length) (h0 : 0 ≤ rd l k) : (fun n => octets_Of.p (l.take k) n || n == (rd l k).toNat) = octets_Of.p (l.take (k + 1)) := by
  funext n
  unfold octets_Of.p
  have e : rd l k = l[k] := by simp [rd, List.getD_eq_getElem?_getD, h]
  rw [e] at h0 ⊢
  rw [List.take_succ_eq_append_getElem h, Bool.eq_iff_iff]
  simp only [Bool.or_eq_true, List.contains_iff_mem, List.mem_append, List.mem_singleton, beq_iff_eq]
  constructor
  · rintro (h | h)
    · exact .inl h
    · right; omega
  · rintro (h | h)
    · exact .inl h
    · right; omega
theorem octets_Of.add (p : Nat → Bool) (j : Nat) (x : Int) (h0 : 0 ≤ x) (hj : x / 64 = j) : Go.bits .or .u64 (Base.wd p j) (2 ^ (x % 64).toNat) = Base.wd (fun n => p n || n == x.toNat) j := by
  have := Base.wd_add p j x.toNat (by omega)
  rwa [show ((x.toNat : Nat) : Int) = x from by omega] at this
def octets_Of.f (l0 : List Int) : Option (Int × Int × Int × Int) :=
  if (l0.all fun x => decide (0 ≤ x) && decide (x ≤ 255)) = true then some (Base.wd (octets_Of.p l0) 0, Base.wd (octets_Of.p l0) 1, Base.wd (octets_Of.p l0) 2, Base.wd (octets_Of.p l0) 3) else none
set_option maxHeartbeats 1000000 in
set_option maxRecDepth 100000 in
theorem octets_Of.any (A0 : Option Addr) (c0 : Nat) (l0 : List Int) (w : World) (hr0 : Kd.C (Kd.int .u8) w A0 l0.length l0) (hc0 : l0.length ≤ c0) (hl : ∀ x, x ∈ l0 → 0 ≤ x ∧ x ≤ 255) :
    Calls Try.prog 25 #[.slice A0 l0.length c0] w fun e w' => e = .returned (.agg #[.int .u64 (Base.wd (octets_Of.p l0) 0), .int .u64 (Base.wd (octets_Of.p l0) 1), .int .u64 (Base.wd (octets_Of.p l0) 2), .int .u64 (Base.wd (octets_Of.p l0) 3)]) ∧ Below w.heap.size w w' := by
  have hlen : l0.length ≤ 9223372036854775807 := hr0.2.1
  have HL := Aside0.mk hl
  have HR := Aside0.mk hr0
  clear hl hr0 hc0
  go_enter Try.func25, Try.ntmps25
  go_wp2
  go_loopw [10] (fun i wr => ∃ (k : Nat) (a b c d : Int), k ≤ l0.length ∧ i = .int .i64 k ∧ Aside0 (a = Base.wd (octets_Of.p (l0.take k)) 0 ∧ b = Base.wd (octets_Of.p (l0.take k)) 1 ∧ c = Base.wd (octets_Of.p (l0.take k)) 2 ∧ d = Base.wd (octets_Of.p (l0.take k)) 3) ∧ Aside0 (octets_words.B4 wr w.heap.size 0 0 0 0) ∧ Aside0 (octets_words.B4 wr (w.heap.size + 1) a b c d) ∧ Aside0 (Below w.heap.size w wr)) (fun i _ => l0.length - (intOf i).toNat)
  case atStart =>
    refine ⟨0, 0, 0, 0, 0, by omega, by go_num, ⟨?_⟩, ⟨?_⟩, ⟨?_⟩, ⟨?_⟩⟩
    · have e : octets_Of.p (l0.take 0) = fun _ => false := by funext n; simp [octets_Of.p]
      rw [e]
      simp only [Base.wd_none, and_self]
    · exact blk_alloc (blk_new _ _) _
    · have := blk_new (w.alloc (Obj.cells #[Value.int .u64 0, Value.int .u64 0, Value.int .u64 0, Value.int .u64 0] 38)) (Obj.cells #[Value.int .u64 0, Value.int .u64 0, Value.int .u64 0, Value.int .u64 0] 38)
      simpa [octets_words.B4] using this
    · exact (((Below.refl _ _).alloc (Nat.le_refl _) _).alloc (by simp) _)
  case round =>
    obtain ⟨k, a, b, c, d, hk, rfl, he, hb, ha, hd⟩ := hrel
    have fa := fun i => octets_words.free ha.out i
    obtain ⟨a0, a1, a2, a3⟩ := octets_words.cells ha.out
    by_cases hlt : k < l0.length
    · obtain ⟨ad, rfl, hcell⟩ := Kd.at_int (Kd.C_below HR.out hd.out) (k : Int) (by omega) (by omega)
      have hmem : rd l0 k ∈ l0 := by
        have e : rd l0 k = l0[k] := by simp [rd, List.getD_eq_getElem?_getD, hlt]
        rw [e]; exact List.getElem_mem _
      obtain ⟨b0, b1⟩ := HL.out _ hmem
      have HS := Aside0.mk (octets_Of.step l0 k hlt b0)
      clear hmem
      obtain ⟨x, hx⟩ : ∃ x, rd l0 (k : Int) = x := ⟨_, rfl⟩
      rw [hx] at hcell b0 b1 HS
      have hcell' : wr.cell? (ad.add k) = some (.int .u8 x) := hcell
      clear hcell hx
      have q : x / 64 = 0 ∨ x / 64 = 1 ∨ x / 64 = 2 ∨ x / 64 = 3 := by omega
      rcases q with q | q | q | q
      · have f0 := fa 0
        have Q := Aside0.mk q
        have hd64 : Aside0 (x / 64 = 0) := ⟨by omega⟩
        clear q fa a1 a2 a3 
        go_wp2_with fail
        refine (octets_words.bit x (by omega) (by omega) _).mono ?_
        rintro e w' ⟨rfl, rfl⟩
        rw [hd64.out]
        go_wp2_with fail
        go_roundw
        case rel =>
          obtain ⟨e0, e1, e2, e3⟩ := he.out
          have q := Q.out
          refine ⟨k + 1, _, b, c, d, by omega, by go_num, ⟨?_⟩, ⟨blk_far hb.out (by show w.heap.size ≠ w.heap.size + 1; omega) _⟩, ⟨blk_put ha.out 0 _ rfl⟩, ⟨hd.out.setCell (by simp) _⟩⟩
          rw [← HS.out]
          refine ⟨by rw [e0]; exact octets_Of.add _ 0 _ b0 (by omega), by rw [e1]; exact Base.wd_other _ 1 _ (by omega), by rw [e2]; exact Base.wd_other _ 2 _ (by omega), by rw [e3]; exact Base.wd_other _ 3 _ (by omega)⟩
        case measure => simp [intOf]; omega
      · have f1 := fa 1
        have Q := Aside0.mk q
        have hd64 : Aside0 (x / 64 = 1) := ⟨by omega⟩
        clear q fa a0 a2 a3 
        go_wp2_with fail
        refine (octets_words.bit x (by omega) (by omega) _).mono ?_
        rintro e w' ⟨rfl, rfl⟩
        rw [hd64.out]
        go_wp2_with fail
        go_roundw
        case rel =>
          obtain ⟨e0, e1, e2, e3⟩ := he.out
          have q := Q.out
          refine ⟨k + 1, a, _, c, d, by omega, by go_num, ⟨?_⟩, ⟨blk_far hb.out (by show w.heap.size ≠ w.heap.size + 1; omega) _⟩, ⟨blk_put ha.out 1 _ rfl⟩, ⟨hd.out.setCell (by simp) _⟩⟩
          rw [← HS.out]
          refine ⟨by rw [e0]; exact Base.wd_other _ 0 _ (by omega), by rw [e1]; exact octets_Of.add _ 1 _ b0 (by omega), by rw [e2]; exact Base.wd_other _ 2 _ (by omega), by rw [e3]; exact Base.wd_other _ 3 _ (by omega)⟩
        case measure => simp [intOf]; omega
      · have f2 := fa 2
        have Q := Aside0.mk q
        have hd64 : Aside0 (x / 64 = 2) := ⟨by omega⟩
        clear q fa a0 a1 a3 
        go_wp2_with fail
        refine (octets_words.bit x (by omega) (by omega) _).mono ?_
        rintro e w' ⟨rfl, rfl⟩
        rw [hd64.out]
        go_wp2_with fail
        go_roundw
        case rel =>
          obtain ⟨e0, e1, e2, e3⟩ := he.out
          have q := Q.out
          refine ⟨k + 1, a, b, _, d, by omega, by go_num, ⟨?_⟩, ⟨blk_far hb.out (by show w.heap.size ≠ w.heap.size + 1; omega) _⟩, ⟨blk_put ha.out 2 _ rfl⟩, ⟨hd.out.setCell (by simp) _⟩⟩
          rw [← HS.out]
          refine ⟨by rw [e0]; exact Base.wd_other _ 0 _ (by omega), by rw [e1]; exact Base.wd_other _ 1 _ (by omega), by rw [e2]; exact octets_Of.add _ 2 _ b0 (by omega), by rw [e3]; exact Base.wd_other _ 3 _ (by omega)⟩
        case measure => simp [intOf]; omega
      · have f3 := fa 3
        have Q := Aside0.mk q
        have hd64 : Aside0 (x / 64 = 3) := ⟨by omega⟩
        clear q fa a0 a1 a2 
        go_wp2_with fail
        refine (octets_words.bit x (by omega) (by omega) _).mono ?_
        rintro e w' ⟨rfl, rfl⟩
        rw [hd64.out]
        go_wp2_with fail
        go_roundw
        case rel =>
          obtain ⟨e0, e1, e2, e3⟩ := he.out
          have q := Q.out
          refine ⟨k + 1, a, b, c, _, by omega, by go_num, ⟨?_⟩, ⟨blk_far hb.out (by show w.heap.size ≠ w.heap.size + 1; omega) _⟩, ⟨blk_put ha.out 3 _ rfl⟩, ⟨hd.out.setCell (by simp) _⟩⟩
          rw [← HS.out]
          refine ⟨by rw [e0]; exact Base.wd_other _ 0 _ (by omega), by rw [e1]; exact Base.wd_other _ 1 _ (by omega), by rw [e2]; exact Base.wd_other _ 2 _ (by omega), by rw [e3]; exact octets_Of.add _ 3 _ b0 (by omega)⟩
        case measure => simp [intOf]; omega
    · obtain rfl : k = l0.length := by omega
      have fc := fun i => octets_words.free hb.out i
      obtain ⟨c0, c1, c2, c3⟩ := octets_words.cells hb.out
      have f0 := fc 0
      have f1 := fc 1
      have f2 := fc 2
      have f3 := fc 3
      clear fa fc
      go_wp2
      obtain ⟨e0, e1, e2, e3⟩ := he.out
      have hz := Aside0.mk (show octets_words.B4 _ (w.heap.size) a b c d from blk_put (blk_put (blk_put (blk_put hb.out 0 (.int .u64 a) rfl) 1 (.int .u64 b) rfl) 2 (.int .u64 c) rfl) 3 (.int .u64 d) rfl)
      have hb4 := Aside0.mk ((((hd.out.setCell (p := ⟨w.heap.size, 0, none⟩) (by simp; try omega) (.int .u64 a)).setCell (p := ⟨w.heap.size, 1, none⟩) (by simp; try omega) (.int .u64 b)).setCell (p := ⟨w.heap.size, 2, none⟩) (by simp; try omega) (.int .u64 c)).setCell (p := ⟨w.heap.size, 3, none⟩) (by simp; try omega) (.int .u64 d))
      revert hz hb4
      generalize ((((wr.setCell ⟨w.heap.size, 0, none⟩ (.int .u64 a)).setCell ⟨w.heap.size, 1, none⟩ (.int .u64 b)).setCell ⟨w.heap.size, 2, none⟩ (.int .u64 c)).setCell ⟨w.heap.size, 3, none⟩ (.int .u64 d)) = W
      intro hz hb4
      obtain ⟨z0, z1, z2, z3⟩ := octets_words.cells hz.out
      refine bodyPost_ret (v := .agg #[.int .u64 a, .int .u64 b, .int .u64 c, .int .u64 d]) (by simp [results, Try.results25, go_sem, z0, z1, z2, z3]) rfl ⟨?_, hb4.out⟩
      rw [List.take_length] at e0 e1 e2 e3
      rw [e0, e1, e2, e3]
theorem octets_Of.calls (A0 : Option Addr) (c0 : Nat) (l0 : List Int) (r1 r2 r3 r4 : Int) (w : World) (hr0 : Kd.C (Kd.int .u8) w A0 l0.length l0) (hc0 : l0.length ≤ c0) (h : octets_Of.f l0 = some (r1, r2, r3, r4)) :
    Calls Try.prog 25 #[.slice A0 l0.length c0] w fun e w' => e = .returned (.agg #[.int .u64 r1, .int .u64 r2, .int .u64 r3, .int .u64 r4]) ∧ Below w.heap.size w w' := by
  unfold octets_Of.f at h
  by_cases hc : (l0.all fun x => decide (0 ≤ x) && decide (x ≤ 255)) = true
  · rw [if_pos hc] at h
    simp only [Option.some.injEq, Prod.mk.injEq] at h
    obtain ⟨rfl, rfl, rfl, rfl⟩ := h
    exact octets_Of.any A0 c0 l0 w hr0 hc0 (fun x hx => by have := List.all_eq_true.1 hc x hx; simpa using this)
  · rw [if_neg hc] at h; exact absurd h (by simp)
theorem octets_Of.callsn (A0 : Option Addr) (c0 : Nat) (l0 : List Int) (r1 r2 r3 r4 : Int) (w : World) {n : Nat} (hr0 : Kd.C (Kd.int .u8) w A0 n l0) (hc0 : n ≤ c0) (h : octets_Of.f l0 = some (r1, r2, r3, r4)) :
    Calls Try.prog 25 #[.slice A0 n c0] w fun e w' => e = .returned (.agg #[.int .u64 r1, .int .u64 r2, .int .u64 r3, .int .u64 r4]) ∧ Below w.heap.size w w' := by
  have e := hr0.1
  subst e
  exact octets_Of.calls A0 c0 l0 r1 r2 r3 r4 w hr0 hc0 h
/-- A literal's row, with its mark. -/
theorem lit8_C (W0 : World) (e : TypeId) (xs : List Int) (fz : Nat × Nat) (hs : xs.length ≤ 9223372036854775807 := by decide) : Kd.C (Kd.int .u8) (W0.alloc (.cells (xs.map (Value.int .u8)).toArray e fz)) (some ⟨W0.heap.size, 0, none⟩) xs.length xs := by
  refine Kd.C_of_reads (d := (0 : Int)) (h1 := fun _ => rfl) ⟨rfl, hs, fun _ => ⟨_, rfl, fun j hj => ?_⟩⟩
  have h1 : (W0.alloc (.cells (xs.map (Value.int .u8)).toArray e fz)).heap[W0.heap.size]? = some (.cells (xs.map (Value.int .u8)).toArray e fz) := blk_new _ _
  have h2 := cell_of_row _ W0.heap.size j _ _ _ h1
  have e2 : (⟨W0.heap.size, 0, none⟩ : Addr).add j = ⟨W0.heap.size, j, none⟩ := by
    unfold Addr.add
    by_cases hz : j = 0
    · subst hz; rfl
    · simp [hz]
  rw [e2, h2]
  simp [List.getD_eq_getElem?_getD, hj]


/-! ### pyurl_schemes: function 49 -/
def pyurl_schemes.f  : Option (Int × Int × Int × Int) := (pyurl_letters.f).bind fun bt116 => ((octets_Range.f 48 57).bind fun bt120 => ((octets_Or.f bt116.1 bt116.2.1 bt116.2.2.1 bt116.2.2.2 bt120.1 bt120.2.1 bt120.2.2.1 bt120.2.2.2).bind fun bt124 => ((octets_Of.f (([43, 45, 46] : List Int))).bind fun bt131 => ((octets_Or.f bt124.1 bt124.2.1 bt124.2.2.1 bt124.2.2.2 bt131.1 bt131.2.1 bt131.2.2.1 bt131.2.2.2).bind fun bt135 => (some (bt135.1, bt135.2.1, bt135.2.2.1, bt135.2.2.2))))))
set_option maxHeartbeats 8000000 in
set_option maxRecDepth 100000 in
theorem pyurl_schemes.calls  (r1 : Int) (r2 : Int) (r3 : Int) (r4 : Int) (w : World) (h : pyurl_schemes.f  = some (r1, r2, r3, r4)) :
    Calls Try.prog 49 #[] w fun e w' => e = .returned (.agg #[.int .u64 r1, .int .u64 r2, .int .u64 r3, .int .u64 r4]) ∧ Below w.heap.size w w' := by
  have hu38 := Try.underlying38
  have HB := Aside0.mk (Below.refl w.heap.size w)
  have H : ((pyurl_letters.f).bind fun bt116 => ((octets_Range.f 48 57).bind fun bt120 => ((octets_Or.f bt116.1 bt116.2.1 bt116.2.2.1 bt116.2.2.2 bt120.1 bt120.2.1 bt120.2.2.1 bt120.2.2.2).bind fun bt124 => ((octets_Of.f (([43, 45, 46] : List Int))).bind fun bt131 => ((octets_Or.f bt124.1 bt124.2.1 bt124.2.2.1 bt124.2.2.2 bt131.1 bt131.2.1 bt131.2.2.1 bt131.2.2.2).bind fun bt135 => (some (bt135.1, bt135.2.1, bt135.2.2.1, bt135.2.2.2))))))) = some (r1, r2, r3, r4) := h
  clear h
  replace H := Option.bind_eq_some_iff.mp H
  obtain ⟨⟨t116, t117, t118, t119⟩, A10, H⟩ := H
  replace H : ((octets_Range.f 48 57).bind fun bt120 => ((octets_Or.f t116 t117 t118 t119 bt120.1 bt120.2.1 bt120.2.2.1 bt120.2.2.2).bind fun bt124 => ((octets_Of.f (([43, 45, 46] : List Int))).bind fun bt131 => ((octets_Or.f bt124.1 bt124.2.1 bt124.2.2.1 bt124.2.2.2 bt131.1 bt131.2.1 bt131.2.2.1 bt131.2.2.2).bind fun bt135 => (some (bt135.1, bt135.2.1, bt135.2.2.1, bt135.2.2.2)))))) = some (r1, r2, r3, r4) := H
  have A1 := Aside0.mk A10
  clear A10
  replace H := Option.bind_eq_some_iff.mp H
  obtain ⟨⟨t120, t121, t122, t123⟩, A20, H⟩ := H
  replace H : ((octets_Or.f t116 t117 t118 t119 t120 t121 t122 t123).bind fun bt124 => ((octets_Of.f (([43, 45, 46] : List Int))).bind fun bt131 => ((octets_Or.f bt124.1 bt124.2.1 bt124.2.2.1 bt124.2.2.2 bt131.1 bt131.2.1 bt131.2.2.1 bt131.2.2.2).bind fun bt135 => (some (bt135.1, bt135.2.1, bt135.2.2.1, bt135.2.2.2))))) = some (r1, r2, r3, r4) := H
  have A2 := Aside0.mk A20
  clear A20
  replace H := Option.bind_eq_some_iff.mp H
  obtain ⟨⟨t124, t125, t126, t127⟩, A30, H⟩ := H
  replace H : ((octets_Of.f (([43, 45, 46] : List Int))).bind fun bt131 => ((octets_Or.f t124 t125 t126 t127 bt131.1 bt131.2.1 bt131.2.2.1 bt131.2.2.2).bind fun bt135 => (some (bt135.1, bt135.2.1, bt135.2.2.1, bt135.2.2.2)))) = some (r1, r2, r3, r4) := H
  have A3 := Aside0.mk A30
  clear A30
  obtain ⟨y128, hy128⟩ : ∃ y_ : List Int, y_ = (([43, 45, 46] : List Int)) := ⟨_, rfl⟩
  replace H : ((octets_Of.f y128).bind fun bt131 => ((octets_Or.f t124 t125 t126 t127 bt131.1 bt131.2.1 bt131.2.2.1 bt131.2.2.2).bind fun bt135 => (some (bt135.1, bt135.2.1, bt135.2.2.1, bt135.2.2.2)))) = some (r1, r2, r3, r4) := by first | (rw [hy128]; with_reducible exact H) | (have H2_ := (Option.bind_some _ _).symm.trans H; rw [hy128]; with_reducible exact H2_) | (have H2_ := (Option.bind_some _ _).symm.trans H; with_reducible exact H2_) | with_reducible exact H | (rw [hy128]; exact H) | exact H
  have Ny128 := Aside0.mk hy128
  clear hy128
  replace H := Option.bind_eq_some_iff.mp H
  obtain ⟨⟨t131, t132, t133, t134⟩, A40, H⟩ := H
  replace H : ((octets_Or.f t124 t125 t126 t127 t131 t132 t133 t134).bind fun bt135 => (some (bt135.1, bt135.2.1, bt135.2.2.1, bt135.2.2.2))) = some (r1, r2, r3, r4) := H
  have A4 := Aside0.mk A40
  clear A40
  replace H := Option.bind_eq_some_iff.mp H
  obtain ⟨⟨t135, t136, t137, t138⟩, A50, H⟩ := H
  replace H : (some (t135, t136, t137, t138)) = some (r1, r2, r3, r4) := H
  have A5 := Aside0.mk A50
  clear A50
  simp only [Option.some.injEq, Prod.mk.injEq] at H
  obtain ⟨rfl, rfl, rfl, rfl⟩ := H
  go_enter Try.func49, Try.ntmps49
  go_wp2_with (first | ((with_reducible refine gate_dst (N := 0) rfl ?_); refine box_event ?hg (N := 0) ?hd (cs := #[.int .u64 0, .int .u64 0, .int .u64 0, .int .u64 0]) (t := 38) ?hr ?_; (case hd => rfl); (case hg => rfl); (case hr => first | (go_simp; done) | (go_simp; rfl)); intro gb115 hg w6 hbox hb; have n0_ := Aside0.mk (below_step (by repeat (first | (with_reducible first | exact HB.out | apply below_alloc | apply pw_below_drewN | apply below_drew1) | exact HB.out)) hb); have n1_ := Aside0.mk (hbox); have n2_ := Aside0.mk ((by rw [hg]; exact (below_size (by repeat (first | (with_reducible first | exact HB.out | apply below_alloc | apply pw_below_drewN | apply below_drew1) | exact HB.out))) : w.heap.size ≤ gb115)); have n3_ := Aside0.mk ((by rw [hg]; exact (below_size (by repeat (first | (with_reducible first | exact HB.out | apply below_alloc | apply pw_below_drewN | apply below_drew1) | exact HB.out))) : w.heap.size ≤ gb115)); clear HB; have HB := n0_; have BK115 := n1_; have GW115 := n2_; have GE115 := n3_; clear n0_ n1_ n2_ n3_; clear hb hbox hg) | ((with_reducible refine gate_callee (f := 48) rfl ?_); refine goesL_ (some 1) rfl rfl Try.func48 (by kernel_rfl) rfl #[] rfl (by (try simp only [List.map_toArray, List.map_cons, List.map_nil]); first | done | rfl | (simp only [List.length_drop, List.length_take]; rfl)) ?_; (with_reducible refine (pyurl_letters.calls  t116 t117 t118 t119 _ A1.out).mono ?_); rintro e w7 ⟨rfl, hb⟩; refine ⟨_, rfl, ?_⟩; have n0_ := Aside0.mk (blk_below (g := gb115) (o := .cells #[.int .u64 0, .int .u64 0, .int .u64 0, .int .u64 0] 38 (0, 0)) (by (with_reducible repeat (first | refine blk_drewN ?_ _ | refine blk_drew ?_ | refine blk_alloc ?_ _)); exact BK115.out) hb); have n1_ := Aside0.mk (below_step (by repeat (first | (with_reducible first | exact HB.out | apply below_alloc | apply pw_below_drewN | apply below_drew1 | refine below_set ?_ GE115.out) | exact HB.out)) hb); clear BK115; clear HB; have BK115 := n0_; have HB := n1_; clear n0_ n1_; (try clear hb); (try clear hb2); (try clear hk); (try clear hi)) | ((with_reducible refine gate_callee (f := 24) rfl ?_); refine goesL_ (some 2) rfl rfl Try.func24 (by kernel_rfl) rfl #[.int .u8 48, .int .u8 57] rfl (by (try simp only [List.map_toArray, List.map_cons, List.map_nil]); first | done | rfl | (simp only [List.length_drop, List.length_take]; rfl)) ?_; (with_reducible refine (octets_Range.calls 48 57 t120 t121 t122 t123 _ A2.out).mono ?_); rintro e w8 ⟨rfl, hb⟩; refine ⟨_, rfl, ?_⟩; have n0_ := Aside0.mk (blk_below (g := gb115) (o := .cells #[.int .u64 0, .int .u64 0, .int .u64 0, .int .u64 0] 38 (0, 0)) (by (with_reducible repeat (first | refine blk_drewN ?_ _ | refine blk_drew ?_ | refine blk_alloc ?_ _)); exact BK115.out) hb); have n1_ := Aside0.mk (below_step (by repeat (first | (with_reducible first | exact HB.out | apply below_alloc | apply pw_below_drewN | apply below_drew1 | refine below_set ?_ GE115.out) | exact HB.out)) hb); clear BK115; clear HB; have BK115 := n0_; have HB := n1_; clear n0_ n1_; (try clear hb); (try clear hb2); (try clear hk); (try clear hi)) | ((with_reducible refine gate_callee (f := 23) rfl ?_); refine goesL_ (some 3) rfl rfl Try.func23 (by kernel_rfl) rfl #[.agg #[.int .u64 t116, .int .u64 t117, .int .u64 t118, .int .u64 t119], .agg #[.int .u64 t120, .int .u64 t121, .int .u64 t122, .int .u64 t123]] rfl (by (try simp only [List.map_toArray, List.map_cons, List.map_nil]); first | done | rfl | (simp only [List.length_drop, List.length_take]; rfl)) ?_; (with_reducible refine (octets_Or.calls t116 t117 t118 t119 t120 t121 t122 t123 t124 t125 t126 t127 _ A3.out).mono ?_); rintro e w9 ⟨rfl, hb⟩; refine ⟨_, rfl, ?_⟩; have n0_ := Aside0.mk (blk_below (g := gb115) (o := .cells #[.int .u64 0, .int .u64 0, .int .u64 0, .int .u64 0] 38 (0, 0)) (by (with_reducible repeat (first | refine blk_drewN ?_ _ | refine blk_drew ?_ | refine blk_alloc ?_ _)); exact BK115.out) hb); have n1_ := Aside0.mk (below_step (by repeat (first | (with_reducible first | exact HB.out | apply below_alloc | apply pw_below_drewN | apply below_drew1 | refine below_set ?_ GE115.out) | exact HB.out)) hb); clear BK115; clear HB; have BK115 := n0_; have HB := n1_; clear n0_ n1_; (try clear hb); (try clear hb2); (try clear hk); (try clear hi)) | ((with_reducible refine gate_dst (N := 4) rfl ?_); refine Kd.R_lit (Kd.int .u8) _ 5 ?hg (N := 4) ?hd (xs := ([43, 45, 46] : List Int)) (inner := [.int .u8 43, .int .u8 45, .int .u8 46]) (ok := fun _ => True) (okp := fun _ => True) ?hr ?hp (fun _ hk => hk) trivial (Below.refl _ _) (Nat.le_refl _) (by simp) ?_; (case hd => rfl); (case hg => rfl); (case hr => first | (go_simp; done) | (go_simp; rfl)); (case hp => exact (Reps.one (show Kd.M (Kd.int .u8) _ _ _ 43 [.int .u8 43] from rfl) (Reps.one (show Kd.M (Kd.int .u8) _ _ _ 45 [.int .u8 45] from rfl) (Reps.one (show Kd.M (Kd.int .u8) _ _ _ 46 [.int .u8 46] from rfl) (Reps.none _ _))))); intro v129 w10 ho11 hb hg_ hnew_; clear hg_ hnew_; (first | rw [← Ny128.out] at ho11 | (simp only [Int.reduceToNat] at ho11; rw [← Ny128.out] at ho11)); have n0_ := Aside0.mk (Kd.R_lower ho11 (below_size (by repeat (first | (with_reducible first | exact HB.out | apply below_alloc | apply pw_below_drewN | apply below_drew1 | refine below_set ?_ GE115.out) | exact HB.out)))); have n1_ := Aside0.mk (blk_below (g := gb115) (o := .cells #[.int .u64 0, .int .u64 0, .int .u64 0, .int .u64 0] 38 (0, 0)) (by (with_reducible repeat (first | refine blk_drewN ?_ _ | refine blk_drew ?_ | refine blk_alloc ?_ _)); exact BK115.out) hb); have n2_ := Aside0.mk (below_step (by repeat (first | (with_reducible first | exact HB.out | apply below_alloc | apply pw_below_drewN | apply below_drew1 | refine below_set ?_ GE115.out) | exact HB.out)) hb); clear BK115; clear HB; have HO130 := n0_; have BK115 := n1_; have HB := n2_; clear n0_ n1_ n2_; clear hb ho11; obtain ⟨Ao12, co12, eo12⟩ := Kd.R_slice HO130.out; subst eo12) | ((with_reducible refine gate_callee (f := 25) rfl ?_); refine goesL_ (some 5) rfl rfl Try.func25 (by kernel_rfl) rfl #[.slice Ao12 y128.length co12] rfl (by (try simp only [List.map_toArray, List.map_cons, List.map_nil]); first | done | rfl | (simp only [List.length_drop, List.length_take]; rfl)) ?_; (with_reducible refine (octets_Of.calls _ _ y128 t131 t132 t133 t134 _ ?side1 ?side2 A4.out).mono ?_); (case side1 => repeat (first | exact (Kd.R_reads' HO130.out).2.2 | (with_reducible refine Kd.C_alloc ?_ _) | (with_reducible refine Kd.C_drewN ?_ _) | (with_reducible refine Kd.C_drew ?_))); (case side2 => exact (Kd.R_reads' HO130.out).2.1); rintro e w13 ⟨rfl, hb⟩; refine ⟨_, rfl, ?_⟩; have n0_ := Aside0.mk (Kd.R_below (by (with_reducible repeat (first | apply Kd.R_alloc | apply Kd.R_drewN | apply Kd.R_drew)); exact HO130.out) hb); have n1_ := Aside0.mk (blk_below (g := gb115) (o := .cells #[.int .u64 0, .int .u64 0, .int .u64 0, .int .u64 0] 38 (0, 0)) (by (with_reducible repeat (first | refine blk_drewN ?_ _ | refine blk_drew ?_ | refine blk_alloc ?_ _)); exact BK115.out) hb); have n2_ := Aside0.mk (below_step (by repeat (first | (with_reducible first | exact HB.out | apply below_alloc | apply pw_below_drewN | apply below_drew1 | refine below_set ?_ GE115.out) | exact HB.out)) hb); clear HO130; clear BK115; clear HB; have HO130 := n0_; have BK115 := n1_; have HB := n2_; clear n0_ n1_ n2_; (try clear hb); (try clear hb2); (try clear hk); (try clear hi)) | ((with_reducible refine gate_callee (f := 23) rfl ?_); refine goesL_ (some 6) rfl rfl Try.func23 (by kernel_rfl) rfl #[.agg #[.int .u64 t124, .int .u64 t125, .int .u64 t126, .int .u64 t127], .agg #[.int .u64 t131, .int .u64 t132, .int .u64 t133, .int .u64 t134]] rfl (by (try simp only [List.map_toArray, List.map_cons, List.map_nil]); first | done | rfl | (simp only [List.length_drop, List.length_take]; rfl)) ?_; (with_reducible refine (octets_Or.calls t124 t125 t126 t127 t131 t132 t133 t134 t135 t136 t137 t138 _ A5.out).mono ?_); rintro e w14 ⟨rfl, hb⟩; refine ⟨_, rfl, ?_⟩; have n0_ := Aside0.mk (Kd.R_below (by (with_reducible repeat (first | apply Kd.R_alloc | apply Kd.R_drewN | apply Kd.R_drew)); exact HO130.out) hb); have n1_ := Aside0.mk (blk_below (g := gb115) (o := .cells #[.int .u64 0, .int .u64 0, .int .u64 0, .int .u64 0] 38 (0, 0)) (by (with_reducible repeat (first | refine blk_drewN ?_ _ | refine blk_drew ?_ | refine blk_alloc ?_ _)); exact BK115.out) hb); have n2_ := Aside0.mk (below_step (by repeat (first | (with_reducible first | exact HB.out | apply below_alloc | apply pw_below_drewN | apply below_drew1 | refine below_set ?_ GE115.out) | exact HB.out)) hb); clear HO130; clear BK115; clear HB; have HO130 := n0_; have BK115 := n1_; have HB := n2_; clear n0_ n1_ n2_; (try clear hb); (try clear hb2); (try clear hk); (try clear hi); have hcz15_0 : w14.cell? ⟨gb115, 0, none⟩ = some (.int .u64 0) := (blk_cell BK115.out 0).trans rfl; have hcz15_1 : w14.cell? ⟨gb115, 1, none⟩ = some (.int .u64 0) := (blk_cell BK115.out 1).trans rfl; have hcz15_2 : w14.cell? ⟨gb115, 2, none⟩ = some (.int .u64 0) := (blk_cell BK115.out 2).trans rfl; have hcz15_3 : w14.cell? ⟨gb115, 3, none⟩ = some (.int .u64 0) := (blk_cell BK115.out 3).trans rfl; have hfz15_0 := blk_frozen BK115.out 0; have hfz15_1 := blk_frozen BK115.out 1; have hfz15_2 := blk_frozen BK115.out 2; have hfz15_3 := blk_frozen BK115.out 3))
  refine bodyPost_ret (results_cell_row rfl _ _ gb115 38 #[.int .u64 t135, .int .u64 t136, .int .u64 t137, .int .u64 t138] (0, 0) _ rfl (by (with_reducible repeat (first | refine blk_drewN ?_ _ | refine blk_drew ?_ | refine blk_alloc ?_ _)); refine blk_put (cs := #[.int .u64 t135, .int .u64 t136, .int .u64 t137, .int .u64 0]) ?_ 3 _ rfl; (with_reducible repeat (first | refine blk_drewN ?_ _ | refine blk_drew ?_ | refine blk_alloc ?_ _)); refine blk_put (cs := #[.int .u64 t135, .int .u64 t136, .int .u64 0, .int .u64 0]) ?_ 2 _ rfl; (with_reducible repeat (first | refine blk_drewN ?_ _ | refine blk_drew ?_ | refine blk_alloc ?_ _)); refine blk_put (cs := #[.int .u64 t135, .int .u64 0, .int .u64 0, .int .u64 0]) ?_ 1 _ rfl; (with_reducible repeat (first | refine blk_drewN ?_ _ | refine blk_drew ?_ | refine blk_alloc ?_ _)); refine blk_put (cs := #[.int .u64 0, .int .u64 0, .int .u64 0, .int .u64 0]) ?_ 0 _ rfl; (with_reducible repeat (first | refine blk_drewN ?_ _ | refine blk_drew ?_ | refine blk_alloc ?_ _)); exact BK115.out) Try.underlying38 rfl (by kernel_rfl)) rfl ?_
  exact ⟨by first | rfl | (simp [errW_none, errW_some] <;> rfl) | (simp [*, errW_none, errW_some] <;> rfl), by repeat (first | (with_reducible first | exact HB.out | apply below_alloc | apply pw_below_drewN | apply below_drew1 | refine below_set ?_ GE115.out) | exact HB.out)⟩

end Go.Proofs.Ytbjfcnhaedhbaaa.ZA

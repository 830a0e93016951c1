/- My own print (tools/mp.py). -/
import Derived.Test.YtiihgddpejmehaaZA0
import Derived.Test.YtiihgddpejmehaaZA2
import Derived.Test.YtiihgddpejmehaaZA4
import Derived.Test.YtiihgddpejmehaaZA5
import Derived.Test.YtiihgddpejmehaaZA6
namespace Go.Proofs.Ytiihgddpejmehaa.ZA
open Go.RowKit Go.Proofs.YtiihgddpejmehaaW.PrintWords Go.Proofs.YtiihgddpejmehaaW.PrintLast Go.Proofs.YtiihgddpejmehaaW.PrintMore
attribute [local go_sem] max2_int min2_int max_two min_two max_three min_three max_four min_four   -- for this text's walks alone
set_option linter.unusedVariables false
set_option linter.unusedSimpArgs false

-- NOT PRINTED: function 54 (bytealg_CountString)

/-! ### strings_Count: function 37 -/
/-- At a text of one byte alone. -/
def strings_Count.f (a0 a1 : ByteArray) : Option Int :=
 match a1.data.toList with
 | [c] => some (Lib.countByte a0.data.toList c)
 | _ => none
set_option maxHeartbeats 1000000 in
set_option maxRecDepth 100000 in
theorem strings_Count.one (s : ByteArray) (c : UInt8) (w : World) :
  Calls Try.prog 37 #[.string s, .string ⟨#[c]⟩] w fun e w' => e = .returned (.int .i64 (Lib.countByte s.data.toList c)) ∧ Below w.heap.size w w' := by
 go_enter Try.func37, Try.ntmps37
 go_wp2
 rw [run_callFunc_extern Try.func54 (by kernel_rfl) (by kernel_rfl) (by kernel_rfl) (e := Extern.BytealgCount.count) (by kernel_rfl), Lib.run_countString]
 simp only [Result.andThen]
 rw [Oper.upon_value]
 go_wp2
 go_ret
 exact ⟨rfl, Below.refl _ _⟩
theorem strings_Count.calls (a0 a1 : ByteArray) (r : Int) (w : World) (h : strings_Count.f a0 a1 = some r) :
  Calls Try.prog 37 #[.string a0, .string a1] w fun e w' => e = .returned (.int .i64 r) ∧ Below w.heap.size w w' := by
 obtain ⟨⟨l⟩⟩ := a1
 unfold strings_Count.f at h
 match l, h with
 | [c], h =>
  have h := Option.some.inj h
  subst h
  exact strings_Count.one a0 c w
 | [], h => exact absurd h (by simp)
 | _ :: _ :: _, h => exact absurd h (by simp)

/-! ### rfc_host: function 22 -/
mutual
def rfc_host.j0 : Nat → ByteArray → ByteArray → Option (ByteArray × Bool)
 | 0, _, _ => none
 | k + 1, x4, x5 => if x5.size + 1 ≤ 9223372036854775807 then ((strings_IndexByte.f (x5 ++ (⟨#[58]⟩ : ByteArray)) 58).bind fun t224 => ((strings_HasPrefix.f x5 (⟨#[91]⟩ : ByteArray)).bind fun t225 => (if t225 = true then ((strings_IndexByte.f x5 93).bind fun t226 => (if (wrap64 (t226 + 1)) = 0 then (some ((⟨#[]⟩ : ByteArray), false)) else (if 1 ≤ (wrap64 ((wrap64 (t226 + 1)) - 1)) then (if (wrap64 ((wrap64 (t226 + 1)) - 1)) ≤ (x5.size : Int) then ((rfc_literal.f k (x5.extract 1 ((wrap64 ((wrap64 (t226 + 1)) - 1)) : Int).toNat)).bind fun t227 => (if t227 = true then (rfc_host.j1 k x4 x5 (wrap64 (t226 + 1))) else (some ((⟨#[]⟩ : ByteArray), false)))) else (none)) else (none)))) else (if 0 ≤ t224 then (if t224 ≤ (x5.size : Int) then ((rfc_named.f k (x5.extract 0 (t224 : Int).toNat) (⟨#[]⟩ : ByteArray)).bind fun t228 => (if t228 = true then (rfc_host.j1 k x4 x5 t224) else (some ((⟨#[]⟩ : ByteArray), false)))) else (none)) else (none))))) else (none)
def rfc_host.j1 : Nat → ByteArray → ByteArray → Int → Option (ByteArray × Bool)
 | 0, _, _, _ => none
 | k + 1, x4, x5, x7 => if 0 ≤ x7 then (if x7 ≤ (x5.size : Int) then (if (x5.extract (x7 : Int).toNat x5.size).toList = ([] : List UInt8) then ((rfc_digits.f).bind fun bt229 => ((rfc_only.f (x5.extract (x7 : Int).toNat x5.size) bt229.1 bt229.2.1 bt229.2.2.1 bt229.2.2.2 (⟨#[58]⟩ : ByteArray)).bind fun t233 => (if t233 = true then ((strings_Count.f (x5.extract (x7 : Int).toNat x5.size) (⟨#[58]⟩ : ByteArray)).bind fun t234 => (if t234 > 1 then (some ((⟨#[]⟩ : ByteArray), false)) else ((rfc_named.f k x4 (⟨#[58]⟩ : ByteArray)).bind fun t235 => (some (x5.extract 0 (x7 : Int).toNat, t235))))) else (some ((⟨#[]⟩ : ByteArray), false))))) else (if 0 < ((x5.extract (x7 : Int).toNat x5.size).size : Int) then (if (bt (x5.extract (x7 : Int).toNat x5.size) 0) = 58 then ((rfc_digits.f).bind fun bt236 => ((rfc_only.f (x5.extract (x7 : Int).toNat x5.size) bt236.1 bt236.2.1 bt236.2.2.1 bt236.2.2.2 (⟨#[58]⟩ : ByteArray)).bind fun t240 => (if t240 = true then ((strings_Count.f (x5.extract (x7 : Int).toNat x5.size) (⟨#[58]⟩ : ByteArray)).bind fun t241 => (if t241 > 1 then (some ((⟨#[]⟩ : ByteArray), false)) else ((rfc_named.f k x4 (⟨#[58]⟩ : ByteArray)).bind fun t242 => (some (x5.extract 0 (x7 : Int).toNat, t242))))) else (some ((⟨#[]⟩ : ByteArray), false))))) else (some ((⟨#[]⟩ : ByteArray), false))) else (none))) else (none)) else (none)
end
def rfc_host.f (k : Nat) (a0 : ByteArray) : Option (ByteArray × Bool) := (strings_Cut.f a0 (⟨#[64]⟩ : ByteArray)).bind fun bt221 => (if bt221.2.2 = true then (rfc_host.j0 k bt221.1 bt221.2.1) else (rfc_host.j0 k (⟨#[]⟩ : ByteArray) a0))
theorem rfc_host.mono_l : ∀ k, (∀ y0 y1, LeO (rfc_host.j0 k y0 y1) (rfc_host.j0 (k + 1) y0 y1)) ∧ (∀ y0 y1 y2, LeO (rfc_host.j1 k y0 y1 y2) (rfc_host.j1 (k + 1) y0 y1 y2))
 | 0 => ⟨fun _ _ r h => by simp [rfc_host.j0] at h, fun _ _ _ r h => by simp [rfc_host.j1] at h⟩
 | k + 1 => by
  obtain ⟨ih0, ih1⟩ := rfc_host.mono_l k
  refine ⟨?_, ?_⟩
  ·intro y0 y1
   unfold rfc_host.j0
   repeat' first
   | (with_reducible exact ih0 _ _)
   | (with_reducible exact ih1 _ _ _)
   | (with_reducible exact rfc_literal.mono _ _)
   | (with_reducible exact rfc_named.mono _ _ _)
   | (with_reducible exact LeO.refl _)
   | (with_reducible exact LeO.none _)
   | (with_reducible refine LeO.ite ?_ ?_)
   | (with_reducible refine LeO.bind ?_ (fun _ => ?_))
   | exact ih0 _ _
   | exact ih1 _ _ _
   | exact rfc_literal.mono _ _
   | exact rfc_named.mono _ _ _
   | exact LeO.none _
   | refine LeO.ite ?_ ?_
   | refine LeO.bind ?_ (fun _ => ?_)
  ·intro y0 y1 y2
   unfold rfc_host.j1
   repeat' first
   | (with_reducible exact ih0 _ _)
   | (with_reducible exact ih1 _ _ _)
   | (with_reducible exact rfc_literal.mono _ _)
   | (with_reducible exact rfc_named.mono _ _ _)
   | (with_reducible exact LeO.refl _)
   | (with_reducible exact LeO.none _)
   | (with_reducible refine LeO.ite ?_ ?_)
   | (with_reducible refine LeO.bind ?_ (fun _ => ?_))
   | exact ih0 _ _
   | exact ih1 _ _ _
   | exact rfc_literal.mono _ _
   | exact rfc_named.mono _ _ _
   | exact LeO.none _
   | refine LeO.ite ?_ ?_
   | refine LeO.bind ?_ (fun _ => ?_)
theorem rfc_host.mono : ∀ a0 k, LeO (rfc_host.f k a0) (rfc_host.f (k + 1) a0) := by
 intro a0 k
 obtain ⟨ih0, ih1⟩ := rfc_host.mono_l k
 unfold rfc_host.f
 repeat' first
   | (with_reducible exact ih0 _ _)
   | (with_reducible exact ih1 _ _ _)
   | (with_reducible exact rfc_literal.mono _ _)
   | (with_reducible exact rfc_named.mono _ _ _)
   | (with_reducible exact LeO.refl _)
   | (with_reducible exact LeO.none _)
   | (with_reducible refine LeO.ite ?_ ?_)
   | (with_reducible refine LeO.bind ?_ (fun _ => ?_))
   | exact ih0 _ _
   | exact ih1 _ _ _
   | exact rfc_literal.mono _ _
   | exact rfc_named.mono _ _ _
   | exact LeO.none _
   | refine LeO.ite ?_ ?_
   | refine LeO.bind ?_ (fun _ => ?_)
set_option maxHeartbeats 8000000 in
set_option maxRecDepth 100000 in
theorem rfc_host.calls (k : Nat) (a0 : ByteArray) (r1 : ByteArray) (r2 : Bool) (w : World) (h : rfc_host.f k a0 = some (r1, r2)) :
  Calls Try.prog 22 #[.string a0] w fun e w' => e = .returned (.tuple #[.string r1, .bool r2]) ∧ Below w.heap.size w w' := by
 have HB := Aside0.mk (Below.refl w.heap.size w)
 have H : ((strings_Cut.f a0 (⟨#[64]⟩ : ByteArray)).bind fun bt221 => (if bt221.2.2 = true then (rfc_host.j0 k bt221.1 bt221.2.1) else (rfc_host.j0 k (⟨#[]⟩ : ByteArray) a0))) = some (r1, r2) := h
 clear h
 replace H := Option.bind_eq_some_iff.mp H
 obtain ⟨⟨t221, t222, t223⟩, A20, H⟩ := H
 replace H : (if t223 = true then (rfc_host.j0 k t221 t222) else (rfc_host.j0 k (⟨#[]⟩ : ByteArray) a0)) = some (r1, r2) := H
 have A2 := Aside0.mk A20
 clear A20
 have HC3 := Aside0.mk H
 clear H
 go_enter Try.func22, Try.ntmps22
 go_upto_if 16 with (first | ((with_reducible refine gate_callee (f := 28) rfl ?_); refine goesL_ (some 11) rfl rfl Try.func28 (by kernel_rfl) rfl #[.string a0, .string (⟨#[64]⟩ : ByteArray)] rfl (by (try simp only [List.map_toArray, List.map_cons, List.map_nil]); first | done | rfl | (simp only [List.length_drop, List.length_take]; rfl)) ?_; (with_reducible refine (strings_Cut.calls a0 (⟨#[64]⟩ : ByteArray) t221 t222 t223 _ A2.out).mono ?_); rintro e w4 ⟨rfl, hb⟩; refine ⟨_, rfl, ?_⟩; have n0_ := Aside0.mk (below_step (by repeat (first | (with_reducible first | exact HB.out | apply below_alloc | apply pw_below_drewN | apply below_drew1) | exact HB.out)) hb); clear HB; have HB := n0_; clear n0_; (try clear hb); (try clear hb2); (try clear hk); (try clear hi)))
 (try simp only [Act.put, List.setIfInBounds_toArray, List.set_cons_zero, List.set_cons_succ])
 go_cut [4, 5] (fun v4 v5 wc => ∃ (kq : Nat) (x4_2 : ByteArray) (x5_2 : ByteArray), v4 = .string x4_2 ∧ v5 = .string x5_2 ∧ Aside0 (rfc_host.j0 kq x4_2 x5_2 = some (r1, r2)) ∧ Aside0 (kq ≤ k) ∧ Aside0 (Below w.heap.size w wc))
 case first =>
  have H := HC3.out
  clear HC3
  by_cases c5 : t223 = true
  ·subst c5
   have H1 : (rfc_host.j0 k t221 t222) = some (r1, r2) := by rw [if_pos rfl] at H; exact H
   clear H
   have H := H1
   clear H1
   have H' := Aside0.mk H
   clear H
   go_wp2
   go_meet
   case rel => exact ⟨_, (t221), (t222), (by first | rfl | (simp; done) | (simp [*]; done)), (by first | rfl | (simp; done) | (simp [*]; done)), H', ⟨by first | omega | exact Nat.le_refl _⟩, ⟨by repeat (first | (with_reducible first | exact HB.out | apply below_alloc | apply pw_below_drewN | apply below_drew1) | exact HB.out)⟩⟩
  ·replace c5 := Bool.eq_false_iff.mpr c5
   subst c5
   have H1 : (rfc_host.j0 k (⟨#[]⟩ : ByteArray) a0) = some (r1, r2) := by rw [if_neg (show ¬ (false = true) by decide)] at H; exact H
   clear H
   have H := H1
   clear H1
   have H' := Aside0.mk H
   clear H
   go_wp2
   go_meet
   case rel => exact ⟨_, ((⟨#[]⟩ : ByteArray)), (a0), (by first | rfl | (simp; done) | (simp [*]; done)), (by first | rfl | (simp; done) | (simp [*]; done)), H', ⟨by first | omega | exact Nat.le_refl _⟩, ⟨by repeat (first | (with_reducible first | exact HB.out | apply below_alloc | apply pw_below_drewN | apply below_drew1) | exact HB.out)⟩⟩
 case rest =>
  clear HC3
  try clear c2
  try clear p2
  try clear c5
  obtain ⟨kq, x4_2, x5_2, rfl, rfl, HA, HJ2, HB⟩ := hcut
  cases kq with
  | zero => exact absurd HA.out (by simp [rfc_host.j0])
  | succ kj2 =>
   have H := HA.out
   clear HA
   simp only [rfc_host.j0] at H
   by_cases c6 : x5_2.size + 1 ≤ 9223372036854775807
   ·rw [if_pos c6] at H
    have c6b0 := eq_true c6
    have c6b1 : decide (x5_2.size + 1 ≤ 9223372036854775807) = true := decide_eq_true c6
    try have c6b2 : (9223372036854775807 < x5_2.size + 1) = False := eq_false (Nat.not_lt.2 c6)
    obtain ⟨ji7, hji7⟩ : ∃ j_ : ByteArray, (x5_2 ++ (⟨#[58]⟩ : ByteArray)) = j_ := ⟨_, rfl⟩
    replace H : ((strings_IndexByte.f (ji7) 58).bind fun t224 => ((strings_HasPrefix.f x5_2 (⟨#[91]⟩ : ByteArray)).bind fun t225 => (if t225 = true then ((strings_IndexByte.f x5_2 93).bind fun t226 => (if (wrap64 (t226 + 1)) = 0 then (some ((⟨#[]⟩ : ByteArray), false)) else (if 1 ≤ (wrap64 ((wrap64 (t226 + 1)) - 1)) then (if (wrap64 ((wrap64 (t226 + 1)) - 1)) ≤ (x5_2.size : Int) then ((rfc_literal.f kj2 (x5_2.extract 1 ((wrap64 ((wrap64 (t226 + 1)) - 1)) : Int).toNat)).bind fun t227 => (if t227 = true then (rfc_host.j1 kj2 x4_2 x5_2 (wrap64 (t226 + 1))) else (some ((⟨#[]⟩ : ByteArray), false)))) else (none)) else (none)))) else (if 0 ≤ t224 then (if t224 ≤ (x5_2.size : Int) then ((rfc_named.f kj2 (x5_2.extract 0 (t224 : Int).toNat) (⟨#[]⟩ : ByteArray)).bind fun t228 => (if t228 = true then (rfc_host.j1 kj2 x4_2 x5_2 t224) else (some ((⟨#[]⟩ : ByteArray), false)))) else (none)) else (none))))) = some (r1, r2) := by first | (rw [hji7] at H; exact H) | (simp only [hji7] at H ⊢; exact H) | exact H
    replace H := Option.bind_eq_some_iff.mp H
    obtain ⟨t224, A80, H⟩ := H
    replace H : ((strings_HasPrefix.f x5_2 (⟨#[91]⟩ : ByteArray)).bind fun t225 => (if t225 = true then ((strings_IndexByte.f x5_2 93).bind fun t226 => (if (wrap64 (t226 + 1)) = 0 then (some ((⟨#[]⟩ : ByteArray), false)) else (if 1 ≤ (wrap64 ((wrap64 (t226 + 1)) - 1)) then (if (wrap64 ((wrap64 (t226 + 1)) - 1)) ≤ (x5_2.size : Int) then ((rfc_literal.f kj2 (x5_2.extract 1 ((wrap64 ((wrap64 (t226 + 1)) - 1)) : Int).toNat)).bind fun t227 => (if t227 = true then (rfc_host.j1 kj2 x4_2 x5_2 (wrap64 (t226 + 1))) else (some ((⟨#[]⟩ : ByteArray), false)))) else (none)) else (none)))) else (if 0 ≤ t224 then (if t224 ≤ (x5_2.size : Int) then ((rfc_named.f kj2 (x5_2.extract 0 (t224 : Int).toNat) (⟨#[]⟩ : ByteArray)).bind fun t228 => (if t228 = true then (rfc_host.j1 kj2 x4_2 x5_2 t224) else (some ((⟨#[]⟩ : ByteArray), false)))) else (none)) else (none)))) = some (r1, r2) := H
    have A8 := Aside0.mk A80
    clear A80
    replace H := Option.bind_eq_some_iff.mp H
    obtain ⟨t225, A90, H⟩ := H
    replace H : (if t225 = true then ((strings_IndexByte.f x5_2 93).bind fun t226 => (if (wrap64 (t226 + 1)) = 0 then (some ((⟨#[]⟩ : ByteArray), false)) else (if 1 ≤ (wrap64 ((wrap64 (t226 + 1)) - 1)) then (if (wrap64 ((wrap64 (t226 + 1)) - 1)) ≤ (x5_2.size : Int) then ((rfc_literal.f kj2 (x5_2.extract 1 ((wrap64 ((wrap64 (t226 + 1)) - 1)) : Int).toNat)).bind fun t227 => (if t227 = true then (rfc_host.j1 kj2 x4_2 x5_2 (wrap64 (t226 + 1))) else (some ((⟨#[]⟩ : ByteArray), false)))) else (none)) else (none)))) else (if 0 ≤ t224 then (if t224 ≤ (x5_2.size : Int) then ((rfc_named.f kj2 (x5_2.extract 0 (t224 : Int).toNat) (⟨#[]⟩ : ByteArray)).bind fun t228 => (if t228 = true then (rfc_host.j1 kj2 x4_2 x5_2 t224) else (some ((⟨#[]⟩ : ByteArray), false)))) else (none)) else (none))) = some (r1, r2) := H
    have A9 := Aside0.mk A90
    clear A90
    have HC10 := Aside0.mk H
    clear H
    go_upto_if 22 with (first | ((with_reducible refine gate_callee (f := 35) rfl ?_); refine goesL_ (some 20) rfl rfl Try.func35 (by kernel_rfl) rfl #[.string ji7, .int .u8 58] rfl (by (try simp only [List.map_toArray, List.map_cons, List.map_nil]); first | done | (simp only [hji7]; rfl) | rfl | (simp only [List.length_drop, List.length_take]; rfl)) ?_; (with_reducible refine (strings_IndexByte.calls ji7 58 t224 _ A8.out).mono ?_); rintro e w11 ⟨rfl, hb⟩; refine ⟨_, rfl, ?_⟩; have n0_ := Aside0.mk (below_step (by repeat (first | (with_reducible first | exact HB.out | apply below_alloc | apply pw_below_drewN | apply below_drew1) | exact HB.out)) hb); clear HB; have HB := n0_; clear n0_; (try clear hb); (try clear hb2); (try clear hk); (try clear hi)) | ((with_reducible refine gate_callee (f := 26) rfl ?_); refine goesL_ (some 22) rfl rfl Try.func26 (by kernel_rfl) rfl #[.string x5_2, .string (⟨#[91]⟩ : ByteArray)] rfl (by (try simp only [List.map_toArray, List.map_cons, List.map_nil]); first | done | rfl | (simp only [List.length_drop, List.length_take]; rfl)) ?_; (with_reducible refine (strings_HasPrefix.calls x5_2 (⟨#[91]⟩ : ByteArray) t225 _ A9.out).mono ?_); rintro e w' ⟨rfl, ⟨nd, rfl⟩⟩; refine ⟨_, rfl, ?_⟩))
    (try simp only [Act.put, List.setIfInBounds_toArray, List.set_cons_zero, List.set_cons_succ])
    go_cut [7] (fun v7 wc => ∃ (kq : Nat) (x7_9 : Int), v7 = .int .i64 x7_9 ∧ Aside0 (rfc_host.j1 kq x4_2 x5_2 x7_9 = some (r1, r2)) ∧ Aside0 (kq ≤ kj2) ∧ Aside0 (Below w.heap.size w wc))
    case first =>
     have H := HC10.out
     clear HC10
     by_cases c12 : t225 = true
     ·subst c12
      have H1 : ((strings_IndexByte.f x5_2 93).bind fun t226 => (if (wrap64 (t226 + 1)) = 0 then (some ((⟨#[]⟩ : ByteArray), false)) else (if 1 ≤ (wrap64 ((wrap64 (t226 + 1)) - 1)) then (if (wrap64 ((wrap64 (t226 + 1)) - 1)) ≤ (x5_2.size : Int) then ((rfc_literal.f kj2 (x5_2.extract 1 ((wrap64 ((wrap64 (t226 + 1)) - 1)) : Int).toNat)).bind fun t227 => (if t227 = true then (rfc_host.j1 kj2 x4_2 x5_2 (wrap64 (t226 + 1))) else (some ((⟨#[]⟩ : ByteArray), false)))) else (none)) else (none)))) = some (r1, r2) := by rw [if_pos rfl] at H; exact H
      clear H
      have H := H1
      clear H1
      replace H := Option.bind_eq_some_iff.mp H
      obtain ⟨t226, A130, H⟩ := H
      replace H : (if (wrap64 (t226 + 1)) = 0 then (some ((⟨#[]⟩ : ByteArray), false)) else (if 1 ≤ (wrap64 ((wrap64 (t226 + 1)) - 1)) then (if (wrap64 ((wrap64 (t226 + 1)) - 1)) ≤ (x5_2.size : Int) then ((rfc_literal.f kj2 (x5_2.extract 1 ((wrap64 ((wrap64 (t226 + 1)) - 1)) : Int).toNat)).bind fun t227 => (if t227 = true then (rfc_host.j1 kj2 x4_2 x5_2 (wrap64 (t226 + 1))) else (some ((⟨#[]⟩ : ByteArray), false)))) else (none)) else (none))) = some (r1, r2) := H
      have A13 := Aside0.mk A130
      clear A130
      by_cases c14 : (wrap64 (t226 + 1)) = 0
      ·rw [if_pos c14] at H
       have c14b0 : ((wrap64 (t226 + 1)) == 0) = true := beq_iff_eq.mpr c14
       have c14b1 : ((wrap64 (t226 + 1)) != 0) = false := bne_eq_false_iff_eq.mpr c14
       clear c14
       (first | rw [c14b0] | (simp only [i64_w, i32_w]; rw [c14b0]) | skip)
       simp only [Option.some.injEq, Prod.mk.injEq] at H
       obtain ⟨rfl, rfl⟩ := H
       go_wp2_with (first | ((with_reducible refine gate_callee (f := 35) rfl ?_); refine goesL_ (some 24) rfl rfl Try.func35 (by kernel_rfl) rfl #[.string x5_2, .int .u8 93] rfl (by (try simp only [List.map_toArray, List.map_cons, List.map_nil]); first | done | rfl | (simp only [List.length_drop, List.length_take]; rfl)) ?_; (with_reducible refine (strings_IndexByte.calls x5_2 93 t226 _ A13.out).mono ?_); rintro e w15 ⟨rfl, hb⟩; refine ⟨_, rfl, ?_⟩; have n0_ := Aside0.mk (below_step (by repeat (first | (with_reducible first | exact HB.out | apply below_alloc | apply pw_below_drewN | apply below_drew1) | exact HB.out)) hb); clear HB; have HB := n0_; clear n0_; (try clear hb); (try clear hb2); (try clear hk); (try clear hi)))
       go_ret2
       exact ⟨by first | rfl | (simp [errW_none, errW_some] <;> rfl) | (simp only [← hji7]; first | rfl | (simp [errW_none, errW_some] <;> rfl)) | (simp [*, errW_none, errW_some] <;> rfl), by repeat (first | (with_reducible first | exact HB.out | apply below_alloc | apply pw_below_drewN | apply below_drew1) | exact HB.out)⟩
      ·rw [if_neg c14] at H
       have c14b0 : ((wrap64 (t226 + 1)) == 0) = false := beq_eq_false_iff_ne.mpr c14
       have c14b1 : ((wrap64 (t226 + 1)) != 0) = true := bne_iff_ne.mpr c14
       (first | rw [c14b0] | (simp only [i64_w, i32_w]; rw [c14b0]) | skip)
       by_cases c16 : 1 ≤ (wrap64 ((wrap64 (t226 + 1)) - 1))
       ·rw [if_pos c16] at H
        have c16b0 := eq_true c16
        have c16b1 : decide (1 ≤ (wrap64 ((wrap64 (t226 + 1)) - 1))) = true := decide_eq_true c16
        by_cases c17 : (wrap64 ((wrap64 (t226 + 1)) - 1)) ≤ (x5_2.size : Int)
        ·rw [if_pos c17] at H
         have c17b0 := eq_true c17
         have c17b1 : decide ((wrap64 ((wrap64 (t226 + 1)) - 1)) ≤ (x5_2.size : Int)) = true := decide_eq_true c17
         replace H := Option.bind_eq_some_iff.mp H
         obtain ⟨t227, A180, H⟩ := H
         replace H : (if t227 = true then (rfc_host.j1 kj2 x4_2 x5_2 (wrap64 (t226 + 1))) else (some ((⟨#[]⟩ : ByteArray), false))) = some (r1, r2) := H
         have A18 := Aside0.mk A180
         clear A180
         by_cases c19 : t227 = true
         ·subst c19
          have H1 : (rfc_host.j1 kj2 x4_2 x5_2 (wrap64 (t226 + 1))) = some (r1, r2) := by rw [if_pos rfl] at H; exact H
          clear H
          have H := H1
          clear H1
          have H' := Aside0.mk H
          clear H
          go_wp2_with (first | ((with_reducible refine gate_callee (f := 35) rfl ?_); refine goesL_ (some 24) rfl rfl Try.func35 (by kernel_rfl) rfl #[.string x5_2, .int .u8 93] rfl (by (try simp only [List.map_toArray, List.map_cons, List.map_nil]); first | done | rfl | (simp only [List.length_drop, List.length_take]; rfl)) ?_; (with_reducible refine (strings_IndexByte.calls x5_2 93 t226 _ A13.out).mono ?_); rintro e w20 ⟨rfl, hb⟩; refine ⟨_, rfl, ?_⟩; have n0_ := Aside0.mk (below_step (by repeat (first | (with_reducible first | exact HB.out | apply below_alloc | apply pw_below_drewN | apply below_drew1) | exact HB.out)) hb); clear HB; have HB := n0_; clear n0_; (try clear hb); (try clear hb2); (try clear hk); (try clear hi)) | (go_at_call 36; (with_reducible refine (rfc_literal.calls kj2 (x5_2.extract 1 ((wrap64 ((wrap64 (t226 + 1)) - 1)) : Int).toNat) true _ A18.out).mono ?_); rintro e w21 ⟨rfl, hb⟩; have n0_ := Aside0.mk (below_step (by repeat (first | (with_reducible first | exact HB.out | apply below_alloc | apply pw_below_drewN | apply below_drew1) | exact HB.out)) hb); clear HB; have HB := n0_; clear n0_; (try clear hb); (try clear hb2); (try clear hk); (try clear hi)))
          go_meet
          case rel => exact ⟨_, (wrap64 (t226 + 1)), (by first | rfl | (simp; done) | (simp [*]; done)), H', ⟨by have := HJ2.out; first | omega | exact Nat.le_refl _⟩, ⟨by repeat (first | (with_reducible first | exact HB.out | apply below_alloc | apply pw_below_drewN | apply below_drew1) | exact HB.out)⟩⟩
         ·replace c19 := Bool.eq_false_iff.mpr c19
          subst c19
          have H1 : (some ((⟨#[]⟩ : ByteArray), false)) = some (r1, r2) := by rw [if_neg (show ¬ (false = true) by decide)] at H; exact H
          clear H
          have H := H1
          clear H1
          simp only [Option.some.injEq, Prod.mk.injEq] at H
          obtain ⟨rfl, rfl⟩ := H
          go_wp2_with (first | ((with_reducible refine gate_callee (f := 35) rfl ?_); refine goesL_ (some 24) rfl rfl Try.func35 (by kernel_rfl) rfl #[.string x5_2, .int .u8 93] rfl (by (try simp only [List.map_toArray, List.map_cons, List.map_nil]); first | done | rfl | (simp only [List.length_drop, List.length_take]; rfl)) ?_; (with_reducible refine (strings_IndexByte.calls x5_2 93 t226 _ A13.out).mono ?_); rintro e w22 ⟨rfl, hb⟩; refine ⟨_, rfl, ?_⟩; have n0_ := Aside0.mk (below_step (by repeat (first | (with_reducible first | exact HB.out | apply below_alloc | apply pw_below_drewN | apply below_drew1) | exact HB.out)) hb); clear HB; have HB := n0_; clear n0_; (try clear hb); (try clear hb2); (try clear hk); (try clear hi)) | (go_at_call 36; (with_reducible refine (rfc_literal.calls kj2 (x5_2.extract 1 ((wrap64 ((wrap64 (t226 + 1)) - 1)) : Int).toNat) false _ A18.out).mono ?_); rintro e w23 ⟨rfl, hb⟩; have n0_ := Aside0.mk (below_step (by repeat (first | (with_reducible first | exact HB.out | apply below_alloc | apply pw_below_drewN | apply below_drew1) | exact HB.out)) hb); clear HB; have HB := n0_; clear n0_; (try clear hb); (try clear hb2); (try clear hk); (try clear hi)))
          go_ret2
          exact ⟨by first | rfl | (simp [errW_none, errW_some] <;> rfl) | (simp only [← hji7]; first | rfl | (simp [errW_none, errW_some] <;> rfl)) | (simp [*, errW_none, errW_some] <;> rfl), by repeat (first | (with_reducible first | exact HB.out | apply below_alloc | apply pw_below_drewN | apply below_drew1) | exact HB.out)⟩
        ·rw [if_neg c17] at H
         exact absurd H (by simp)
       ·rw [if_neg c16] at H
        exact absurd H (by simp)
     ·replace c12 := Bool.eq_false_iff.mpr c12
      subst c12
      have H1 : (if 0 ≤ t224 then (if t224 ≤ (x5_2.size : Int) then ((rfc_named.f kj2 (x5_2.extract 0 (t224 : Int).toNat) (⟨#[]⟩ : ByteArray)).bind fun t228 => (if t228 = true then (rfc_host.j1 kj2 x4_2 x5_2 t224) else (some ((⟨#[]⟩ : ByteArray), false)))) else (none)) else (none)) = some (r1, r2) := by rw [if_neg (show ¬ (false = true) by decide)] at H; exact H
      clear H
      have H := H1
      clear H1
      by_cases c24 : 0 ≤ t224
      ·rw [if_pos c24] at H
       have c24b0 := eq_true c24
       have c24b1 : decide (0 ≤ t224) = true := decide_eq_true c24
       clear c24
       by_cases c25 : t224 ≤ (x5_2.size : Int)
       ·rw [if_pos c25] at H
        have c25b0 := eq_true c25
        have c25b1 : decide (t224 ≤ (x5_2.size : Int)) = true := decide_eq_true c25
        clear c25
        replace H := Option.bind_eq_some_iff.mp H
        obtain ⟨t228, A260, H⟩ := H
        replace H : (if t228 = true then (rfc_host.j1 kj2 x4_2 x5_2 t224) else (some ((⟨#[]⟩ : ByteArray), false))) = some (r1, r2) := H
        have A26 := Aside0.mk A260
        clear A260
        by_cases c27 : t228 = true
        ·subst c27
         have H1 : (rfc_host.j1 kj2 x4_2 x5_2 t224) = some (r1, r2) := by rw [if_pos rfl] at H; exact H
         clear H
         have H := H1
         clear H1
         have H' := Aside0.mk H
         clear H
         go_wp2_with (first | ((with_reducible refine gate_callee (f := 25) rfl ?_); refine goesL_ (some 39) rfl rfl Try.func25 (by kernel_rfl) rfl #[.string (x5_2.extract 0 (t224 : Int).toNat), .string (⟨#[]⟩ : ByteArray)] rfl (by (try simp only [List.map_toArray, List.map_cons, List.map_nil]); first | done | rfl | (simp only [List.length_drop, List.length_take]; rfl)) ?_; (with_reducible refine (rfc_named.calls kj2 (x5_2.extract 0 (t224 : Int).toNat) (⟨#[]⟩ : ByteArray) true _ A26.out).mono ?_); rintro e w28 ⟨rfl, hb⟩; refine ⟨_, rfl, ?_⟩; have n0_ := Aside0.mk (below_step (by repeat (first | (with_reducible first | exact HB.out | apply below_alloc | apply pw_below_drewN | apply below_drew1) | exact HB.out)) hb); clear HB; have HB := n0_; clear n0_; (try clear hb); (try clear hb2); (try clear hk); (try clear hi)))
         go_meet
         case rel => exact ⟨_, (t224), (by first | rfl | (simp; done) | (simp [*]; done)), H', ⟨by have := HJ2.out; first | omega | exact Nat.le_refl _⟩, ⟨by repeat (first | (with_reducible first | exact HB.out | apply below_alloc | apply pw_below_drewN | apply below_drew1) | exact HB.out)⟩⟩
        ·replace c27 := Bool.eq_false_iff.mpr c27
         subst c27
         have H1 : (some ((⟨#[]⟩ : ByteArray), false)) = some (r1, r2) := by rw [if_neg (show ¬ (false = true) by decide)] at H; exact H
         clear H
         have H := H1
         clear H1
         simp only [Option.some.injEq, Prod.mk.injEq] at H
         obtain ⟨rfl, rfl⟩ := H
         go_wp2_with (first | ((with_reducible refine gate_callee (f := 25) rfl ?_); refine goesL_ (some 39) rfl rfl Try.func25 (by kernel_rfl) rfl #[.string (x5_2.extract 0 (t224 : Int).toNat), .string (⟨#[]⟩ : ByteArray)] rfl (by (try simp only [List.map_toArray, List.map_cons, List.map_nil]); first | done | rfl | (simp only [List.length_drop, List.length_take]; rfl)) ?_; (with_reducible refine (rfc_named.calls kj2 (x5_2.extract 0 (t224 : Int).toNat) (⟨#[]⟩ : ByteArray) false _ A26.out).mono ?_); rintro e w29 ⟨rfl, hb⟩; refine ⟨_, rfl, ?_⟩; have n0_ := Aside0.mk (below_step (by repeat (first | (with_reducible first | exact HB.out | apply below_alloc | apply pw_below_drewN | apply below_drew1) | exact HB.out)) hb); clear HB; have HB := n0_; clear n0_; (try clear hb); (try clear hb2); (try clear hk); (try clear hi)))
         go_ret2
         exact ⟨by first | rfl | (simp [errW_none, errW_some] <;> rfl) | (simp only [← hji7]; first | rfl | (simp [errW_none, errW_some] <;> rfl)) | (simp [*, errW_none, errW_some] <;> rfl), by repeat (first | (with_reducible first | exact HB.out | apply below_alloc | apply pw_below_drewN | apply below_drew1) | exact HB.out)⟩
       ·rw [if_neg c25] at H
        exact absurd H (by simp)
      ·rw [if_neg c24] at H
       exact absurd H (by simp)
    case rest =>
     clear HC10
     try clear c1
     try clear c2
     try clear p2
     try clear c3
     try clear c5
     try clear c6
     try clear c6b0
     try clear c6b1
     try clear c6b2
     try clear p6
     try clear c12
     try clear c14
     try clear c14b0
     try clear c14b1
     try clear c16
     try clear c16b0
     try clear c16b1
     try clear c17
     try clear c17b0
     try clear c17b1
     try clear c19
     try clear c22
     try clear c24
     try clear c24b0
     try clear c24b1
     try clear c25
     try clear c25b0
     try clear c25b1
     try clear c26
     try clear c27
     try clear c28
     try clear p2
     obtain ⟨kq, x7_9, rfl, HA, HJ9, HB⟩ := hcut
     cases kq with
     | zero => exact absurd HA.out (by simp [rfc_host.j1])
     | succ kj9 =>
      have H := HA.out
      clear HA
      simp only [rfc_host.j1] at H
      by_cases c30 : 0 ≤ x7_9
      ·rw [if_pos c30] at H
       have c30b0 := eq_true c30
       have c30b1 : decide (0 ≤ x7_9) = true := decide_eq_true c30
       clear c30
       by_cases c31 : x7_9 ≤ (x5_2.size : Int)
       ·rw [if_pos c31] at H
        have c31b0 := eq_true c31
        have c31b1 : decide (x7_9 ≤ (x5_2.size : Int)) = true := decide_eq_true c31
        clear c31
        by_cases c32 : (x5_2.extract (x7_9 : Int).toNat x5_2.size).toList = ([] : List UInt8)
        ·rw [if_pos c32] at H
         have c32b0 : ((x5_2.extract (x7_9 : Int).toNat x5_2.size).toList == ([] : List UInt8)) = true := beq_iff_eq.mpr c32
         have c32b1 : ((x5_2.extract (x7_9 : Int).toNat x5_2.size).toList != ([] : List UInt8)) = false := bne_eq_false_iff_eq.mpr c32
         clear c32
         replace H := Option.bind_eq_some_iff.mp H
         obtain ⟨⟨t229, t230, t231, t232⟩, A330, H⟩ := H
         replace H : ((rfc_only.f (x5_2.extract (x7_9 : Int).toNat x5_2.size) t229 t230 t231 t232 (⟨#[58]⟩ : ByteArray)).bind fun t233 => (if t233 = true then ((strings_Count.f (x5_2.extract (x7_9 : Int).toNat x5_2.size) (⟨#[58]⟩ : ByteArray)).bind fun t234 => (if t234 > 1 then (some ((⟨#[]⟩ : ByteArray), false)) else ((rfc_named.f kj9 x4_2 (⟨#[58]⟩ : ByteArray)).bind fun t235 => (some (x5_2.extract 0 (x7_9 : Int).toNat, t235))))) else (some ((⟨#[]⟩ : ByteArray), false)))) = some (r1, r2) := H
         have A33 := Aside0.mk A330
         clear A330
         replace H := Option.bind_eq_some_iff.mp H
         obtain ⟨t233, A340, H⟩ := H
         replace H : (if t233 = true then ((strings_Count.f (x5_2.extract (x7_9 : Int).toNat x5_2.size) (⟨#[58]⟩ : ByteArray)).bind fun t234 => (if t234 > 1 then (some ((⟨#[]⟩ : ByteArray), false)) else ((rfc_named.f kj9 x4_2 (⟨#[58]⟩ : ByteArray)).bind fun t235 => (some (x5_2.extract 0 (x7_9 : Int).toNat, t235))))) else (some ((⟨#[]⟩ : ByteArray), false))) = some (r1, r2) := H
         have A34 := Aside0.mk A340
         clear A340
         by_cases c35 : t233 = true
         ·subst c35
          have H1 : ((strings_Count.f (x5_2.extract (x7_9 : Int).toNat x5_2.size) (⟨#[58]⟩ : ByteArray)).bind fun t234 => (if t234 > 1 then (some ((⟨#[]⟩ : ByteArray), false)) else ((rfc_named.f kj9 x4_2 (⟨#[58]⟩ : ByteArray)).bind fun t235 => (some (x5_2.extract 0 (x7_9 : Int).toNat, t235))))) = some (r1, r2) := by rw [if_pos rfl] at H; exact H
          clear H
          have H := H1
          clear H1
          replace H := Option.bind_eq_some_iff.mp H
          obtain ⟨t234, A360, H⟩ := H
          replace H : (if t234 > 1 then (some ((⟨#[]⟩ : ByteArray), false)) else ((rfc_named.f kj9 x4_2 (⟨#[58]⟩ : ByteArray)).bind fun t235 => (some (x5_2.extract 0 (x7_9 : Int).toNat, t235)))) = some (r1, r2) := H
          have A36 := Aside0.mk A360
          clear A360
          by_cases c37 : t234 > 1
          ·rw [if_pos c37] at H
           have c37b0 : decide (1 < t234) = true := decide_eq_true c37
           clear c37
           simp only [Option.some.injEq, Prod.mk.injEq] at H
           obtain ⟨rfl, rfl⟩ := H
           go_wp2_with (first | (go_at_call 21; (with_reducible refine (rfc_digits.calls  t229 t230 t231 t232 _ A33.out).mono ?_); rintro e w38 ⟨rfl, hb⟩; have n0_ := Aside0.mk (below_step (by repeat (first | (with_reducible first | exact HB.out | apply below_alloc | apply pw_below_drewN | apply below_drew1) | exact HB.out)) hb); clear HB; have HB := n0_; clear n0_; (try clear hb); (try clear hb2); (try clear hk); (try clear hi)) | (go_at_call 19; (with_reducible refine (rfc_only.calls (x5_2.extract (x7_9 : Int).toNat x5_2.size) t229 t230 t231 t232 (⟨#[58]⟩ : ByteArray) true _ A34.out).mono ?_); rintro e w39 ⟨rfl, hb⟩; have n0_ := Aside0.mk (below_step (by repeat (first | (with_reducible first | exact HB.out | apply below_alloc | apply pw_below_drewN | apply below_drew1) | exact HB.out)) hb); clear HB; have HB := n0_; clear n0_; (try clear hb); (try clear hb2); (try clear hk); (try clear hi)) | (go_at_call 37; (with_reducible refine (strings_Count.calls (x5_2.extract (x7_9 : Int).toNat x5_2.size) (⟨#[58]⟩ : ByteArray) t234 _ A36.out).mono ?_); rintro e w40 ⟨rfl, hb⟩; have n0_ := Aside0.mk (below_step (by repeat (first | (with_reducible first | exact HB.out | apply below_alloc | apply pw_below_drewN | apply below_drew1) | exact HB.out)) hb); clear HB; have HB := n0_; clear n0_; (try clear hb); (try clear hb2); (try clear hk); (try clear hi)))
           go_ret2
           exact ⟨by first | rfl | (simp [errW_none, errW_some] <;> rfl) | (simp only [← hji7]; first | rfl | (simp [errW_none, errW_some] <;> rfl)) | (simp [*, errW_none, errW_some] <;> rfl), by repeat (first | (with_reducible first | exact HB.out | apply below_alloc | apply pw_below_drewN | apply below_drew1) | exact HB.out)⟩
          ·rw [if_neg c37] at H
           have c37b0 : decide (1 < t234) = false := decide_eq_false c37
           clear c37
           have c41b0 := eq_true (of_decide_eq_true (by first | (with_reducible assumption) | assumption) : 0 ≤ x7_9)
           have c42b0 := eq_true (of_decide_eq_true (by first | (with_reducible assumption) | assumption) : x7_9 ≤ (x5_2.size : Int))
           replace H := Option.bind_eq_some_iff.mp H
           obtain ⟨t235, A430, H⟩ := H
           replace H : (some (x5_2.extract 0 (x7_9 : Int).toNat, t235)) = some (r1, r2) := H
           have A43 := Aside0.mk A430
           clear A430
           simp only [Option.some.injEq, Prod.mk.injEq] at H
           obtain ⟨rfl, rfl⟩ := H
           try go_wp2_with (first | (go_at_call 21; (with_reducible refine (rfc_digits.calls  t229 t230 t231 t232 _ A33.out).mono ?_); rintro e w44 ⟨rfl, hb⟩; have n0_ := Aside0.mk (below_step (by repeat (first | (with_reducible first | exact HB.out | apply below_alloc | apply pw_below_drewN | apply below_drew1) | exact HB.out)) hb); clear HB; have HB := n0_; clear n0_; (try clear hb); (try clear hb2); (try clear hk); (try clear hi)) | (go_at_call 19; (with_reducible refine (rfc_only.calls (x5_2.extract (x7_9 : Int).toNat x5_2.size) t229 t230 t231 t232 (⟨#[58]⟩ : ByteArray) true _ A34.out).mono ?_); rintro e w45 ⟨rfl, hb⟩; have n0_ := Aside0.mk (below_step (by repeat (first | (with_reducible first | exact HB.out | apply below_alloc | apply pw_below_drewN | apply below_drew1) | exact HB.out)) hb); clear HB; have HB := n0_; clear n0_; (try clear hb); (try clear hb2); (try clear hk); (try clear hi)) | (go_at_call 37; (with_reducible refine (strings_Count.calls (x5_2.extract (x7_9 : Int).toNat x5_2.size) (⟨#[58]⟩ : ByteArray) t234 _ A36.out).mono ?_); rintro e w46 ⟨rfl, hb⟩; have n0_ := Aside0.mk (below_step (by repeat (first | (with_reducible first | exact HB.out | apply below_alloc | apply pw_below_drewN | apply below_drew1) | exact HB.out)) hb); clear HB; have HB := n0_; clear n0_; (try clear hb); (try clear hb2); (try clear hk); (try clear hi)))
           have n0_ := Aside0.mk (below_drew1 HB.out)
           clear HB
           have HB := n0_
           clear n0_
           refine start_ (n := 7) (S := fun w' => True) (ds := []) #[false, false, false, false, false, false, false] (by kernel_rfl) rfl rfl trivial (fun hHeld => ?_)
           generalize w46.drew = w47 at HB hHeld ⊢
           refine pure_ (i := 0) (N := some 62) (v := ?_) (a' := ?_) #[true, false, false, false, false, false, false] rfl rfl (by kernel_rfl) (fun _ _ _ h => h) (Or.inl ⟨by rfl, ?_⟩) ?_ ?_
           rotate_left
           ·intro w'
            go_simp
            with_reducible rfl
           rotate_left
           ·simp only [Act.put, List.setIfInBounds_toArray, List.set_cons_zero, List.set_cons_succ, i64_w, i32_w]
            rfl
           refine pure_ (i := 1) (N := some 63) (v := ?_) (a' := ?_) #[true, true, false, false, false, false, false] rfl rfl (by kernel_rfl) (fun _ _ _ h => h) (Or.inl ⟨by rfl, ?_⟩) ?_ ?_
           rotate_left
           ·intro w'
            go_simp
            with_reducible rfl
           rotate_left
           ·simp only [Act.put, List.setIfInBounds_toArray, List.set_cons_zero, List.set_cons_succ, i64_w, i32_w]
            rfl
           refine pure_ (i := 2) (N := some 64) (v := ?_) (a' := ?_) #[true, true, true, false, false, false, false] rfl rfl (by kernel_rfl) (fun _ _ _ h => h) (Or.inl ⟨by rfl, ?_⟩) ?_ ?_
           rotate_left
           ·intro w'
            go_simp
            with_reducible rfl
           rotate_left
           ·simp only [Act.put, List.setIfInBounds_toArray, List.set_cons_zero, List.set_cons_succ, i64_w, i32_w]
            rfl
           refine pure_ (i := 3) (N := some 65) (v := ?_) (a' := ?_) #[true, true, true, true, false, false, false] rfl rfl (by kernel_rfl) (fun _ _ _ h => h) (Or.inl ⟨by rfl, ?_⟩) ?_ ?_
           rotate_left
           ·intro w'
            go_simp
            with_reducible rfl
           rotate_left
           ·simp only [Act.put, List.setIfInBounds_toArray, List.set_cons_zero, List.set_cons_succ, i64_w, i32_w]
            rfl
           refine one_ (i := 4) (N := some 66) #[true, true, true, true, true, false, false] rfl rfl (by kernel_rfl) (by decide) (fun K hK => ?_)
           refine goes_ Try.func25 (by kernel_rfl) rfl #[.string x4_2, .string (⟨#[58]⟩ : ByteArray)] (by rfl) rfl rfl (by (try simp only [List.map_toArray, List.map_cons, List.map_nil]); first | done | rfl | (simp only [List.length_drop, List.length_take]; rfl)) ?_
           with_reducible refine (rfc_named.calls kj9 x4_2 (⟨#[58]⟩ : ByteArray) t235 _ A43.out).mono ?_
           rintro e w48 ⟨rfl, hb⟩
           refine ⟨_, rfl, ?_⟩
           have n0_ := Aside0.mk (below_step (by repeat (first | (with_reducible first | exact HB.out | apply below_alloc | apply pw_below_drewN | apply below_drew1) | exact HB.out)) hb)
           clear HB
           have HB := n0_
           clear n0_
           (try clear hb)
           (try clear hb2)
           (try clear hk)
           (try clear hi)
           refine hK.out _ _ trivial (fun hHeld => ?_)
           clear hK K
           refine norm_ (a' := ?_) ?_ ?_
           rotate_left
           ·show Act.put _ (some 66) _ = _
            simp only [Act.put, List.setIfInBounds_toArray, List.set_cons_zero, List.set_cons_succ, i64_w, i32_w]
            rfl
           refine pure_ (i := 5) (N := some 2) (v := ?_) (a' := ?_) #[true, true, true, true, true, true, false] rfl rfl (by kernel_rfl) (fun _ _ _ h => h) (Or.inl ⟨by rfl, ?_⟩) ?_ ?_
           rotate_left
           ·intro w'
            go_simp
            with_reducible rfl
           rotate_left
           ·simp only [Act.put, List.setIfInBounds_toArray, List.set_cons_zero, List.set_cons_succ, i64_w, i32_w]
            rfl
           refine pure_ (i := 6) (N := some 3) (v := ?_) (a' := ?_) #[true, true, true, true, true, true, true] rfl rfl (by kernel_rfl) (fun _ _ _ h => h) (Or.inl ⟨by rfl, ?_⟩) ?_ ?_
           rotate_left
           ·intro w'
            go_simp
            with_reducible rfl
           rotate_left
           ·simp only [Act.put, List.setIfInBounds_toArray, List.set_cons_zero, List.set_cons_succ, i64_w, i32_w]
            rfl
           refine done_ (by kernel_rfl) ?_
           try go_wp2
           go_ret2
           exact ⟨by first | rfl | (simp [errW_none, errW_some] <;> rfl) | (simp only [← hji7]; first | rfl | (simp [errW_none, errW_some] <;> rfl)) | (simp [*, errW_none, errW_some] <;> rfl), by repeat (first | (with_reducible first | exact HB.out | apply below_alloc | apply pw_below_drewN | apply below_drew1) | exact HB.out)⟩
         ·replace c35 := Bool.eq_false_iff.mpr c35
          subst c35
          have H1 : (some ((⟨#[]⟩ : ByteArray), false)) = some (r1, r2) := by rw [if_neg (show ¬ (false = true) by decide)] at H; exact H
          clear H
          have H := H1
          clear H1
          simp only [Option.some.injEq, Prod.mk.injEq] at H
          obtain ⟨rfl, rfl⟩ := H
          go_wp2_with (first | (go_at_call 21; (with_reducible refine (rfc_digits.calls  t229 t230 t231 t232 _ A33.out).mono ?_); rintro e w49 ⟨rfl, hb⟩; have n0_ := Aside0.mk (below_step (by repeat (first | (with_reducible first | exact HB.out | apply below_alloc | apply pw_below_drewN | apply below_drew1) | exact HB.out)) hb); clear HB; have HB := n0_; clear n0_; (try clear hb); (try clear hb2); (try clear hk); (try clear hi)) | (go_at_call 19; (with_reducible refine (rfc_only.calls (x5_2.extract (x7_9 : Int).toNat x5_2.size) t229 t230 t231 t232 (⟨#[58]⟩ : ByteArray) false _ A34.out).mono ?_); rintro e w50 ⟨rfl, hb⟩; have n0_ := Aside0.mk (below_step (by repeat (first | (with_reducible first | exact HB.out | apply below_alloc | apply pw_below_drewN | apply below_drew1) | exact HB.out)) hb); clear HB; have HB := n0_; clear n0_; (try clear hb); (try clear hb2); (try clear hk); (try clear hi)))
          go_ret2
          exact ⟨by first | rfl | (simp [errW_none, errW_some] <;> rfl) | (simp only [← hji7]; first | rfl | (simp [errW_none, errW_some] <;> rfl)) | (simp [*, errW_none, errW_some] <;> rfl), by repeat (first | (with_reducible first | exact HB.out | apply below_alloc | apply pw_below_drewN | apply below_drew1) | exact HB.out)⟩
        ·rw [if_neg c32] at H
         have c32b0 : ((x5_2.extract (x7_9 : Int).toNat x5_2.size).toList == ([] : List UInt8)) = false := beq_eq_false_iff_ne.mpr c32
         have c32b1 : ((x5_2.extract (x7_9 : Int).toNat x5_2.size).toList != ([] : List UInt8)) = true := bne_iff_ne.mpr c32
         by_cases c51 : 0 < ((x5_2.extract (x7_9 : Int).toNat x5_2.size).size : Int)
         ·rw [if_pos c51] at H
          have c51b0 : decide (0 < ((x5_2.extract (x7_9 : Int).toNat x5_2.size).size : Int)) = true := decide_eq_true c51
          have c51b1 : decide (0 < (x5_2.extract (x7_9 : Int).toNat x5_2.size).size) = true := decide_eq_true (by omega)
          clear c51
          by_cases c53 : (bt (x5_2.extract (x7_9 : Int).toNat x5_2.size) 0) = 58
          ·rw [if_pos c53] at H
           have c53b0 : ((bt (x5_2.extract (x7_9 : Int).toNat x5_2.size) 0) == 58) = true := beq_iff_eq.mpr c53
           have c53b1 : ((bt (x5_2.extract (x7_9 : Int).toNat x5_2.size) 0) != 58) = false := bne_eq_false_iff_eq.mpr c53
           clear c53
           replace H := Option.bind_eq_some_iff.mp H
           obtain ⟨⟨t236, t237, t238, t239⟩, A540, H⟩ := H
           replace H : ((rfc_only.f (x5_2.extract (x7_9 : Int).toNat x5_2.size) t236 t237 t238 t239 (⟨#[58]⟩ : ByteArray)).bind fun t240 => (if t240 = true then ((strings_Count.f (x5_2.extract (x7_9 : Int).toNat x5_2.size) (⟨#[58]⟩ : ByteArray)).bind fun t241 => (if t241 > 1 then (some ((⟨#[]⟩ : ByteArray), false)) else ((rfc_named.f kj9 x4_2 (⟨#[58]⟩ : ByteArray)).bind fun t242 => (some (x5_2.extract 0 (x7_9 : Int).toNat, t242))))) else (some ((⟨#[]⟩ : ByteArray), false)))) = some (r1, r2) := H
           have A54 := Aside0.mk A540
           clear A540
           replace H := Option.bind_eq_some_iff.mp H
           obtain ⟨t240, A550, H⟩ := H
           replace H : (if t240 = true then ((strings_Count.f (x5_2.extract (x7_9 : Int).toNat x5_2.size) (⟨#[58]⟩ : ByteArray)).bind fun t241 => (if t241 > 1 then (some ((⟨#[]⟩ : ByteArray), false)) else ((rfc_named.f kj9 x4_2 (⟨#[58]⟩ : ByteArray)).bind fun t242 => (some (x5_2.extract 0 (x7_9 : Int).toNat, t242))))) else (some ((⟨#[]⟩ : ByteArray), false))) = some (r1, r2) := H
           have A55 := Aside0.mk A550
           clear A550
           by_cases c56 : t240 = true
           ·subst c56
            have H1 : ((strings_Count.f (x5_2.extract (x7_9 : Int).toNat x5_2.size) (⟨#[58]⟩ : ByteArray)).bind fun t241 => (if t241 > 1 then (some ((⟨#[]⟩ : ByteArray), false)) else ((rfc_named.f kj9 x4_2 (⟨#[58]⟩ : ByteArray)).bind fun t242 => (some (x5_2.extract 0 (x7_9 : Int).toNat, t242))))) = some (r1, r2) := by rw [if_pos rfl] at H; exact H
            clear H
            have H := H1
            clear H1
            replace H := Option.bind_eq_some_iff.mp H
            obtain ⟨t241, A570, H⟩ := H
            replace H : (if t241 > 1 then (some ((⟨#[]⟩ : ByteArray), false)) else ((rfc_named.f kj9 x4_2 (⟨#[58]⟩ : ByteArray)).bind fun t242 => (some (x5_2.extract 0 (x7_9 : Int).toNat, t242)))) = some (r1, r2) := H
            have A57 := Aside0.mk A570
            clear A570
            by_cases c58 : t241 > 1
            ·rw [if_pos c58] at H
             have c58b0 : decide (1 < t241) = true := decide_eq_true c58
             clear c58
             simp only [Option.some.injEq, Prod.mk.injEq] at H
             obtain ⟨rfl, rfl⟩ := H
             have p52 : 0 ≤ (0 : Int) := (by omega)
             have q52 : 0 < (x5_2.extract (x7_9 : Int).toNat x5_2.size).size := (by have : (0 : Int) < ((x5_2.extract (x7_9 : Int).toNat x5_2.size).size : Int) := of_decide_eq_true (by first | (with_reducible assumption) | assumption); omega)
             have hx52 : ∀ h : 0 < (x5_2.extract (x7_9 : Int).toNat x5_2.size).size, (((x5_2.extract (x7_9 : Int).toNat x5_2.size)[0]'h).toNat : Int) = bt (x5_2.extract (x7_9 : Int).toNat x5_2.size) 0 := bt_at (x5_2.extract (x7_9 : Int).toNat x5_2.size) 0
             clear p52
             have qi52 : (0 < ((x5_2.extract (x7_9 : Int).toNat x5_2.size).size : Int)) = True := eq_true (of_decide_eq_true (by first | (with_reducible assumption) | assumption))
             replace q52 := eq_true q52
             have qs52 := q52
             (try simp only [ByteArray.size_extract, Nat.min_self] at qs52)
             go_wp2_with (first | (go_at_call 21; (with_reducible refine (rfc_digits.calls  t236 t237 t238 t239 _ A54.out).mono ?_); rintro e w59 ⟨rfl, hb⟩; have n0_ := Aside0.mk (below_step (by repeat (first | (with_reducible first | exact HB.out | apply below_alloc | apply pw_below_drewN | apply below_drew1) | exact HB.out)) hb); clear HB; have HB := n0_; clear n0_; (try clear hb); (try clear hb2); (try clear hk); (try clear hi)) | (go_at_call 19; (with_reducible refine (rfc_only.calls (x5_2.extract (x7_9 : Int).toNat x5_2.size) t236 t237 t238 t239 (⟨#[58]⟩ : ByteArray) true _ A55.out).mono ?_); rintro e w60 ⟨rfl, hb⟩; have n0_ := Aside0.mk (below_step (by repeat (first | (with_reducible first | exact HB.out | apply below_alloc | apply pw_below_drewN | apply below_drew1) | exact HB.out)) hb); clear HB; have HB := n0_; clear n0_; (try clear hb); (try clear hb2); (try clear hk); (try clear hi)) | (go_at_call 37; (with_reducible refine (strings_Count.calls (x5_2.extract (x7_9 : Int).toNat x5_2.size) (⟨#[58]⟩ : ByteArray) t241 _ A57.out).mono ?_); rintro e w61 ⟨rfl, hb⟩; have n0_ := Aside0.mk (below_step (by repeat (first | (with_reducible first | exact HB.out | apply below_alloc | apply pw_below_drewN | apply below_drew1) | exact HB.out)) hb); clear HB; have HB := n0_; clear n0_; (try clear hb); (try clear hb2); (try clear hk); (try clear hi)))
             go_ret2
             exact ⟨by first | rfl | (simp [errW_none, errW_some] <;> rfl) | (simp only [← hji7]; first | rfl | (simp [errW_none, errW_some] <;> rfl)) | (simp [*, errW_none, errW_some] <;> rfl), by repeat (first | (with_reducible first | exact HB.out | apply below_alloc | apply pw_below_drewN | apply below_drew1) | exact HB.out)⟩
            ·rw [if_neg c58] at H
             have c58b0 : decide (1 < t241) = false := decide_eq_false c58
             clear c58
             have c62b0 := eq_true (of_decide_eq_true (by first | (with_reducible assumption) | assumption) : 0 ≤ x7_9)
             have c63b0 := eq_true (of_decide_eq_true (by first | (with_reducible assumption) | assumption) : x7_9 ≤ (x5_2.size : Int))
             replace H := Option.bind_eq_some_iff.mp H
             obtain ⟨t242, A640, H⟩ := H
             replace H : (some (x5_2.extract 0 (x7_9 : Int).toNat, t242)) = some (r1, r2) := H
             have A64 := Aside0.mk A640
             clear A640
             simp only [Option.some.injEq, Prod.mk.injEq] at H
             obtain ⟨rfl, rfl⟩ := H
             have p52 : 0 ≤ (0 : Int) := (by omega)
             have q52 : 0 < (x5_2.extract (x7_9 : Int).toNat x5_2.size).size := (by have : (0 : Int) < ((x5_2.extract (x7_9 : Int).toNat x5_2.size).size : Int) := of_decide_eq_true (by first | (with_reducible assumption) | assumption); omega)
             have hx52 : ∀ h : 0 < (x5_2.extract (x7_9 : Int).toNat x5_2.size).size, (((x5_2.extract (x7_9 : Int).toNat x5_2.size)[0]'h).toNat : Int) = bt (x5_2.extract (x7_9 : Int).toNat x5_2.size) 0 := bt_at (x5_2.extract (x7_9 : Int).toNat x5_2.size) 0
             clear p52
             have qi52 : (0 < ((x5_2.extract (x7_9 : Int).toNat x5_2.size).size : Int)) = True := eq_true (of_decide_eq_true (by first | (with_reducible assumption) | assumption))
             replace q52 := eq_true q52
             have qs52 := q52
             (try simp only [ByteArray.size_extract, Nat.min_self] at qs52)
             try go_wp2_with (first | (go_at_call 21; (with_reducible refine (rfc_digits.calls  t236 t237 t238 t239 _ A54.out).mono ?_); rintro e w65 ⟨rfl, hb⟩; have n0_ := Aside0.mk (below_step (by repeat (first | (with_reducible first | exact HB.out | apply below_alloc | apply pw_below_drewN | apply below_drew1) | exact HB.out)) hb); clear HB; have HB := n0_; clear n0_; (try clear hb); (try clear hb2); (try clear hk); (try clear hi)) | (go_at_call 19; (with_reducible refine (rfc_only.calls (x5_2.extract (x7_9 : Int).toNat x5_2.size) t236 t237 t238 t239 (⟨#[58]⟩ : ByteArray) true _ A55.out).mono ?_); rintro e w66 ⟨rfl, hb⟩; have n0_ := Aside0.mk (below_step (by repeat (first | (with_reducible first | exact HB.out | apply below_alloc | apply pw_below_drewN | apply below_drew1) | exact HB.out)) hb); clear HB; have HB := n0_; clear n0_; (try clear hb); (try clear hb2); (try clear hk); (try clear hi)) | (go_at_call 37; (with_reducible refine (strings_Count.calls (x5_2.extract (x7_9 : Int).toNat x5_2.size) (⟨#[58]⟩ : ByteArray) t241 _ A57.out).mono ?_); rintro e w67 ⟨rfl, hb⟩; have n0_ := Aside0.mk (below_step (by repeat (first | (with_reducible first | exact HB.out | apply below_alloc | apply pw_below_drewN | apply below_drew1) | exact HB.out)) hb); clear HB; have HB := n0_; clear n0_; (try clear hb); (try clear hb2); (try clear hk); (try clear hi)))
             have n0_ := Aside0.mk (below_drew1 HB.out)
             clear HB
             have HB := n0_
             clear n0_
             refine start_ (n := 7) (S := fun w' => True) (ds := []) #[false, false, false, false, false, false, false] (by kernel_rfl) rfl rfl trivial (fun hHeld => ?_)
             generalize w67.drew = w68 at HB hHeld ⊢
             refine pure_ (i := 0) (N := some 62) (v := ?_) (a' := ?_) #[true, false, false, false, false, false, false] rfl rfl (by kernel_rfl) (fun _ _ _ h => h) (Or.inl ⟨by rfl, ?_⟩) ?_ ?_
             rotate_left
             ·intro w'
              go_simp
              with_reducible rfl
             rotate_left
             ·simp only [Act.put, List.setIfInBounds_toArray, List.set_cons_zero, List.set_cons_succ, i64_w, i32_w]
              rfl
             refine pure_ (i := 1) (N := some 63) (v := ?_) (a' := ?_) #[true, true, false, false, false, false, false] rfl rfl (by kernel_rfl) (fun _ _ _ h => h) (Or.inl ⟨by rfl, ?_⟩) ?_ ?_
             rotate_left
             ·intro w'
              go_simp
              with_reducible rfl
             rotate_left
             ·simp only [Act.put, List.setIfInBounds_toArray, List.set_cons_zero, List.set_cons_succ, i64_w, i32_w]
              rfl
             refine pure_ (i := 2) (N := some 64) (v := ?_) (a' := ?_) #[true, true, true, false, false, false, false] rfl rfl (by kernel_rfl) (fun _ _ _ h => h) (Or.inl ⟨by rfl, ?_⟩) ?_ ?_
             rotate_left
             ·intro w'
              go_simp
              with_reducible rfl
             rotate_left
             ·simp only [Act.put, List.setIfInBounds_toArray, List.set_cons_zero, List.set_cons_succ, i64_w, i32_w]
              rfl
             refine pure_ (i := 3) (N := some 65) (v := ?_) (a' := ?_) #[true, true, true, true, false, false, false] rfl rfl (by kernel_rfl) (fun _ _ _ h => h) (Or.inl ⟨by rfl, ?_⟩) ?_ ?_
             rotate_left
             ·intro w'
              go_simp
              with_reducible rfl
             rotate_left
             ·simp only [Act.put, List.setIfInBounds_toArray, List.set_cons_zero, List.set_cons_succ, i64_w, i32_w]
              rfl
             refine one_ (i := 4) (N := some 66) #[true, true, true, true, true, false, false] rfl rfl (by kernel_rfl) (by decide) (fun K hK => ?_)
             refine goes_ Try.func25 (by kernel_rfl) rfl #[.string x4_2, .string (⟨#[58]⟩ : ByteArray)] (by rfl) rfl rfl (by (try simp only [List.map_toArray, List.map_cons, List.map_nil]); first | done | rfl | (simp only [List.length_drop, List.length_take]; rfl)) ?_
             with_reducible refine (rfc_named.calls kj9 x4_2 (⟨#[58]⟩ : ByteArray) t242 _ A64.out).mono ?_
             rintro e w69 ⟨rfl, hb⟩
             refine ⟨_, rfl, ?_⟩
             have n0_ := Aside0.mk (below_step (by repeat (first | (with_reducible first | exact HB.out | apply below_alloc | apply pw_below_drewN | apply below_drew1) | exact HB.out)) hb)
             clear HB
             have HB := n0_
             clear n0_
             (try clear hb)
             (try clear hb2)
             (try clear hk)
             (try clear hi)
             refine hK.out _ _ trivial (fun hHeld => ?_)
             clear hK K
             refine norm_ (a' := ?_) ?_ ?_
             rotate_left
             ·show Act.put _ (some 66) _ = _
              simp only [Act.put, List.setIfInBounds_toArray, List.set_cons_zero, List.set_cons_succ, i64_w, i32_w]
              rfl
             refine pure_ (i := 5) (N := some 2) (v := ?_) (a' := ?_) #[true, true, true, true, true, true, false] rfl rfl (by kernel_rfl) (fun _ _ _ h => h) (Or.inl ⟨by rfl, ?_⟩) ?_ ?_
             rotate_left
             ·intro w'
              go_simp
              with_reducible rfl
             rotate_left
             ·simp only [Act.put, List.setIfInBounds_toArray, List.set_cons_zero, List.set_cons_succ, i64_w, i32_w]
              rfl
             refine pure_ (i := 6) (N := some 3) (v := ?_) (a' := ?_) #[true, true, true, true, true, true, true] rfl rfl (by kernel_rfl) (fun _ _ _ h => h) (Or.inl ⟨by rfl, ?_⟩) ?_ ?_
             rotate_left
             ·intro w'
              go_simp
              with_reducible rfl
             rotate_left
             ·simp only [Act.put, List.setIfInBounds_toArray, List.set_cons_zero, List.set_cons_succ, i64_w, i32_w]
              rfl
             refine done_ (by kernel_rfl) ?_
             try go_wp2
             go_ret2
             exact ⟨by first | rfl | (simp [errW_none, errW_some] <;> rfl) | (simp only [← hji7]; first | rfl | (simp [errW_none, errW_some] <;> rfl)) | (simp [*, errW_none, errW_some] <;> rfl), by repeat (first | (with_reducible first | exact HB.out | apply below_alloc | apply pw_below_drewN | apply below_drew1) | exact HB.out)⟩
           ·replace c56 := Bool.eq_false_iff.mpr c56
            subst c56
            have H1 : (some ((⟨#[]⟩ : ByteArray), false)) = some (r1, r2) := by rw [if_neg (show ¬ (false = true) by decide)] at H; exact H
            clear H
            have H := H1
            clear H1
            simp only [Option.some.injEq, Prod.mk.injEq] at H
            obtain ⟨rfl, rfl⟩ := H
            have p52 : 0 ≤ (0 : Int) := (by omega)
            have q52 : 0 < (x5_2.extract (x7_9 : Int).toNat x5_2.size).size := (by have : (0 : Int) < ((x5_2.extract (x7_9 : Int).toNat x5_2.size).size : Int) := of_decide_eq_true (by first | (with_reducible assumption) | assumption); omega)
            have hx52 : ∀ h : 0 < (x5_2.extract (x7_9 : Int).toNat x5_2.size).size, (((x5_2.extract (x7_9 : Int).toNat x5_2.size)[0]'h).toNat : Int) = bt (x5_2.extract (x7_9 : Int).toNat x5_2.size) 0 := bt_at (x5_2.extract (x7_9 : Int).toNat x5_2.size) 0
            clear p52
            have qi52 : (0 < ((x5_2.extract (x7_9 : Int).toNat x5_2.size).size : Int)) = True := eq_true (of_decide_eq_true (by first | (with_reducible assumption) | assumption))
            replace q52 := eq_true q52
            have qs52 := q52
            (try simp only [ByteArray.size_extract, Nat.min_self] at qs52)
            go_wp2_with (first | (go_at_call 21; (with_reducible refine (rfc_digits.calls  t236 t237 t238 t239 _ A54.out).mono ?_); rintro e w70 ⟨rfl, hb⟩; have n0_ := Aside0.mk (below_step (by repeat (first | (with_reducible first | exact HB.out | apply below_alloc | apply pw_below_drewN | apply below_drew1) | exact HB.out)) hb); clear HB; have HB := n0_; clear n0_; (try clear hb); (try clear hb2); (try clear hk); (try clear hi)) | (go_at_call 19; (with_reducible refine (rfc_only.calls (x5_2.extract (x7_9 : Int).toNat x5_2.size) t236 t237 t238 t239 (⟨#[58]⟩ : ByteArray) false _ A55.out).mono ?_); rintro e w71 ⟨rfl, hb⟩; have n0_ := Aside0.mk (below_step (by repeat (first | (with_reducible first | exact HB.out | apply below_alloc | apply pw_below_drewN | apply below_drew1) | exact HB.out)) hb); clear HB; have HB := n0_; clear n0_; (try clear hb); (try clear hb2); (try clear hk); (try clear hi)))
            go_ret2
            exact ⟨by first | rfl | (simp [errW_none, errW_some] <;> rfl) | (simp only [← hji7]; first | rfl | (simp [errW_none, errW_some] <;> rfl)) | (simp [*, errW_none, errW_some] <;> rfl), by repeat (first | (with_reducible first | exact HB.out | apply below_alloc | apply pw_below_drewN | apply below_drew1) | exact HB.out)⟩
          ·rw [if_neg c53] at H
           have c53b0 : ((bt (x5_2.extract (x7_9 : Int).toNat x5_2.size) 0) == 58) = false := beq_eq_false_iff_ne.mpr c53
           have c53b1 : ((bt (x5_2.extract (x7_9 : Int).toNat x5_2.size) 0) != 58) = true := bne_iff_ne.mpr c53
           simp only [Option.some.injEq, Prod.mk.injEq] at H
           obtain ⟨rfl, rfl⟩ := H
           have p52 : 0 ≤ (0 : Int) := (by omega)
           have q52 : 0 < (x5_2.extract (x7_9 : Int).toNat x5_2.size).size := (by have : (0 : Int) < ((x5_2.extract (x7_9 : Int).toNat x5_2.size).size : Int) := of_decide_eq_true (by first | (with_reducible assumption) | assumption); omega)
           have hx52 : ∀ h : 0 < (x5_2.extract (x7_9 : Int).toNat x5_2.size).size, (((x5_2.extract (x7_9 : Int).toNat x5_2.size)[0]'h).toNat : Int) = bt (x5_2.extract (x7_9 : Int).toNat x5_2.size) 0 := bt_at (x5_2.extract (x7_9 : Int).toNat x5_2.size) 0
           clear p52
           have qi52 : (0 < ((x5_2.extract (x7_9 : Int).toNat x5_2.size).size : Int)) = True := eq_true (of_decide_eq_true (by first | (with_reducible assumption) | assumption))
           replace q52 := eq_true q52
           have qs52 := q52
           (try simp only [ByteArray.size_extract, Nat.min_self] at qs52)
           go_wp2
           go_ret2
           exact ⟨by first | rfl | (simp [errW_none, errW_some] <;> rfl) | (simp only [← hji7]; first | rfl | (simp [errW_none, errW_some] <;> rfl)) | (simp [*, errW_none, errW_some] <;> rfl), by repeat (first | (with_reducible first | exact HB.out | apply below_alloc | apply pw_below_drewN | apply below_drew1) | exact HB.out)⟩
         ·rw [if_neg c51] at H
          exact absurd H (by simp)
       ·rw [if_neg c31] at H
        exact absurd H (by simp)
      ·rw [if_neg c30] at H
       exact absurd H (by simp)
   ·rw [if_neg c6] at H
    exact absurd H (by simp)

/-! ### strings_Index: function 39 -/
def strings_Index.f (a0 : ByteArray) (a1 : ByteArray) : Option (Int) := (stringslite_Index.f a0 a1).bind fun t243 => (some t243)
set_option maxHeartbeats 8000000 in
set_option maxRecDepth 100000 in
theorem strings_Index.calls (a0 : ByteArray) (a1 : ByteArray) (r : Int) (w : World) (h : strings_Index.f a0 a1 = some r) :
  Calls Try.prog 39 #[.string a0, .string a1] w fun e w' => e = .returned (.int .i64 r) ∧ Below w.heap.size w w' := by
 have HB := Aside0.mk (Below.refl w.heap.size w)
 have H : ((stringslite_Index.f a0 a1).bind fun t243 => (some t243)) = some r := h
 clear h
 replace H := Option.bind_eq_some_iff.mp H
 obtain ⟨t243, A30, H⟩ := H
 replace H : (some t243) = some r := H
 have A3 := Aside0.mk A30
 clear A30
 obtain rfl := Option.some.inj H
 go_enter Try.func39, Try.ntmps39
 go_wp2_with (first | ((with_reducible refine gate_callee (f := 55) rfl ?_); refine goesL_ (some 7) rfl rfl Try.func55 (by kernel_rfl) rfl #[.string a0, .string a1] rfl (by (try simp only [List.map_toArray, List.map_cons, List.map_nil]); first | done | rfl | (simp only [List.length_drop, List.length_take]; rfl)) ?_; (with_reducible refine (stringslite_Index.calls a0 a1 t243 _ A3.out).mono ?_); rintro e w4 ⟨rfl, hb⟩; refine ⟨_, rfl, ?_⟩; have n0_ := Aside0.mk (below_step (by repeat (first | (with_reducible first | exact HB.out | apply below_alloc | apply pw_below_drewN | apply below_drew1) | exact HB.out)) hb); clear HB; have HB := n0_; clear n0_; (try clear hb); (try clear hb2); (try clear hk); (try clear hi)))
 go_ret
 exact ⟨by first | rfl | (simp [errW_none, errW_some] <;> rfl) | (simp [*, errW_none, errW_some] <;> rfl), by repeat (first | (with_reducible first | exact HB.out | apply below_alloc | apply pw_below_drewN | apply below_drew1) | exact HB.out)⟩

/-! ### strings_Contains: function 24 -/
def strings_Contains.f (a0 : ByteArray) (a1 : ByteArray) : Option (Bool) := (strings_Index.f a0 a1).bind fun t244 => (some (decide (t244 ≥ 0)))
set_option maxHeartbeats 8000000 in
set_option maxRecDepth 100000 in
theorem strings_Contains.calls (a0 : ByteArray) (a1 : ByteArray) (r : Bool) (w : World) (h : strings_Contains.f a0 a1 = some r) :
  Calls Try.prog 24 #[.string a0, .string a1] w fun e w' => e = .returned (.bool r) ∧ Below w.heap.size w w' := by
 have HB := Aside0.mk (Below.refl w.heap.size w)
 have H : ((strings_Index.f a0 a1).bind fun t244 => (some (decide (t244 ≥ 0)))) = some r := h
 clear h
 replace H := Option.bind_eq_some_iff.mp H
 obtain ⟨t244, A30, H⟩ := H
 replace H : (some (decide (t244 ≥ 0))) = some r := H
 have A3 := Aside0.mk A30
 clear A30
 obtain rfl := Option.some.inj H
 go_enter Try.func24, Try.ntmps24
 go_wp2_with (first | ((with_reducible refine gate_callee (f := 39) rfl ?_); refine goesL_ (some 7) rfl rfl Try.func39 (by kernel_rfl) rfl #[.string a0, .string a1] rfl (by (try simp only [List.map_toArray, List.map_cons, List.map_nil]); first | done | rfl | (simp only [List.length_drop, List.length_take]; rfl)) ?_; (with_reducible refine (strings_Index.calls a0 a1 t244 _ A3.out).mono ?_); rintro e w4 ⟨rfl, hb⟩; refine ⟨_, rfl, ?_⟩; have n0_ := Aside0.mk (below_step (by repeat (first | (with_reducible first | exact HB.out | apply below_alloc | apply pw_below_drewN | apply below_drew1) | exact HB.out)) hb); clear HB; have HB := n0_; clear n0_; (try clear hb); (try clear hb2); (try clear hk); (try clear hi)))
 go_ret
 exact ⟨by first | rfl | (simp [errW_none, errW_some] <;> rfl) | (simp [*, errW_none, errW_some] <;> rfl), by repeat (first | (with_reducible first | exact HB.out | apply below_alloc | apply pw_below_drewN | apply below_drew1) | exact HB.out)⟩

end Go.Proofs.Ytiihgddpejmehaa.ZA

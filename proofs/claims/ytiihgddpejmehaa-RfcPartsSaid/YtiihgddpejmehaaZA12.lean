/- My own print (tools/mp.py) of functions of this seat: each function as a plain Lean function, and the proof that the code does what that function says. -/
import Derived.Test.YtiihgddpejmehaaZA0
import Derived.Test.YtiihgddpejmehaaZA1
import Derived.Test.YtiihgddpejmehaaZA4
import Derived.Test.YtiihgddpejmehaaZA9
import Derived.Test.YtiihgddpejmehaaZA10
namespace Go.Proofs.Ytiihgddpejmehaa.ZA
open Go.RowKit Go.Proofs.YtiihgddpejmehaaW.PrintWords Go.Proofs.YtiihgddpejmehaaW.PrintLast Go.Proofs.YtiihgddpejmehaaW.PrintMore
attribute [local go_sem] max2_int min2_int max_two min_two max_three min_three max_four min_four   -- for this text's walks alone
set_option linter.unusedVariables false
set_option linter.unusedSimpArgs false

attribute [local go_sem high] eqA24
/-! ### shibbolethlaw19_escaped: function 15 -/
/-- A byte as it is, or as an escape. -/
def shibbolethlaw19_escaped.row : List UInt8 := [48, 49, 50, 51, 52, 53, 54, 55, 56, 57, 97, 98, 99, 68, 69, 70]
def shibbolethlaw19_escaped.esc (c : UInt8) : List UInt8 := if 97 ≤ c.toNat ∧ c.toNat ≤ 122 then [c] else [37, shibbolethlaw19_escaped.row.getD (c.toNat / 16) 0, shibbolethlaw19_escaped.row.getD (c.toNat % 16) 0]
def shibbolethlaw19_escaped.all (l : List UInt8) : List UInt8 := l.flatMap shibbolethlaw19_escaped.esc
def shibbolethlaw19_escaped.tx (l : List UInt8) : ByteArray := ⟨(shibbolethlaw19_escaped.all l).toArray⟩
def shibbolethlaw19_escaped.f (a0 : ByteArray) : Option ByteArray := if a0.size ≤ 1099511627776 then some (shibbolethlaw19_escaped.tx a0.data.toList) else none
theorem shibbolethlaw19_escaped.esc_len (c : UInt8) : (shibbolethlaw19_escaped.esc c).length ≤ 3 := by
  unfold shibbolethlaw19_escaped.esc
  split <;> simp
theorem shibbolethlaw19_escaped.all_len : ∀ l : List UInt8, (shibbolethlaw19_escaped.all l).length ≤ 3 * l.length
  | [] => by simp [shibbolethlaw19_escaped.all]
  | c :: t => by
    have h1 := shibbolethlaw19_escaped.esc_len c
    have h2 := shibbolethlaw19_escaped.all_len t
    unfold shibbolethlaw19_escaped.all at *
    rw [List.flatMap_cons, List.length_append, List.length_cons]
    omega
theorem shibbolethlaw19_escaped.tx_size (l : List UInt8) : (shibbolethlaw19_escaped.tx l).size ≤ 3 * l.length := shibbolethlaw19_escaped.all_len l
theorem shibbolethlaw19_escaped.tx_snoc (a0 : ByteArray) (k : Nat) (h : k < a0.size) : shibbolethlaw19_escaped.tx (a0.data.toList.take (k + 1)) = shibbolethlaw19_escaped.tx (a0.data.toList.take k) ++ ⟨(shibbolethlaw19_escaped.esc (a0[k]'h)).toArray⟩ := by
  have h' : k < a0.data.toList.length := by rw [data_length]; exact h
  apply ByteArray.ext
  rw [ByteArray.data_append]
  unfold shibbolethlaw19_escaped.tx shibbolethlaw19_escaped.all
  rw [List.take_succ_eq_append_getElem h', List.flatMap_append]
  simp only [List.flatMap_cons, List.flatMap_nil, List.append_nil]
  show (List.flatMap shibbolethlaw19_escaped.esc (List.take k a0.data.toList) ++ shibbolethlaw19_escaped.esc a0[k]).toArray = _
  simp
theorem shibbolethlaw19_escaped.three (T : ByteArray) (x y : Nat) : Value.string (T ++ ⟨#[37]⟩ ++ ⟨#[shibbolethlaw19_escaped.row[x]?.getD 0]⟩ ++ ⟨#[shibbolethlaw19_escaped.row[y]?.getD 0]⟩) = Value.string (T ++ ⟨([37, shibbolethlaw19_escaped.row.getD x 0, shibbolethlaw19_escaped.row.getD y 0] : List UInt8).toArray⟩) := by
  congr 1
  apply ByteArray.ext
  simp only [ByteArray.data_append, List.getD_eq_getElem?_getD, Array.append_assoc]
  rfl
set_option maxHeartbeats 4000000 in
set_option maxRecDepth 100000 in
theorem shibbolethlaw19_escaped.any (a0 : ByteArray) (w : World) (h0 : a0.size ≤ 1099511627776) :
    Calls Try.prog 15 #[.string a0] w fun e w' => e = .returned (.string (shibbolethlaw19_escaped.tx a0.data.toList)) ∧ Below w.heap.size w w' := by
  go_enter Try.func15, Try.ntmps15
  go_wp2
  go_loopw [3, 4] (fun o i wr => ∃ (k : Nat), k ≤ a0.size ∧ i = .int .i64 k ∧ o = .string (shibbolethlaw19_escaped.tx (a0.data.toList.take k)) ∧ Aside0 (Below w.heap.size w wr)) (fun _ i _ => a0.size - (intOf i).toNat)
  case atStart => exact ⟨0, by omega, by go_num, rfl, ⟨Below.refl _ _⟩⟩
  case round =>
    obtain ⟨k, hk, rfl, rfl, hb⟩ := hrel
    by_cases hlt : k < a0.size
    · have hx := bt_at a0 (k : Int)
      have p9 := eq_true (show (0 : Int) ≤ (k : Int) by omega)
      have q9 := eq_true (show (k : Int) < (a0.size : Int) by omega)
      have hsz := shibbolethlaw19_escaped.tx_size (a0.data.toList.take k)
      have hlen : (a0.data.toList.take k).length ≤ k := List.length_take_le _ _
      have HS := Aside0.mk (shibbolethlaw19_escaped.tx_snoc a0 k hlt)
      have hcl := (a0[k]'hlt).toNat_lt
      generalize hT : shibbolethlaw19_escaped.tx (a0.data.toList.take k) = T at *
      clear hT
      have e1 : IntKind.i64.wrap ((k : Int) + 1) = (k : Int) + 1 := IntWalk.i64_in _ (by omega)
      have hd : decide (k < a0.size) = true := decide_eq_true hlt
      have hsl : ∀ W : World, (Instr.slice 9 (.string a0) (some (.int .i64 (k : Int))) (some (.int .i64 ((k : Int) + 1))) none).run Try.prog W = .ok (.string (a0.extract k (k + 1))) W := fun W => run_slice_string W 9 a0 .i64 .i64 k (k + 1) Try.underlying9 (by omega) (by omega) (by omega)
      by_cases h1 : 97 ≤ (a0[k]'hlt).toNat ∧ (a0[k]'hlt).toNat ≤ 122
      · have HE2 := Aside0.mk (show shibbolethlaw19_escaped.esc (a0[k]'hlt) = _ from if_pos h1)
        obtain ⟨h1, h2⟩ := h1
        have d1 : decide (97 ≤ ((a0[k]'hlt).toNat : Int)) = true := decide_eq_true (by omega)
        have d2 : decide (((a0[k]'hlt).toNat : Int) ≤ 122) = true := decide_eq_true (by omega)
        have hxz : (a0.extract k (k + 1)).size ≤ 1 := by rw [ByteArray.size_extract]; omega
        have hxe := Aside0.mk (show a0.extract k (k + 1) = ⟨(shibbolethlaw19_escaped.esc (a0[k]'hlt)).toArray⟩ from by
          rw [HE2.out, Lib.extract_eq]
          have h' : k < a0.data.toList.length := by rw [data_length]; exact hlt
          rw [List.drop_eq_getElem_cons h', Nat.add_sub_cancel_left]
          rfl)
        generalize a0.extract k (k + 1) = X at *
        have hcat : T.size + X.size ≤ 9223372036854775807 := by omega
        go_wp2
        go_roundw
        case rel => exact ⟨k + 1, by omega, by go_num, by rw [HS.out, ← hxe.out], hb⟩
        case measure => simp [intOf]; omega
      · have HE2 := Aside0.mk (show shibbolethlaw19_escaped.esc (a0[k]'hlt) = _ from if_neg h1)
        obtain ⟨q, hq⟩ : ∃ q : Nat, (a0[k]'hlt).toNat / 16 = q := ⟨_, rfl⟩
        obtain ⟨r, hr⟩ : ∃ r : Nat, (a0[k]'hlt).toNat % 16 = r := ⟨_, rfl⟩
        have hq1 : Int.tdiv ((a0[k]'hlt).toNat : Int) 16 = (q : Int) := by rw [Int.tdiv_eq_ediv_of_nonneg (by omega)]; omega
        have hr1 : Int.tmod ((a0[k]'hlt).toNat : Int) 16 = (r : Int) := by rw [Int.tmod_eq_emod_of_nonneg (by omega)]; omega
        have hq16 : q < 16 := by omega
        have hr16 : r < 16 := by omega
        have hcase : decide (97 ≤ ((a0[k]'hlt).toNat : Int)) = false ∨ (decide (97 ≤ ((a0[k]'hlt).toNat : Int)) = true ∧ decide (((a0[k]'hlt).toNat : Int) ≤ 122) = false) := by
          by_cases h2 : 97 ≤ (a0[k]'hlt).toNat
          · exact .inr ⟨decide_eq_true (by omega), decide_eq_false (by omega)⟩
          · exact .inl (decide_eq_false (by omega))
        have hrow : ∀ n : Nat, n < 16 → (⟨#[48, 49, 50, 51, 52, 53, 54, 55, 56, 57, 97, 98, 99, 68, 69, 70]⟩ : ByteArray).extract n (n + 1) = ⟨#[shibbolethlaw19_escaped.row.getD n 0]⟩ := by decide
        have hs1 : ∀ W : World, (Instr.slice 9 (.string ⟨#[48, 49, 50, 51, 52, 53, 54, 55, 56, 57, 97, 98, 99, 68, 69, 70]⟩) (some (.int .u8 (q : Int))) (some (.int .u8 ((q : Int) + 1))) none).run Try.prog W = .ok (.string ⟨#[shibbolethlaw19_escaped.row.getD q 0]⟩) W := fun W => by
          rw [← hrow q hq16]
          exact run_slice_string W 9 _ .u8 .u8 q (q + 1) Try.underlying9 (by omega) (by omega) (by show (q : Int) + 1 ≤ 16; omega)
        have hs2 : ∀ W : World, (Instr.slice 9 (.string ⟨#[48, 49, 50, 51, 52, 53, 54, 55, 56, 57, 97, 98, 99, 68, 69, 70]⟩) (some (.int .u8 (r : Int))) (some (.int .u8 ((r : Int) + 1))) none).run Try.prog W = .ok (.string ⟨#[shibbolethlaw19_escaped.row.getD r 0]⟩) W := fun W => by
          rw [← hrow r hr16]
          exact run_slice_string W 9 _ .u8 .u8 r (r + 1) Try.underlying9 (by omega) (by omega) (by show (r : Int) + 1 ≤ 16; omega)
        have w1 : IntKind.u8.wrap (q : Int) = q := by rw [IntKind.wrap_u8]; omega
        have w2 : IntKind.u8.wrap ((q : Int) + 1) = (q : Int) + 1 := by rw [IntKind.wrap_u8]; omega
        have w3 : IntKind.u8.wrap (r : Int) = r := by rw [IntKind.wrap_u8]; omega
        have w4 : IntKind.u8.wrap ((r : Int) + 1) = (r : Int) + 1 := by rw [IntKind.wrap_u8]; omega
        have hT1 : T.size + 1 ≤ 9223372036854775807 := by omega
        have hT2 : (T ++ (⟨#[37]⟩ : ByteArray)).size + 1 ≤ 9223372036854775807 := by rw [ByteArray.size_append]; show T.size + 1 + 1 ≤ _; omega
        have hT3 : (T ++ (⟨#[37]⟩ : ByteArray) ++ (⟨#[shibbolethlaw19_escaped.row.getD q 0]⟩ : ByteArray)).size + 1 ≤ 9223372036854775807 := by rw [ByteArray.size_append, ByteArray.size_append]; show T.size + 1 + 1 + 1 ≤ _; omega
        rw [hq, hr] at HE2
        clear hrow hq hr
        rcases hcase with d1 | ⟨d1, d2⟩
        all_goals
          go_wp2
          go_quiet (fail)
          go_wp2
          go_roundw
          case rel => exact ⟨k + 1, by omega, by go_num, by rw [HS.out, HE2.out]; exact shibbolethlaw19_escaped.three T _ _, ⟨⟨hb.out.os, hb.out.tape, hb.out.output, hb.out.size, hb.out.block⟩⟩⟩
          case measure => simp [intOf]; omega
    · have hd : decide (k < a0.size) = false := decide_eq_false hlt
      have e1 := Aside0.mk (show a0.data.toList.take k = a0.data.toList from List.take_of_length_le (by rw [data_length]; omega))
      go_wp2
      go_ret
      refine ⟨?_, hb.out⟩
      rw [e1.out]
      rfl
theorem shibbolethlaw19_escaped.calls (a0 : ByteArray) (r : ByteArray) (w : World) (h : shibbolethlaw19_escaped.f a0 = some r) :
    Calls Try.prog 15 #[.string a0] w fun e w' => e = .returned (.string r) ∧ Below w.heap.size w w' := by
  unfold shibbolethlaw19_escaped.f at h
  by_cases hc : a0.size ≤ 1099511627776
  · rw [if_pos hc] at h
    have h := Option.some.inj h
    subst h
    exact shibbolethlaw19_escaped.any a0 w hc
  · rw [if_neg hc] at h; exact absurd h (by simp)

/-! ### shibbolethlaw19_RfcParts: function 6 -/
mutual
def shibbolethlaw19_RfcParts.j0 : Nat → ByteArray → ByteArray → Int → ByteArray → ByteArray → ByteArray → Option (Bool)
  | 0, _, _, _, _, _, _ => none
  | k + 1, x3, x4, x5, x15, x16, x17 => if (Int.tmod x5 2) = 1 then (if x17.size + 5 ≤ 9223372036854775807 then (shibbolethlaw19_RfcParts.j1 k x3 x4 x15 x16 (x17 ++ (⟨#[58, 48, 48, 56, 48]⟩ : ByteArray))) else (none)) else (shibbolethlaw19_RfcParts.j1 k x3 x4 x15 x16 x17)
def shibbolethlaw19_RfcParts.j1 : Nat → ByteArray → ByteArray → ByteArray → ByteArray → ByteArray → Option (Bool)
  | 0, _, _, _, _, _ => none
  | k + 1, x3, x4, x15, x16, x17 => if x17.size + x16.size ≤ 9223372036854775807 then (if (x17 ++ x16).size + 1 ≤ 9223372036854775807 then ((shibbolethlaw19_escaped.f x3).bind fun t321 => (if ((x17 ++ x16) ++ (⟨#[63]⟩ : ByteArray)).size + t321.size ≤ 9223372036854775807 then (if (((x17 ++ x16) ++ (⟨#[63]⟩ : ByteArray)) ++ t321).size + 3 ≤ 9223372036854775807 then ((shibbolethlaw19_escaped.f x4).bind fun t322 => (if ((((x17 ++ x16) ++ (⟨#[63]⟩ : ByteArray)) ++ t321) ++ (⟨#[63, 47, 35]⟩ : ByteArray)).size + t322.size ≤ 9223372036854775807 then (if (((((x17 ++ x16) ++ (⟨#[63]⟩ : ByteArray)) ++ t321) ++ (⟨#[63, 47, 35]⟩ : ByteArray)) ++ t322).size + 2 ≤ 9223372036854775807 then ((rfc_Parse.f k ((((((x17 ++ x16) ++ (⟨#[63]⟩ : ByteArray)) ++ t321) ++ (⟨#[63, 47, 35]⟩ : ByteArray)) ++ t322) ++ (⟨#[47, 63]⟩ : ByteArray))).bind fun bt323 => ((shibbolethlaw19_took.f x15 x16).bind fun bt326 => (if (bt323.1 == bt326.1 && (bt323.2.1.toList == bt326.2.1.toList && (bt323.2.2.toList == bt326.2.2.toList))) = true then ((shibbolethlaw19_awake.f k).bind fun t329 => (some t329)) else (some false)))) else (none)) else (none))) else (none)) else (none))) else (none)) else (none)
end
def shibbolethlaw19_RfcParts.f (k : Nat) (a0 : ByteArray) (a1 : ByteArray) (a2 : ByteArray) (a3 : ByteArray) (a4 : ByteArray) (a5 : Int) (a6 : Bool) : Option (Bool) := if (wrap64 ((wrap64 ((wrap64 ((wrap64 ((a0.size : Int) + (a1.size : Int))) + (a2.size : Int))) + (a3.size : Int))) + (a4.size : Int))) > 1000 then ((shibbolethlaw19_awake.f k).bind fun t317 => (some t317)) else ((shibbolethlaw19_escaped.f a1).bind fun t318 => ((shibbolethlaw19_escaped.f a2).bind fun t319 => (if 1 + t319.size ≤ 9223372036854775807 then ((shibbolethlaw19_escaped.f a0).bind fun t320 => (if 2 + t320.size ≤ 9223372036854775807 then (if ((⟨#[47, 47]⟩ : ByteArray) ++ t320).size + 1 ≤ 9223372036854775807 then (if (((⟨#[47, 47]⟩ : ByteArray) ++ t320) ++ (⟨#[64]⟩ : ByteArray)).size + t318.size ≤ 9223372036854775807 then (if a6 = true then (if 8 + ((((⟨#[47, 47]⟩ : ByteArray) ++ t320) ++ (⟨#[64]⟩ : ByteArray)) ++ t318).size ≤ 9223372036854775807 then (shibbolethlaw19_RfcParts.j0 k a3 a4 a5 t318 ((⟨#[47]⟩ : ByteArray) ++ t319) ((⟨#[97, 43, 98, 46, 99, 45, 57, 58]⟩ : ByteArray) ++ ((((⟨#[47, 47]⟩ : ByteArray) ++ t320) ++ (⟨#[64]⟩ : ByteArray)) ++ t318))) else (none)) else (shibbolethlaw19_RfcParts.j0 k a3 a4 a5 t318 ((⟨#[47]⟩ : ByteArray) ++ t319) ((((⟨#[47, 47]⟩ : ByteArray) ++ t320) ++ (⟨#[64]⟩ : ByteArray)) ++ t318))) else (none)) else (none)) else (none))) else (none))))
theorem shibbolethlaw19_RfcParts.mono_l : ∀ k, (∀ y0 y1 y2 y3 y4 y5, LeO (shibbolethlaw19_RfcParts.j0 k y0 y1 y2 y3 y4 y5) (shibbolethlaw19_RfcParts.j0 (k + 1) y0 y1 y2 y3 y4 y5)) ∧ (∀ y0 y1 y2 y3 y4, LeO (shibbolethlaw19_RfcParts.j1 k y0 y1 y2 y3 y4) (shibbolethlaw19_RfcParts.j1 (k + 1) y0 y1 y2 y3 y4))
  | 0 => ⟨fun _ _ _ _ _ _ r h => by simp [shibbolethlaw19_RfcParts.j0] at h, fun _ _ _ _ _ r h => by simp [shibbolethlaw19_RfcParts.j1] at h⟩
  | k + 1 => by
    obtain ⟨ih0, ih1⟩ := shibbolethlaw19_RfcParts.mono_l k
    refine ⟨?_, ?_⟩
    · intro y0 y1 y2 y3 y4 y5
      unfold shibbolethlaw19_RfcParts.j0
      repeat' first
      | (with_reducible exact ih0 _ _ _ _ _ _)
      | (with_reducible exact ih1 _ _ _ _ _)
      | (with_reducible exact rfc_Parse.mono _ _)
      | (with_reducible exact shibbolethlaw19_awake.mono _)
      | (with_reducible exact LeO.refl _)
      | (with_reducible exact LeO.none _)
      | (with_reducible refine LeO.ite ?_ ?_)
      | (with_reducible refine LeO.bind ?_ (fun _ => ?_))
      | exact ih0 _ _ _ _ _ _
      | exact ih1 _ _ _ _ _
      | exact rfc_Parse.mono _ _
      | exact shibbolethlaw19_awake.mono _
      | exact LeO.none _
      | refine LeO.ite ?_ ?_
      | refine LeO.bind ?_ (fun _ => ?_)
    · intro y0 y1 y2 y3 y4
      unfold shibbolethlaw19_RfcParts.j1
      repeat' first
      | (with_reducible exact ih0 _ _ _ _ _ _)
      | (with_reducible exact ih1 _ _ _ _ _)
      | (with_reducible exact rfc_Parse.mono _ _)
      | (with_reducible exact shibbolethlaw19_awake.mono _)
      | (with_reducible exact LeO.refl _)
      | (with_reducible exact LeO.none _)
      | (with_reducible refine LeO.ite ?_ ?_)
      | (with_reducible refine LeO.bind ?_ (fun _ => ?_))
      | exact ih0 _ _ _ _ _ _
      | exact ih1 _ _ _ _ _
      | exact rfc_Parse.mono _ _
      | exact shibbolethlaw19_awake.mono _
      | exact LeO.none _
      | refine LeO.ite ?_ ?_
      | refine LeO.bind ?_ (fun _ => ?_)
theorem shibbolethlaw19_RfcParts.mono : ∀ a0 a1 a2 a3 a4 a5 a6 k, LeO (shibbolethlaw19_RfcParts.f k a0 a1 a2 a3 a4 a5 a6) (shibbolethlaw19_RfcParts.f (k + 1) a0 a1 a2 a3 a4 a5 a6) := by
  intro a0 a1 a2 a3 a4 a5 a6 k
  obtain ⟨ih0, ih1⟩ := shibbolethlaw19_RfcParts.mono_l k
  unfold shibbolethlaw19_RfcParts.f
  repeat' first
      | (with_reducible exact ih0 _ _ _ _ _ _)
      | (with_reducible exact ih1 _ _ _ _ _)
      | (with_reducible exact rfc_Parse.mono _ _)
      | (with_reducible exact shibbolethlaw19_awake.mono _)
      | (with_reducible exact LeO.refl _)
      | (with_reducible exact LeO.none _)
      | (with_reducible refine LeO.ite ?_ ?_)
      | (with_reducible refine LeO.bind ?_ (fun _ => ?_))
      | exact ih0 _ _ _ _ _ _
      | exact ih1 _ _ _ _ _
      | exact rfc_Parse.mono _ _
      | exact shibbolethlaw19_awake.mono _
      | exact LeO.none _
      | refine LeO.ite ?_ ?_
      | refine LeO.bind ?_ (fun _ => ?_)
set_option maxHeartbeats 8000000 in
set_option maxRecDepth 100000 in
theorem shibbolethlaw19_RfcParts.calls (k : Nat) (a0 : ByteArray) (a1 : ByteArray) (a2 : ByteArray) (a3 : ByteArray) (a4 : ByteArray) (a5 : Int) (a6 : Bool) (r : Bool) (w : World) (h : shibbolethlaw19_RfcParts.f k a0 a1 a2 a3 a4 a5 a6 = some r) :
    Calls Try.prog 6 #[.string a0, .string a1, .string a2, .string a3, .string a4, .int .u16 a5, .bool a6] w fun e w' => e = .returned (.bool r) ∧ Below w.heap.size w w' := by
  have HB := Aside0.mk (Below.refl w.heap.size w)
  have H : (if (wrap64 ((wrap64 ((wrap64 ((wrap64 ((a0.size : Int) + (a1.size : Int))) + (a2.size : Int))) + (a3.size : Int))) + (a4.size : Int))) > 1000 then ((shibbolethlaw19_awake.f k).bind fun t317 => (some t317)) else ((shibbolethlaw19_escaped.f a1).bind fun t318 => ((shibbolethlaw19_escaped.f a2).bind fun t319 => (if 1 + t319.size ≤ 9223372036854775807 then ((shibbolethlaw19_escaped.f a0).bind fun t320 => (if 2 + t320.size ≤ 9223372036854775807 then (if ((⟨#[47, 47]⟩ : ByteArray) ++ t320).size + 1 ≤ 9223372036854775807 then (if (((⟨#[47, 47]⟩ : ByteArray) ++ t320) ++ (⟨#[64]⟩ : ByteArray)).size + t318.size ≤ 9223372036854775807 then (if a6 = true then (if 8 + ((((⟨#[47, 47]⟩ : ByteArray) ++ t320) ++ (⟨#[64]⟩ : ByteArray)) ++ t318).size ≤ 9223372036854775807 then (shibbolethlaw19_RfcParts.j0 k a3 a4 a5 t318 ((⟨#[47]⟩ : ByteArray) ++ t319) ((⟨#[97, 43, 98, 46, 99, 45, 57, 58]⟩ : ByteArray) ++ ((((⟨#[47, 47]⟩ : ByteArray) ++ t320) ++ (⟨#[64]⟩ : ByteArray)) ++ t318))) else (none)) else (shibbolethlaw19_RfcParts.j0 k a3 a4 a5 t318 ((⟨#[47]⟩ : ByteArray) ++ t319) ((((⟨#[47, 47]⟩ : ByteArray) ++ t320) ++ (⟨#[64]⟩ : ByteArray)) ++ t318))) else (none)) else (none)) else (none))) else (none))))) = some r := h
  clear h
  by_cases c8 : (wrap64 ((wrap64 ((wrap64 ((wrap64 ((a0.size : Int) + (a1.size : Int))) + (a2.size : Int))) + (a3.size : Int))) + (a4.size : Int))) > 1000
  · rw [if_pos c8] at H
    have c8b0 : decide (1000 < (wrap64 ((wrap64 ((wrap64 ((wrap64 ((a0.size : Int) + (a1.size : Int))) + (a2.size : Int))) + (a3.size : Int))) + (a4.size : Int)))) = true := decide_eq_true c8
    clear c8
    replace H := Option.bind_eq_some_iff.mp H
    obtain ⟨t317, A90, H⟩ := H
    replace H : (some t317) = some r := H
    have A9 := Aside0.mk A90
    clear A90
    obtain rfl := Option.some.inj H
    go_enter Try.func6, Try.ntmps6
    go_wp2_with (first | ((with_reducible refine gate_callee (f := 11) rfl ?_); refine goesL_ (some 33) rfl rfl Try.func11 (by kernel_rfl) rfl #[] rfl (by (try simp only [List.map_toArray, List.map_cons, List.map_nil]); first | done | rfl | (simp only [List.length_drop, List.length_take]; rfl)) ?_; (with_reducible refine (shibbolethlaw19_awake.calls k  t317 _ A9.out).mono ?_); rintro e w10 ⟨rfl, hb⟩; refine ⟨_, rfl, ?_⟩; have n0_ := Aside0.mk (below_step (by repeat (first | (with_reducible first | exact HB.out | apply below_alloc | apply pw_below_drewN | apply below_drew1) | exact HB.out)) hb); clear HB; have HB := n0_; clear n0_; (try clear hb); (try clear hb2); (try clear hk); (try clear hi)))
    go_ret
    exact ⟨by first | rfl | (simp [errW_none, errW_some] <;> rfl) | (simp [*, errW_none, errW_some] <;> rfl), by repeat (first | (with_reducible first | exact HB.out | apply below_alloc | apply pw_below_drewN | apply below_drew1) | exact HB.out)⟩
  · rw [if_neg c8] at H
    have c8b0 : decide (1000 < (wrap64 ((wrap64 ((wrap64 ((wrap64 ((a0.size : Int) + (a1.size : Int))) + (a2.size : Int))) + (a3.size : Int))) + (a4.size : Int)))) = false := decide_eq_false c8
    clear c8
    replace H := Option.bind_eq_some_iff.mp H
    obtain ⟨t318, A110, H⟩ := H
    replace H : ((shibbolethlaw19_escaped.f a2).bind fun t319 => (if 1 + t319.size ≤ 9223372036854775807 then ((shibbolethlaw19_escaped.f a0).bind fun t320 => (if 2 + t320.size ≤ 9223372036854775807 then (if ((⟨#[47, 47]⟩ : ByteArray) ++ t320).size + 1 ≤ 9223372036854775807 then (if (((⟨#[47, 47]⟩ : ByteArray) ++ t320) ++ (⟨#[64]⟩ : ByteArray)).size + t318.size ≤ 9223372036854775807 then (if a6 = true then (if 8 + ((((⟨#[47, 47]⟩ : ByteArray) ++ t320) ++ (⟨#[64]⟩ : ByteArray)) ++ t318).size ≤ 9223372036854775807 then (shibbolethlaw19_RfcParts.j0 k a3 a4 a5 t318 ((⟨#[47]⟩ : ByteArray) ++ t319) ((⟨#[97, 43, 98, 46, 99, 45, 57, 58]⟩ : ByteArray) ++ ((((⟨#[47, 47]⟩ : ByteArray) ++ t320) ++ (⟨#[64]⟩ : ByteArray)) ++ t318))) else (none)) else (shibbolethlaw19_RfcParts.j0 k a3 a4 a5 t318 ((⟨#[47]⟩ : ByteArray) ++ t319) ((((⟨#[47, 47]⟩ : ByteArray) ++ t320) ++ (⟨#[64]⟩ : ByteArray)) ++ t318))) else (none)) else (none)) else (none))) else (none))) = some r := H
    have A11 := Aside0.mk A110
    clear A110
    replace H := Option.bind_eq_some_iff.mp H
    obtain ⟨t319, A120, H⟩ := H
    replace H : (if 1 + t319.size ≤ 9223372036854775807 then ((shibbolethlaw19_escaped.f a0).bind fun t320 => (if 2 + t320.size ≤ 9223372036854775807 then (if ((⟨#[47, 47]⟩ : ByteArray) ++ t320).size + 1 ≤ 9223372036854775807 then (if (((⟨#[47, 47]⟩ : ByteArray) ++ t320) ++ (⟨#[64]⟩ : ByteArray)).size + t318.size ≤ 9223372036854775807 then (if a6 = true then (if 8 + ((((⟨#[47, 47]⟩ : ByteArray) ++ t320) ++ (⟨#[64]⟩ : ByteArray)) ++ t318).size ≤ 9223372036854775807 then (shibbolethlaw19_RfcParts.j0 k a3 a4 a5 t318 ((⟨#[47]⟩ : ByteArray) ++ t319) ((⟨#[97, 43, 98, 46, 99, 45, 57, 58]⟩ : ByteArray) ++ ((((⟨#[47, 47]⟩ : ByteArray) ++ t320) ++ (⟨#[64]⟩ : ByteArray)) ++ t318))) else (none)) else (shibbolethlaw19_RfcParts.j0 k a3 a4 a5 t318 ((⟨#[47]⟩ : ByteArray) ++ t319) ((((⟨#[47, 47]⟩ : ByteArray) ++ t320) ++ (⟨#[64]⟩ : ByteArray)) ++ t318))) else (none)) else (none)) else (none))) else (none)) = some r := H
    have A12 := Aside0.mk A120
    clear A120
    by_cases c13 : 1 + t319.size ≤ 9223372036854775807
    · rw [if_pos c13] at H
      have c13b0 := eq_true c13
      have c13b1 : decide (1 + t319.size ≤ 9223372036854775807) = true := decide_eq_true c13
      try have c13b2 : (9223372036854775807 < 1 + t319.size) = False := eq_false (Nat.not_lt.2 c13)
      obtain ⟨ji14, hji14⟩ : ∃ j_ : ByteArray, ((⟨#[47]⟩ : ByteArray) ++ t319) = j_ := ⟨_, rfl⟩
      replace H : ((shibbolethlaw19_escaped.f a0).bind fun t320 => (if 2 + t320.size ≤ 9223372036854775807 then (if ((⟨#[47, 47]⟩ : ByteArray) ++ t320).size + 1 ≤ 9223372036854775807 then (if (((⟨#[47, 47]⟩ : ByteArray) ++ t320) ++ (⟨#[64]⟩ : ByteArray)).size + t318.size ≤ 9223372036854775807 then (if a6 = true then (if 8 + ((((⟨#[47, 47]⟩ : ByteArray) ++ t320) ++ (⟨#[64]⟩ : ByteArray)) ++ t318).size ≤ 9223372036854775807 then (shibbolethlaw19_RfcParts.j0 k a3 a4 a5 t318 ji14 ((⟨#[97, 43, 98, 46, 99, 45, 57, 58]⟩ : ByteArray) ++ ((((⟨#[47, 47]⟩ : ByteArray) ++ t320) ++ (⟨#[64]⟩ : ByteArray)) ++ t318))) else (none)) else (shibbolethlaw19_RfcParts.j0 k a3 a4 a5 t318 ji14 ((((⟨#[47, 47]⟩ : ByteArray) ++ t320) ++ (⟨#[64]⟩ : ByteArray)) ++ t318))) else (none)) else (none)) else (none))) = some r := by first | (rw [hji14] at H; exact H) | (simp only [hji14] at H ⊢; exact H) | exact H
      (try rw [hji14] at A11)
      (try rw [hji14] at A12)
      replace H := Option.bind_eq_some_iff.mp H
      obtain ⟨t320, A150, H⟩ := H
      replace H : (if 2 + t320.size ≤ 9223372036854775807 then (if ((⟨#[47, 47]⟩ : ByteArray) ++ t320).size + 1 ≤ 9223372036854775807 then (if (((⟨#[47, 47]⟩ : ByteArray) ++ t320) ++ (⟨#[64]⟩ : ByteArray)).size + t318.size ≤ 9223372036854775807 then (if a6 = true then (if 8 + ((((⟨#[47, 47]⟩ : ByteArray) ++ t320) ++ (⟨#[64]⟩ : ByteArray)) ++ t318).size ≤ 9223372036854775807 then (shibbolethlaw19_RfcParts.j0 k a3 a4 a5 t318 ji14 ((⟨#[97, 43, 98, 46, 99, 45, 57, 58]⟩ : ByteArray) ++ ((((⟨#[47, 47]⟩ : ByteArray) ++ t320) ++ (⟨#[64]⟩ : ByteArray)) ++ t318))) else (none)) else (shibbolethlaw19_RfcParts.j0 k a3 a4 a5 t318 ji14 ((((⟨#[47, 47]⟩ : ByteArray) ++ t320) ++ (⟨#[64]⟩ : ByteArray)) ++ t318))) else (none)) else (none)) else (none)) = some r := H
      have A15 := Aside0.mk A150
      clear A150
      by_cases c16 : 2 + t320.size ≤ 9223372036854775807
      · rw [if_pos c16] at H
        have c16b0 := eq_true c16
        have c16b1 : decide (2 + t320.size ≤ 9223372036854775807) = true := decide_eq_true c16
        try have c16b2 : (9223372036854775807 < 2 + t320.size) = False := eq_false (Nat.not_lt.2 c16)
        obtain ⟨ji17, hji17⟩ : ∃ j_ : ByteArray, ((⟨#[47, 47]⟩ : ByteArray) ++ t320) = j_ := ⟨_, rfl⟩
        replace H : (if (ji17).size + 1 ≤ 9223372036854775807 then (if ((ji17) ++ (⟨#[64]⟩ : ByteArray)).size + t318.size ≤ 9223372036854775807 then (if a6 = true then (if 8 + (((ji17) ++ (⟨#[64]⟩ : ByteArray)) ++ t318).size ≤ 9223372036854775807 then (shibbolethlaw19_RfcParts.j0 k a3 a4 a5 t318 ji14 ((⟨#[97, 43, 98, 46, 99, 45, 57, 58]⟩ : ByteArray) ++ (((ji17) ++ (⟨#[64]⟩ : ByteArray)) ++ t318))) else (none)) else (shibbolethlaw19_RfcParts.j0 k a3 a4 a5 t318 ji14 (((ji17) ++ (⟨#[64]⟩ : ByteArray)) ++ t318))) else (none)) else (none)) = some r := by first | (rw [hji17] at H; exact H) | (simp only [hji17] at H ⊢; exact H) | exact H
        (try rw [hji17] at A11)
        (try rw [hji17] at A12)
        (try rw [hji17] at A15)
        by_cases c18 : (ji17).size + 1 ≤ 9223372036854775807
        · rw [if_pos c18] at H
          have c18b0 := eq_true c18
          have c18b1 : decide ((ji17).size + 1 ≤ 9223372036854775807) = true := decide_eq_true c18
          try have c18b2 : (9223372036854775807 < (ji17).size + 1) = False := eq_false (Nat.not_lt.2 c18)
          obtain ⟨ji19, hji19⟩ : ∃ j_ : ByteArray, ((ji17) ++ (⟨#[64]⟩ : ByteArray)) = j_ := ⟨_, rfl⟩
          replace H : (if (ji19).size + t318.size ≤ 9223372036854775807 then (if a6 = true then (if 8 + ((ji19) ++ t318).size ≤ 9223372036854775807 then (shibbolethlaw19_RfcParts.j0 k a3 a4 a5 t318 ji14 ((⟨#[97, 43, 98, 46, 99, 45, 57, 58]⟩ : ByteArray) ++ ((ji19) ++ t318))) else (none)) else (shibbolethlaw19_RfcParts.j0 k a3 a4 a5 t318 ji14 ((ji19) ++ t318))) else (none)) = some r := by first | (rw [hji19] at H; exact H) | (simp only [hji19] at H ⊢; exact H) | exact H
          (try rw [hji19] at A11)
          (try rw [hji19] at A12)
          (try rw [hji19] at A15)
          by_cases c20 : (ji19).size + t318.size ≤ 9223372036854775807
          · rw [if_pos c20] at H
            have c20b0 := eq_true c20
            have c20b1 : decide ((ji19).size + t318.size ≤ 9223372036854775807) = true := decide_eq_true c20
            try have c20b2 : (9223372036854775807 < (ji19).size + t318.size) = False := eq_false (Nat.not_lt.2 c20)
            obtain ⟨ji21, hji21⟩ : ∃ j_ : ByteArray, ((ji19) ++ t318) = j_ := ⟨_, rfl⟩
            replace H : (if a6 = true then (if 8 + (ji21).size ≤ 9223372036854775807 then (shibbolethlaw19_RfcParts.j0 k a3 a4 a5 t318 ji14 ((⟨#[97, 43, 98, 46, 99, 45, 57, 58]⟩ : ByteArray) ++ (ji21))) else (none)) else (shibbolethlaw19_RfcParts.j0 k a3 a4 a5 t318 ji14 ji21)) = some r := by first | (rw [hji21] at H; exact H) | (simp only [hji21] at H ⊢; exact H) | exact H
            (try rw [hji21] at A11)
            (try rw [hji21] at A12)
            (try rw [hji21] at A15)
            have HC22 := Aside0.mk H
            clear H
            go_enter Try.func6, Try.ntmps6
            go_upto_if 45 with (first | ((with_reducible refine gate_callee (f := 15) rfl ?_); refine goesL_ (some 35) rfl rfl Try.func15 (by kernel_rfl) rfl #[.string a1] rfl (by (try simp only [List.map_toArray, List.map_cons, List.map_nil]); first | done | rfl | (simp only [List.length_drop, List.length_take]; rfl)) ?_; (with_reducible refine (shibbolethlaw19_escaped.calls a1 t318 _ A11.out).mono ?_); rintro e w23 ⟨rfl, hb⟩; refine ⟨_, rfl, ?_⟩; have n0_ := Aside0.mk (below_step (by repeat (first | (with_reducible first | exact HB.out | apply below_alloc | apply pw_below_drewN | apply below_drew1) | exact HB.out)) hb); clear HB; have HB := n0_; clear n0_; (try clear hb); (try clear hb2); (try clear hk); (try clear hi)) | ((with_reducible refine gate_callee (f := 15) rfl ?_); refine goesL_ (some 37) rfl rfl Try.func15 (by kernel_rfl) rfl #[.string a2] rfl (by (try simp only [List.map_toArray, List.map_cons, List.map_nil]); first | done | rfl | (simp only [List.length_drop, List.length_take]; rfl)) ?_; (with_reducible refine (shibbolethlaw19_escaped.calls a2 t319 _ A12.out).mono ?_); rintro e w24 ⟨rfl, hb⟩; refine ⟨_, rfl, ?_⟩; have n0_ := Aside0.mk (below_step (by repeat (first | (with_reducible first | exact HB.out | apply below_alloc | apply pw_below_drewN | apply below_drew1) | exact HB.out)) hb); clear HB; have HB := n0_; clear n0_; (try clear hb); (try clear hb2); (try clear hk); (try clear hi)) | ((with_reducible refine gate_callee (f := 15) rfl ?_); refine goesL_ (some 40) rfl rfl Try.func15 (by kernel_rfl) rfl #[.string a0] rfl (by (try simp only [List.map_toArray, List.map_cons, List.map_nil]); first | done | rfl | (simp only [List.length_drop, List.length_take]; rfl)) ?_; (with_reducible refine (shibbolethlaw19_escaped.calls a0 t320 _ A15.out).mono ?_); rintro e w25 ⟨rfl, hb⟩; refine ⟨_, rfl, ?_⟩; have n0_ := Aside0.mk (below_step (by repeat (first | (with_reducible first | exact HB.out | apply below_alloc | apply pw_below_drewN | apply below_drew1) | exact HB.out)) hb); clear HB; have HB := n0_; clear n0_; (try clear hb); (try clear hb2); (try clear hk); (try clear hi)))
            (try simp only [Act.put, List.setIfInBounds_toArray, List.set_cons_zero, List.set_cons_succ])
            go_cut [17] (fun v17 wc => ∃ (kq : Nat) (x17_21 : ByteArray), v17 = .string x17_21 ∧ Aside0 (shibbolethlaw19_RfcParts.j0 kq a3 a4 a5 t318 ji14 x17_21 = some r) ∧ Aside0 (kq ≤ k) ∧ Aside0 (Below w.heap.size w wc))
            case first =>
              have H := HC22.out
              clear HC22
              by_cases c26 : a6 = true
              · subst c26
                have H1 : (if 8 + (ji21).size ≤ 9223372036854775807 then (shibbolethlaw19_RfcParts.j0 k a3 a4 a5 t318 ji14 ((⟨#[97, 43, 98, 46, 99, 45, 57, 58]⟩ : ByteArray) ++ (ji21))) else (none)) = some r := by rw [if_pos rfl] at H; exact H
                clear H
                have H := H1
                clear H1
                by_cases c27 : 8 + (ji21).size ≤ 9223372036854775807
                · rw [if_pos c27] at H
                  have c27b0 := eq_true c27
                  have c27b1 : decide (8 + (ji21).size ≤ 9223372036854775807) = true := decide_eq_true c27
                  try have c27b2 : (9223372036854775807 < 8 + (ji21).size) = False := eq_false (Nat.not_lt.2 c27)
                  obtain ⟨ji28, hji28⟩ : ∃ j_ : ByteArray, ((⟨#[97, 43, 98, 46, 99, 45, 57, 58]⟩ : ByteArray) ++ (ji21)) = j_ := ⟨_, rfl⟩
                  replace H : (shibbolethlaw19_RfcParts.j0 k a3 a4 a5 t318 ji14 ji28) = some r := by first | (rw [hji28] at H; exact H) | (simp only [hji28] at H ⊢; exact H) | exact H
                  have H' := Aside0.mk H
                  clear H
                  go_wp2
                  go_meet
                  case rel => exact ⟨_, (ji28), (by first | rfl | (simp; done) | (simp only [← hji28] <;> (first | rfl | simp)) | (simp [*]; done)), H', ⟨by first | omega | exact Nat.le_refl _⟩, ⟨by repeat (first | (with_reducible first | exact HB.out | apply below_alloc | apply pw_below_drewN | apply below_drew1) | exact HB.out)⟩⟩
                · rw [if_neg c27] at H
                  exact absurd H (by simp)
              · replace c26 := Bool.eq_false_iff.mpr c26
                subst c26
                have H1 : (shibbolethlaw19_RfcParts.j0 k a3 a4 a5 t318 ji14 ji21) = some r := by rw [if_neg (show ¬ (false = true) by decide)] at H; exact H
                clear H
                have H := H1
                clear H1
                have H' := Aside0.mk H
                clear H
                go_wp2
                go_meet
                case rel => exact ⟨_, (ji21), (by first | rfl | (simp; done) | (simp only [← hji21] <;> (first | rfl | simp)) | (simp [*]; done)), H', ⟨by first | omega | exact Nat.le_refl _⟩, ⟨by repeat (first | (with_reducible first | exact HB.out | apply below_alloc | apply pw_below_drewN | apply below_drew1) | exact HB.out)⟩⟩
            case rest =>
              clear HC22
              try clear c1
              try clear c2
              try clear p2
              try clear c6
              try clear p6
              try clear c8
              try clear c8b0
              try clear c11
              try clear c13
              try clear c13b0
              try clear c13b1
              try clear c13b2
              try clear c15
              try clear c16
              try clear c16b0
              try clear c16b1
              try clear c16b2
              try clear c18
              try clear c18b0
              try clear c18b1
              try clear c18b2
              try clear c20
              try clear c20b0
              try clear c20b1
              try clear c20b2
              try clear c26
              try clear c27
              try clear c27b0
              try clear c27b1
              try clear c27b2
              obtain ⟨kq, x17_21, rfl, HA, HJ21, HB⟩ := hcut
              cases kq with
              | zero => exact absurd HA.out (by simp [shibbolethlaw19_RfcParts.j0])
              | succ kj21 =>
                have H := HA.out
                clear HA
                simp only [shibbolethlaw19_RfcParts.j0] at H
                have HC29 := Aside0.mk H
                clear H
                go_upto_if 50 with (fail)
                go_cut [17] (fun v17 wc => ∃ (kq : Nat) (x17_28 : ByteArray), v17 = .string x17_28 ∧ Aside0 (shibbolethlaw19_RfcParts.j1 kq a3 a4 t318 ji14 x17_28 = some r) ∧ Aside0 (kq ≤ kj21) ∧ Aside0 (Below w.heap.size w wc))
                case first =>
                  have H := HC29.out
                  clear HC29
                  by_cases c30 : (Int.tmod a5 2) = 1
                  · rw [if_pos c30] at H
                    have c30b0 : ((Int.tmod a5 2) == 1) = true := beq_iff_eq.mpr c30
                    have c30b1 : ((Int.tmod a5 2) != 1) = false := bne_eq_false_iff_eq.mpr c30
                    clear c30
                    (first | rw [c30b0] | (simp only [i64_w, i32_w]; rw [c30b0]) | skip)
                    by_cases c31 : x17_21.size + 5 ≤ 9223372036854775807
                    · rw [if_pos c31] at H
                      have c31b0 := eq_true c31
                      have c31b1 : decide (x17_21.size + 5 ≤ 9223372036854775807) = true := decide_eq_true c31
                      try have c31b2 : (9223372036854775807 < x17_21.size + 5) = False := eq_false (Nat.not_lt.2 c31)
                      obtain ⟨ji32, hji32⟩ : ∃ j_ : ByteArray, (x17_21 ++ (⟨#[58, 48, 48, 56, 48]⟩ : ByteArray)) = j_ := ⟨_, rfl⟩
                      replace H : (shibbolethlaw19_RfcParts.j1 kj21 a3 a4 t318 ji14 ji32) = some r := by first | (rw [hji32] at H; exact H) | (simp only [hji32] at H ⊢; exact H) | exact H
                      have H' := Aside0.mk H
                      clear H
                      go_wp2
                      go_meet
                      case rel => exact ⟨_, (ji32), (by first | rfl | (simp; done) | (simp only [← hji32] <;> (first | rfl | simp)) | (simp [*]; done)), H', ⟨by have := HJ21.out; first | omega | exact Nat.le_refl _⟩, ⟨by repeat (first | (with_reducible first | exact HB.out | apply below_alloc | apply pw_below_drewN | apply below_drew1) | exact HB.out)⟩⟩
                    · rw [if_neg c31] at H
                      exact absurd H (by simp)
                  · rw [if_neg c30] at H
                    have c30b0 : ((Int.tmod a5 2) == 1) = false := beq_eq_false_iff_ne.mpr c30
                    have c30b1 : ((Int.tmod a5 2) != 1) = true := bne_iff_ne.mpr c30
                    (first | rw [c30b0] | (simp only [i64_w, i32_w]; rw [c30b0]) | skip)
                    have H' := Aside0.mk H
                    clear H
                    go_wp2
                    go_meet
                    case rel => exact ⟨_, (x17_21), (by first | rfl | (simp; done) | (simp [*]; done)), H', ⟨by have := HJ21.out; first | omega | exact Nat.le_refl _⟩, ⟨by repeat (first | (with_reducible first | exact HB.out | apply below_alloc | apply pw_below_drewN | apply below_drew1) | exact HB.out)⟩⟩
                case rest =>
                  clear HC29
                  try clear c1
                  try clear c2
                  try clear p2
                  try clear c3
                  try clear c6
                  try clear p6
                  try clear c8
                  try clear c8b0
                  try clear c11
                  try clear c13
                  try clear c13b0
                  try clear c13b1
                  try clear c13b2
                  try clear c15
                  try clear c16
                  try clear c16b0
                  try clear c16b1
                  try clear c16b2
                  try clear c18
                  try clear c18b0
                  try clear c18b1
                  try clear c18b2
                  try clear c20
                  try clear c20b0
                  try clear c20b1
                  try clear c20b2
                  try clear c26
                  try clear c27
                  try clear c27b0
                  try clear c27b1
                  try clear c27b2
                  try clear c30
                  try clear c30b0
                  try clear c30b1
                  try clear c31
                  try clear c31b0
                  try clear c31b1
                  try clear c31b2
                  try clear p2
                  try clear p6
                  obtain ⟨kq, x17_28, rfl, HA, HJ28, HB⟩ := hcut
                  cases kq with
                  | zero => exact absurd HA.out (by simp [shibbolethlaw19_RfcParts.j1])
                  | succ kj28 =>
                    have H := HA.out
                    clear HA
                    simp only [shibbolethlaw19_RfcParts.j1] at H
                    by_cases c33 : x17_28.size + ji14.size ≤ 9223372036854775807
                    · rw [if_pos c33] at H
                      have c33b0 := eq_true c33
                      have c33b1 : decide (x17_28.size + ji14.size ≤ 9223372036854775807) = true := decide_eq_true c33
                      try have c33b2 : (9223372036854775807 < x17_28.size + ji14.size) = False := eq_false (Nat.not_lt.2 c33)
                      obtain ⟨ji34, hji34⟩ : ∃ j_ : ByteArray, (x17_28 ++ ji14) = j_ := ⟨_, rfl⟩
                      replace H : (if (ji34).size + 1 ≤ 9223372036854775807 then ((shibbolethlaw19_escaped.f a3).bind fun t321 => (if ((ji34) ++ (⟨#[63]⟩ : ByteArray)).size + t321.size ≤ 9223372036854775807 then (if (((ji34) ++ (⟨#[63]⟩ : ByteArray)) ++ t321).size + 3 ≤ 9223372036854775807 then ((shibbolethlaw19_escaped.f a4).bind fun t322 => (if ((((ji34) ++ (⟨#[63]⟩ : ByteArray)) ++ t321) ++ (⟨#[63, 47, 35]⟩ : ByteArray)).size + t322.size ≤ 9223372036854775807 then (if (((((ji34) ++ (⟨#[63]⟩ : ByteArray)) ++ t321) ++ (⟨#[63, 47, 35]⟩ : ByteArray)) ++ t322).size + 2 ≤ 9223372036854775807 then ((rfc_Parse.f kj28 ((((((ji34) ++ (⟨#[63]⟩ : ByteArray)) ++ t321) ++ (⟨#[63, 47, 35]⟩ : ByteArray)) ++ t322) ++ (⟨#[47, 63]⟩ : ByteArray))).bind fun bt323 => ((shibbolethlaw19_took.f t318 ji14).bind fun bt326 => (if (bt323.1 == bt326.1 && (bt323.2.1.toList == bt326.2.1.toList && (bt323.2.2.toList == bt326.2.2.toList))) = true then ((shibbolethlaw19_awake.f kj28).bind fun t329 => (some t329)) else (some false)))) else (none)) else (none))) else (none)) else (none))) else (none)) = some r := by first | (rw [hji34] at H; exact H) | (simp only [hji34] at H ⊢; exact H) | exact H
                      by_cases c35 : (ji34).size + 1 ≤ 9223372036854775807
                      · rw [if_pos c35] at H
                        have c35b0 := eq_true c35
                        have c35b1 : decide ((ji34).size + 1 ≤ 9223372036854775807) = true := decide_eq_true c35
                        try have c35b2 : (9223372036854775807 < (ji34).size + 1) = False := eq_false (Nat.not_lt.2 c35)
                        obtain ⟨ji36, hji36⟩ : ∃ j_ : ByteArray, ((ji34) ++ (⟨#[63]⟩ : ByteArray)) = j_ := ⟨_, rfl⟩
                        replace H : ((shibbolethlaw19_escaped.f a3).bind fun t321 => (if (ji36).size + t321.size ≤ 9223372036854775807 then (if ((ji36) ++ t321).size + 3 ≤ 9223372036854775807 then ((shibbolethlaw19_escaped.f a4).bind fun t322 => (if (((ji36) ++ t321) ++ (⟨#[63, 47, 35]⟩ : ByteArray)).size + t322.size ≤ 9223372036854775807 then (if ((((ji36) ++ t321) ++ (⟨#[63, 47, 35]⟩ : ByteArray)) ++ t322).size + 2 ≤ 9223372036854775807 then ((rfc_Parse.f kj28 (((((ji36) ++ t321) ++ (⟨#[63, 47, 35]⟩ : ByteArray)) ++ t322) ++ (⟨#[47, 63]⟩ : ByteArray))).bind fun bt323 => ((shibbolethlaw19_took.f t318 ji14).bind fun bt326 => (if (bt323.1 == bt326.1 && (bt323.2.1.toList == bt326.2.1.toList && (bt323.2.2.toList == bt326.2.2.toList))) = true then ((shibbolethlaw19_awake.f kj28).bind fun t329 => (some t329)) else (some false)))) else (none)) else (none))) else (none)) else (none))) = some r := by first | (rw [hji36] at H; exact H) | (simp only [hji36] at H ⊢; exact H) | exact H
                        replace H := Option.bind_eq_some_iff.mp H
                        obtain ⟨t321, A370, H⟩ := H
                        replace H : (if (ji36).size + t321.size ≤ 9223372036854775807 then (if ((ji36) ++ t321).size + 3 ≤ 9223372036854775807 then ((shibbolethlaw19_escaped.f a4).bind fun t322 => (if (((ji36) ++ t321) ++ (⟨#[63, 47, 35]⟩ : ByteArray)).size + t322.size ≤ 9223372036854775807 then (if ((((ji36) ++ t321) ++ (⟨#[63, 47, 35]⟩ : ByteArray)) ++ t322).size + 2 ≤ 9223372036854775807 then ((rfc_Parse.f kj28 (((((ji36) ++ t321) ++ (⟨#[63, 47, 35]⟩ : ByteArray)) ++ t322) ++ (⟨#[47, 63]⟩ : ByteArray))).bind fun bt323 => ((shibbolethlaw19_took.f t318 ji14).bind fun bt326 => (if (bt323.1 == bt326.1 && (bt323.2.1.toList == bt326.2.1.toList && (bt323.2.2.toList == bt326.2.2.toList))) = true then ((shibbolethlaw19_awake.f kj28).bind fun t329 => (some t329)) else (some false)))) else (none)) else (none))) else (none)) else (none)) = some r := H
                        have A37 := Aside0.mk A370
                        clear A370
                        by_cases c38 : (ji36).size + t321.size ≤ 9223372036854775807
                        · rw [if_pos c38] at H
                          have c38b0 := eq_true c38
                          have c38b1 : decide ((ji36).size + t321.size ≤ 9223372036854775807) = true := decide_eq_true c38
                          try have c38b2 : (9223372036854775807 < (ji36).size + t321.size) = False := eq_false (Nat.not_lt.2 c38)
                          obtain ⟨ji39, hji39⟩ : ∃ j_ : ByteArray, ((ji36) ++ t321) = j_ := ⟨_, rfl⟩
                          replace H : (if (ji39).size + 3 ≤ 9223372036854775807 then ((shibbolethlaw19_escaped.f a4).bind fun t322 => (if ((ji39) ++ (⟨#[63, 47, 35]⟩ : ByteArray)).size + t322.size ≤ 9223372036854775807 then (if (((ji39) ++ (⟨#[63, 47, 35]⟩ : ByteArray)) ++ t322).size + 2 ≤ 9223372036854775807 then ((rfc_Parse.f kj28 ((((ji39) ++ (⟨#[63, 47, 35]⟩ : ByteArray)) ++ t322) ++ (⟨#[47, 63]⟩ : ByteArray))).bind fun bt323 => ((shibbolethlaw19_took.f t318 ji14).bind fun bt326 => (if (bt323.1 == bt326.1 && (bt323.2.1.toList == bt326.2.1.toList && (bt323.2.2.toList == bt326.2.2.toList))) = true then ((shibbolethlaw19_awake.f kj28).bind fun t329 => (some t329)) else (some false)))) else (none)) else (none))) else (none)) = some r := by first | (rw [hji39] at H; exact H) | (simp only [hji39] at H ⊢; exact H) | exact H
                          (try rw [hji39] at A37)
                          by_cases c40 : (ji39).size + 3 ≤ 9223372036854775807
                          · rw [if_pos c40] at H
                            have c40b0 := eq_true c40
                            have c40b1 : decide ((ji39).size + 3 ≤ 9223372036854775807) = true := decide_eq_true c40
                            try have c40b2 : (9223372036854775807 < (ji39).size + 3) = False := eq_false (Nat.not_lt.2 c40)
                            obtain ⟨ji41, hji41⟩ : ∃ j_ : ByteArray, ((ji39) ++ (⟨#[63, 47, 35]⟩ : ByteArray)) = j_ := ⟨_, rfl⟩
                            replace H : ((shibbolethlaw19_escaped.f a4).bind fun t322 => (if (ji41).size + t322.size ≤ 9223372036854775807 then (if ((ji41) ++ t322).size + 2 ≤ 9223372036854775807 then ((rfc_Parse.f kj28 (((ji41) ++ t322) ++ (⟨#[47, 63]⟩ : ByteArray))).bind fun bt323 => ((shibbolethlaw19_took.f t318 ji14).bind fun bt326 => (if (bt323.1 == bt326.1 && (bt323.2.1.toList == bt326.2.1.toList && (bt323.2.2.toList == bt326.2.2.toList))) = true then ((shibbolethlaw19_awake.f kj28).bind fun t329 => (some t329)) else (some false)))) else (none)) else (none))) = some r := by first | (rw [hji41] at H; exact H) | (simp only [hji41] at H ⊢; exact H) | exact H
                            (try rw [hji41] at A37)
                            replace H := Option.bind_eq_some_iff.mp H
                            obtain ⟨t322, A420, H⟩ := H
                            replace H : (if (ji41).size + t322.size ≤ 9223372036854775807 then (if ((ji41) ++ t322).size + 2 ≤ 9223372036854775807 then ((rfc_Parse.f kj28 (((ji41) ++ t322) ++ (⟨#[47, 63]⟩ : ByteArray))).bind fun bt323 => ((shibbolethlaw19_took.f t318 ji14).bind fun bt326 => (if (bt323.1 == bt326.1 && (bt323.2.1.toList == bt326.2.1.toList && (bt323.2.2.toList == bt326.2.2.toList))) = true then ((shibbolethlaw19_awake.f kj28).bind fun t329 => (some t329)) else (some false)))) else (none)) else (none)) = some r := H
                            have A42 := Aside0.mk A420
                            clear A420
                            by_cases c43 : (ji41).size + t322.size ≤ 9223372036854775807
                            · rw [if_pos c43] at H
                              have c43b0 := eq_true c43
                              have c43b1 : decide ((ji41).size + t322.size ≤ 9223372036854775807) = true := decide_eq_true c43
                              try have c43b2 : (9223372036854775807 < (ji41).size + t322.size) = False := eq_false (Nat.not_lt.2 c43)
                              obtain ⟨ji44, hji44⟩ : ∃ j_ : ByteArray, ((ji41) ++ t322) = j_ := ⟨_, rfl⟩
                              replace H : (if (ji44).size + 2 ≤ 9223372036854775807 then ((rfc_Parse.f kj28 ((ji44) ++ (⟨#[47, 63]⟩ : ByteArray))).bind fun bt323 => ((shibbolethlaw19_took.f t318 ji14).bind fun bt326 => (if (bt323.1 == bt326.1 && (bt323.2.1.toList == bt326.2.1.toList && (bt323.2.2.toList == bt326.2.2.toList))) = true then ((shibbolethlaw19_awake.f kj28).bind fun t329 => (some t329)) else (some false)))) else (none)) = some r := by first | (rw [hji44] at H; exact H) | (simp only [hji44] at H ⊢; exact H) | exact H
                              (try rw [hji44] at A37)
                              (try rw [hji44] at A42)
                              by_cases c45 : (ji44).size + 2 ≤ 9223372036854775807
                              · rw [if_pos c45] at H
                                have c45b0 := eq_true c45
                                have c45b1 : decide ((ji44).size + 2 ≤ 9223372036854775807) = true := decide_eq_true c45
                                try have c45b2 : (9223372036854775807 < (ji44).size + 2) = False := eq_false (Nat.not_lt.2 c45)
                                obtain ⟨ji46, hji46⟩ : ∃ j_ : ByteArray, ((ji44) ++ (⟨#[47, 63]⟩ : ByteArray)) = j_ := ⟨_, rfl⟩
                                replace H : ((rfc_Parse.f kj28 (ji46)).bind fun bt323 => ((shibbolethlaw19_took.f t318 ji14).bind fun bt326 => (if (bt323.1 == bt326.1 && (bt323.2.1.toList == bt326.2.1.toList && (bt323.2.2.toList == bt326.2.2.toList))) = true then ((shibbolethlaw19_awake.f kj28).bind fun t329 => (some t329)) else (some false)))) = some r := by first | (rw [hji46] at H; exact H) | (simp only [hji46] at H ⊢; exact H) | exact H
                                (try rw [hji46] at A37)
                                (try rw [hji46] at A42)
                                replace H := Option.bind_eq_some_iff.mp H
                                obtain ⟨⟨t323, t324, t325⟩, A470, H⟩ := H
                                replace H : ((shibbolethlaw19_took.f t318 ji14).bind fun bt326 => (if (t323 == bt326.1 && (t324.toList == bt326.2.1.toList && (t325.toList == bt326.2.2.toList))) = true then ((shibbolethlaw19_awake.f kj28).bind fun t329 => (some t329)) else (some false))) = some r := H
                                have A47 := Aside0.mk A470
                                clear A470
                                replace H := Option.bind_eq_some_iff.mp H
                                obtain ⟨⟨t326, t327, t328⟩, A480, H⟩ := H
                                replace H : (if (t323 == t326 && (t324.toList == t327.toList && (t325.toList == t328.toList))) = true then ((shibbolethlaw19_awake.f kj28).bind fun t329 => (some t329)) else (some false)) = some r := H
                                have A48 := Aside0.mk A480
                                clear A480
                                by_cases c49 : (t323 == t326 && (t324.toList == t327.toList && (t325.toList == t328.toList))) = true
                                · rw [if_pos c49] at H
                                  have c49b0 : (t323 == t326 && (t324.toList == t327.toList && (t325.toList == t328.toList))) = true := c49
                                  (try (have c49b1 : decide (t323 = t326 && (t324.toList == t327.toList && (t325.toList == t328.toList))) = true := by simpa using c49))
                                  (try (have c49b2 : (t323 == t326 && (t324.toList == t327.toList && (t325.toList == t328.toList))) = true := by simpa using c49))
                                  clear c49
                                  replace H := Option.bind_eq_some_iff.mp H
                                  obtain ⟨t329, A500, H⟩ := H
                                  replace H : (some t329) = some r := H
                                  have A50 := Aside0.mk A500
                                  clear A500
                                  obtain rfl := Option.some.inj H
                                  go_wp2_with (first | ((with_reducible refine gate_callee (f := 15) rfl ?_); refine goesL_ (some 58) rfl rfl Try.func15 (by kernel_rfl) rfl #[.string a3] rfl (by (try simp only [List.map_toArray, List.map_cons, List.map_nil]); first | done | rfl | (simp only [List.length_drop, List.length_take]; rfl)) ?_; (with_reducible refine (shibbolethlaw19_escaped.calls a3 t321 _ A37.out).mono ?_); rintro e w51 ⟨rfl, hb⟩; refine ⟨_, rfl, ?_⟩; have n0_ := Aside0.mk (below_step (by repeat (first | (with_reducible first | exact HB.out | apply below_alloc | apply pw_below_drewN | apply below_drew1) | exact HB.out)) hb); clear HB; have HB := n0_; clear n0_; (try clear hb); (try clear hb2); (try clear hk); (try clear hi)) | ((with_reducible refine gate_callee (f := 15) rfl ?_); refine goesL_ (some 62) rfl rfl Try.func15 (by kernel_rfl) rfl #[.string a4] rfl (by (try simp only [List.map_toArray, List.map_cons, List.map_nil]); first | done | rfl | (simp only [List.length_drop, List.length_take]; rfl)) ?_; (with_reducible refine (shibbolethlaw19_escaped.calls a4 t322 _ A42.out).mono ?_); rintro e w52 ⟨rfl, hb⟩; refine ⟨_, rfl, ?_⟩; have n0_ := Aside0.mk (below_step (by repeat (first | (with_reducible first | exact HB.out | apply below_alloc | apply pw_below_drewN | apply below_drew1) | exact HB.out)) hb); clear HB; have HB := n0_; clear n0_; (try clear hb); (try clear hb2); (try clear hk); (try clear hi)) | ((with_reducible refine gate_callee (f := 9) rfl ?_); refine goesL_ (some 66) rfl rfl Try.func9 (by kernel_rfl) rfl #[.string ji46] rfl (by (try simp only [List.map_toArray, List.map_cons, List.map_nil]); first | done | (simp only [hji46]; rfl) | rfl | (simp only [List.length_drop, List.length_take]; rfl)) ?_; (with_reducible refine (rfc_Parse.calls kj28 ji46 t323 t324 t325 _ A47.out).mono ?_); rintro e w53 ⟨rfl, hb⟩; refine ⟨_, rfl, ?_⟩; have n0_ := Aside0.mk (below_step (by repeat (first | (with_reducible first | exact HB.out | apply below_alloc | apply pw_below_drewN | apply below_drew1) | exact HB.out)) hb); clear HB; have HB := n0_; clear n0_; (try clear hb); (try clear hb2); (try clear hk); (try clear hi)) | ((with_reducible refine gate_callee (f := 8) rfl ?_); refine goesL_ (some 69) rfl rfl Try.func8 (by kernel_rfl) rfl #[.string t318, .string ji14] rfl (by (try simp only [List.map_toArray, List.map_cons, List.map_nil]); first | done | (simp only [hji14]; rfl) | rfl | (simp only [List.length_drop, List.length_take]; rfl)) ?_; (with_reducible refine (shibbolethlaw19_took.calls t318 ji14 t326 t327 t328 _ A48.out).mono ?_); rintro e w54 ⟨rfl, hb⟩; refine ⟨_, rfl, ?_⟩; have n0_ := Aside0.mk (below_step (by repeat (first | (with_reducible first | exact HB.out | apply below_alloc | apply pw_below_drewN | apply below_drew1) | exact HB.out)) hb); clear HB; have HB := n0_; clear n0_; (try clear hb); (try clear hb2); (try clear hk); (try clear hi)) | (go_at_call 11; (with_reducible refine (shibbolethlaw19_awake.calls kj28  t329 _ A50.out).mono ?_); rintro e w55 ⟨rfl, hb⟩; have n0_ := Aside0.mk (below_step (by repeat (first | (with_reducible first | exact HB.out | apply below_alloc | apply pw_below_drewN | apply below_drew1) | exact HB.out)) hb); clear HB; have HB := n0_; clear n0_; (try clear hb); (try clear hb2); (try clear hk); (try clear hi)))
                                  go_ret
                                  exact ⟨by first | rfl | (simp [errW_none, errW_some] <;> rfl) | (simp only [← hji14, ← hji17, ← hji19, ← hji21, ← hji34, ← hji36, ← hji39, ← hji41, ← hji44, ← hji46]; first | rfl | (simp [errW_none, errW_some] <;> rfl)) | (simp [*, errW_none, errW_some] <;> rfl), by repeat (first | (with_reducible first | exact HB.out | apply below_alloc | apply pw_below_drewN | apply below_drew1) | exact HB.out)⟩
                                · rw [if_neg c49] at H
                                  have c49b0 : (t323 == t326 && (t324.toList == t327.toList && (t325.toList == t328.toList))) = false := by simpa using c49
                                  (try (have c49b1 : decide (t323 = t326 && (t324.toList == t327.toList && (t325.toList == t328.toList))) = false := by simpa using c49))
                                  (try (have c49b2 : (t323 == t326 && (t324.toList == t327.toList && (t325.toList == t328.toList))) = false := by simpa using c49))
                                  (try (have c49b3 : ¬ (t323 = t326 && (t324.toList == t327.toList && (t325.toList == t328.toList))) := by simpa using c49))
                                  clear c49
                                  obtain rfl := Option.some.inj H
                                  go_wp2_with (first | ((with_reducible refine gate_callee (f := 15) rfl ?_); refine goesL_ (some 58) rfl rfl Try.func15 (by kernel_rfl) rfl #[.string a3] rfl (by (try simp only [List.map_toArray, List.map_cons, List.map_nil]); first | done | rfl | (simp only [List.length_drop, List.length_take]; rfl)) ?_; (with_reducible refine (shibbolethlaw19_escaped.calls a3 t321 _ A37.out).mono ?_); rintro e w56 ⟨rfl, hb⟩; refine ⟨_, rfl, ?_⟩; have n0_ := Aside0.mk (below_step (by repeat (first | (with_reducible first | exact HB.out | apply below_alloc | apply pw_below_drewN | apply below_drew1) | exact HB.out)) hb); clear HB; have HB := n0_; clear n0_; (try clear hb); (try clear hb2); (try clear hk); (try clear hi)) | ((with_reducible refine gate_callee (f := 15) rfl ?_); refine goesL_ (some 62) rfl rfl Try.func15 (by kernel_rfl) rfl #[.string a4] rfl (by (try simp only [List.map_toArray, List.map_cons, List.map_nil]); first | done | rfl | (simp only [List.length_drop, List.length_take]; rfl)) ?_; (with_reducible refine (shibbolethlaw19_escaped.calls a4 t322 _ A42.out).mono ?_); rintro e w57 ⟨rfl, hb⟩; refine ⟨_, rfl, ?_⟩; have n0_ := Aside0.mk (below_step (by repeat (first | (with_reducible first | exact HB.out | apply below_alloc | apply pw_below_drewN | apply below_drew1) | exact HB.out)) hb); clear HB; have HB := n0_; clear n0_; (try clear hb); (try clear hb2); (try clear hk); (try clear hi)) | ((with_reducible refine gate_callee (f := 9) rfl ?_); refine goesL_ (some 66) rfl rfl Try.func9 (by kernel_rfl) rfl #[.string ji46] rfl (by (try simp only [List.map_toArray, List.map_cons, List.map_nil]); first | done | (simp only [hji46]; rfl) | rfl | (simp only [List.length_drop, List.length_take]; rfl)) ?_; (with_reducible refine (rfc_Parse.calls kj28 ji46 t323 t324 t325 _ A47.out).mono ?_); rintro e w58 ⟨rfl, hb⟩; refine ⟨_, rfl, ?_⟩; have n0_ := Aside0.mk (below_step (by repeat (first | (with_reducible first | exact HB.out | apply below_alloc | apply pw_below_drewN | apply below_drew1) | exact HB.out)) hb); clear HB; have HB := n0_; clear n0_; (try clear hb); (try clear hb2); (try clear hk); (try clear hi)) | ((with_reducible refine gate_callee (f := 8) rfl ?_); refine goesL_ (some 69) rfl rfl Try.func8 (by kernel_rfl) rfl #[.string t318, .string ji14] rfl (by (try simp only [List.map_toArray, List.map_cons, List.map_nil]); first | done | (simp only [hji14]; rfl) | rfl | (simp only [List.length_drop, List.length_take]; rfl)) ?_; (with_reducible refine (shibbolethlaw19_took.calls t318 ji14 t326 t327 t328 _ A48.out).mono ?_); rintro e w59 ⟨rfl, hb⟩; refine ⟨_, rfl, ?_⟩; have n0_ := Aside0.mk (below_step (by repeat (first | (with_reducible first | exact HB.out | apply below_alloc | apply pw_below_drewN | apply below_drew1) | exact HB.out)) hb); clear HB; have HB := n0_; clear n0_; (try clear hb); (try clear hb2); (try clear hk); (try clear hi)))
                                  go_ret
                                  exact ⟨by first | rfl | (simp [errW_none, errW_some] <;> rfl) | (simp only [← hji14, ← hji17, ← hji19, ← hji21, ← hji34, ← hji36, ← hji39, ← hji41, ← hji44, ← hji46]; first | rfl | (simp [errW_none, errW_some] <;> rfl)) | (simp [*, errW_none, errW_some] <;> rfl), by repeat (first | (with_reducible first | exact HB.out | apply below_alloc | apply pw_below_drewN | apply below_drew1) | exact HB.out)⟩
                              · rw [if_neg c45] at H
                                exact absurd H (by simp)
                            · rw [if_neg c43] at H
                              exact absurd H (by simp)
                          · rw [if_neg c40] at H
                            exact absurd H (by simp)
                        · rw [if_neg c38] at H
                          exact absurd H (by simp)
                      · rw [if_neg c35] at H
                        exact absurd H (by simp)
                    · rw [if_neg c33] at H
                      exact absurd H (by simp)
          · rw [if_neg c20] at H
            exact absurd H (by simp)
        · rw [if_neg c18] at H
          exact absurd H (by simp)
      · rw [if_neg c16] at H
        exact absurd H (by simp)
    · rw [if_neg c13] at H
      exact absurd H (by simp)

/-- THE ONE PURE STATEMENT of shibbolethlaw19_RfcParts: yours. -/
def shibbolethlaw19_RfcParts.Pure : Prop := ∀ (a0 : ByteArray) (a1 : ByteArray) (a2 : ByteArray) (a3 : ByteArray) (a4 : ByteArray) (a5 : Int) (a6 : Bool), a0.size ≤ 140737488351232 → a1.size ≤ 140737488351232 → a2.size ≤ 140737488351232 → a3.size ≤ 140737488351232 → a4.size ≤ 140737488351232 → (Lit.int .u16 a5).wf = true → ∃ k, shibbolethlaw19_RfcParts.f k a0 a1 a2 a3 a4 a5 a6 = some true
theorem shibbolethlaw19_RfcParts.walk (P : shibbolethlaw19_RfcParts.Pure) (a0 : ByteArray) (a1 : ByteArray) (a2 : ByteArray) (a3 : ByteArray) (a4 : ByteArray) (a5 : Int) (a6 : Bool) (w : World) (w0 : a0.size ≤ 140737488351232) (w1 : a1.size ≤ 140737488351232) (w2 : a2.size ≤ 140737488351232) (w3 : a3.size ≤ 140737488351232) (w4 : a4.size ≤ 140737488351232) (w5 : (Lit.int .u16 a5).wf = true) :
    Calls Try.prog 6 #[.string a0, .string a1, .string a2, .string a3, .string a4, .int .u16 a5, .bool a6] w fun e w' => e = .returned (.bool true) ∧ Below w.heap.size w w' := by
  obtain ⟨k, h⟩ := P a0 a1 a2 a3 a4 a5 a6 w0 w1 w2 w3 w4 w5
  refine (shibbolethlaw19_RfcParts.calls k a0 a1 a2 a3 a4 a5 a6 true w h).mono ?_
  rintro e w' ⟨rfl, hd⟩
  exact ⟨rfl, hd⟩

end Go.Proofs.Ytiihgddpejmehaa.ZA

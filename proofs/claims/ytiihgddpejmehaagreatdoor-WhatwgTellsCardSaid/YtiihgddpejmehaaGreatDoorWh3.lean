/- What the document's answer of layer 18 tells, in the same lists' words. -/
import Derived.Test.YtiihgddpejmehaaGreatDoorWh2
import Derived.Lib.MapLaws
import Derived.Lib.TrimAscii
import Derived.Test.YtiihgddpejmehaaGreatDoorZA10
import Derived.Test.YtiihgddpejmehaaGreatDoorZA11
import Derived.Test.YtiihgddpejmehaaGreatDoorZA12
import Derived.Test.YtiihgddpejmehaaGreatDoorZA13
import Derived.Test.YtiihgddpejmehaaGreatDoorZA9
namespace Go.Proofs.YtiihgddpejmehaaGreatDoor.Wh
open Go.RowKit Go.Proofs.YtiihgddpejmehaaGreatDoorW.PrintWords Go.Proofs.YtiihgddpejmehaaGreatDoor.L Go.Proofs.YtiihgddpejmehaaGreatDoor.Str Go.Proofs.YtiihgddpejmehaaGreatDoor.ZA

/-! bytes -/
theorem rLetter_eq (c : UInt8) : shibbolethref18_Letter.f (c.toNat : Int) = some (letterB c) := by
  have h := all_bytes (p := fun n => shibbolethref18_Letter.f (n : Int) == some ((decide (97 ≤ n) && decide (n ≤ 122)) || (decide (65 ≤ n) && decide (n ≤ 90)))) (by kernel_rfl) c
  exact eq_of_beq h
theorem rDigit_eq (c : UInt8) : shibbolethref18_Digit.f (c.toNat : Int) = some (digitB c) := by
  have h := all_bytes (p := fun n => shibbolethref18_Digit.f (n : Int) == some (decide (48 ≤ n) && decide (n ≤ 57))) (by kernel_rfl) c
  exact eq_of_beq h
theorem rValue_ev (c : UInt8) (k : Nat) (hk : 40 ≤ k) : ∃ v : Int, shibbolethref03_Value.f k (c.toNat : Int) = some v ∧ (v ≥ 0 ↔ hexB c = true) := by
  have h := all_bytes (p := fun n => (match shibbolethref03_Value.f 40 (n : Int) with | some v => decide (v ≥ 0) == ((decide (48 ≤ n) && decide (n ≤ 57)) || (decide (97 ≤ n) && decide (n ≤ 102)) || (decide (65 ≤ n) && decide (n ≤ 70))) | none => false)) (by kernel_rfl) c
  cases hv : shibbolethref03_Value.f 40 (c.toNat : Int) with
  | none => rw [hv] at h; cases h
  | some v =>
    rw [hv] at h
    have h2 : decide (v ≥ 0) = hexB c := eq_of_beq h
    refine ⟨v, at_rounds (g := fun k => shibbolethref03_Value.f k (c.toNat : Int)) (fun k v h => shibbolethref03_Value.mono _ k v h) hk hv, ?_⟩
    rw [← h2]
    simp
theorem byte_imp {p q : UInt8 → Bool} (h : ((List.range 256).all fun n => !(p (UInt8.ofNat n)) || q (UInt8.ofNat n)) = true) (c : UInt8) (hc : p c = true) : q c = true := by
  have h5 := all_bytes (p := fun n => !(p (UInt8.ofNat n)) || q (UInt8.ofNat n)) h c
  rw [UInt8.ofNat_toNat, hc] at h5
  exact h5
theorem scheme_no58 (c : UInt8) (h : schemeB c = true) : (!(c == 58)) = true := byte_imp (p := schemeB) (q := fun c => !(c == 58)) (by kernel_rfl) c h

/-! one of some; the first of some -/
theorem In_l0 (c : UInt8) (m : List UInt8) (hm : Sm m) : ∀ (d i k : Nat), i + d = m.length → d < k → shibbolethref18_In.l0 k (S m) (c.toNat : Int) (i : Int) = some ((m.drop i).contains c)
  | 0, i, k, h, hk => by
    obtain ⟨k, rfl⟩ : ∃ m, k = m + 1 := ⟨k - 1, by omega⟩
    rw [shibbolethref18_In.l0, if_neg (by rw [S_size]; omega), List.drop_of_length_le (by omega)]
    rfl
  | d + 1, i, k, h, hk => by
    obtain ⟨k, rfl⟩ : ∃ m, k = m + 1 := ⟨k - 1, by omega⟩
    have hlt : i < m.length := by omega
    have hd : m.drop i = m[i] :: m.drop (i + 1) := List.drop_eq_getElem_cons hlt
    rw [shibbolethref18_In.l0, if_pos (by rw [S_size]; omega), if_pos (by omega), bt_S m i hlt, wrap_succ i (by unfold Sm at hm; omega), hd, List.contains_cons]
    by_cases hc : m[i] = c
    · rw [if_pos (by rw [hc]), hc]
      simp
    · have hc2 : ¬ ((m[i].toNat : Int) = (c.toNat : Int)) := fun h => hc (UInt8.toNat_inj.1 (by omega))
      have hc3 : (c == m[i]) = false := by rw [beq_eq_false_iff_ne]; exact fun h => hc h.symm
      rw [if_neg hc2, In_l0 c m hm d (i + 1) k (by omega) (by omega), hc3, Bool.false_or]
theorem In_ev (c : UInt8) (m : List UInt8) (hm : Sm m) (k : Nat) (hk : m.length < k) : shibbolethref18_In.f k (S m) (c.toNat : Int) = some (m.contains c) := by
  have := In_l0 c m hm m.length 0 k (by omega) hk
  rwa [List.drop_zero] at this
theorem First_l0 (l m : List UInt8) (hl : Sm l) (hm : Sm m) : ∀ (d i k : Nat), i + d = l.length → d + m.length + 1 < k → shibbolethref18_First.l0 k (S l) (S m) (i : Int) = some ((i + fi (fun c => m.contains c) (l.drop i) : Nat) : Int)
  | 0, i, k, h, hk => by
    obtain ⟨k, rfl⟩ : ∃ m, k = m + 1 := ⟨k - 1, by omega⟩
    rw [shibbolethref18_First.l0, if_neg (by rw [S_size]; omega), List.drop_of_length_le (by omega)]
    simp [S_size]
    omega
  | d + 1, i, k, h, hk => by
    obtain ⟨k, rfl⟩ : ∃ m, k = m + 1 := ⟨k - 1, by omega⟩
    have hlt : i < l.length := by omega
    have hd : l.drop i = l[i] :: l.drop (i + 1) := List.drop_eq_getElem_cons hlt
    rw [shibbolethref18_First.l0, if_pos (by rw [S_size]; omega), if_pos (by omega), bt_S l i hlt, In_ev _ m hm k (by omega), wrap_succ i (by unfold Sm at hl; omega), hd]
    simp only [Option.bind_some]
    by_cases hc : m.contains l[i] = true
    · rw [if_pos hc]
      simp only [fi, List.findIdx_cons, hc, cond_true, Nat.add_zero]
    · have hc2 : m.contains l[i] = false := Bool.eq_false_iff.2 hc
      rw [if_neg hc, First_l0 l m hl hm d (i + 1) k (by omega) (by omega)]
      simp only [fi, List.findIdx_cons, hc2, cond_false]
      congr 1; omega
theorem First_ev (l m : List UInt8) (hl : Sm l) (hm : Sm m) (i k : Nat) (hi : i ≤ l.length) (hk : l.length + m.length + 1 < k) : shibbolethref18_First.f k (S l) (i : Int) (S m) = some ((i + fi (fun c => m.contains c) (l.drop i) : Nat) : Int) :=
  First_l0 l m hl hm (l.length - i) i k (by omega) (by omega)

/-! the text -/
theorem strip_snoc_blank (p : List UInt8) (c : UInt8) (h : blank c = true) : trimL (p ++ [c]) = trimL p := by
  unfold trimL
  rw [List.dropWhile_append]
  split
  · rename_i he
    have : [c].dropWhile blank = [] := by rw [List.dropWhile_cons, if_pos h]; rfl
    rw [this]
    have e : p.dropWhile blank = [] := by simpa using he
    rw [e]
  · rw [List.reverse_append]
    show ((c :: (p.dropWhile blank).reverse).dropWhile blank).reverse = _
    rw [List.dropWhile_cons, if_pos h]
theorem strip_snoc_solid (p : List UInt8) (c : UInt8) (h : blank c = false) : trimL (p ++ [c]) = p.dropWhile blank ++ [c] := by
  have e : (p ++ [c]).dropWhile blank = p.dropWhile blank ++ [c] := by
    rw [List.dropWhile_append]
    split
    · rename_i he
      have e : p.dropWhile blank = [] := by simpa using he
      rw [e, List.dropWhile_cons, if_neg (by rw [h]; decide), List.nil_append]
    · rfl
  unfold trimL
  rw [e, List.reverse_append]
  show ((c :: (p.dropWhile blank).reverse).dropWhile blank).reverse = _
  rw [List.dropWhile_cons, if_neg (by rw [h]; decide)]
  simp
theorem drop_take_snoc (s : List UInt8) (f i : Nat) (hi : i < s.length) (hf : f ≤ i) : (s.take (i + 1)).drop f = (s.take i).drop f ++ [s[i]] := by
  rw [List.take_succ_eq_append_getElem hi, List.drop_append_of_le_length (by rw [List.length_take]; omega)]
theorem rText_l1 (s : List UInt8) (hs : Sm s) (t : Nat) (ht : t ≤ s.length) : ∀ (d i k : Nat) (o : List UInt8), i + d = t → o.length ≤ i → d < k → shibbolethref18_Text.l1 k (S s) (t : Int) (S o) (i : Int) = some (S (o ++ ((s.take t).drop i).filter keep))
  | 0, i, k, o, h, ho, hk => by
    obtain ⟨k, rfl⟩ : ∃ m, k = m + 1 := ⟨k - 1, by omega⟩
    rw [shibbolethref18_Text.l1, if_neg (by omega), List.drop_of_length_le (by rw [List.length_take]; omega)]
    simp
  | d + 1, i, k, o, h, ho, hk => by
    obtain ⟨k, rfl⟩ : ∃ m, k = m + 1 := ⟨k - 1, by omega⟩
    have hlt : i < s.length := by omega
    have hd : (s.take t).drop i = s[i] :: (s.take t).drop (i + 1) := by
      have h1 : i < (s.take t).length := by simp; omega
      rw [List.drop_eq_getElem_cons h1, List.getElem_take]
    have hsz := hs
    unfold Sm at hsz
    have hx : (S s).extract i (i + 1) = S [s[i]] := by
      rw [S_extract]
      congr 1
      rw [show i + 1 - i = 1 from by omega, List.drop_eq_getElem_cons hlt]
      rfl
    have h9 : (9 : UInt8).toNat = 9 := rfl
    have h10 : (10 : UInt8).toNat = 10 := rfl
    have h13 : (13 : UInt8).toNat = 13 := rfl
    rw [shibbolethref18_Text.l1, if_pos (by omega), if_pos (by omega), if_pos (by rw [S_size]; omega), bt_S s i hlt, wrap_succ i (by omega), hd, List.filter_cons]
    have ihs := rText_l1 s hs t ht d (i + 1) k o (by omega) (by omega) (by omega)
    by_cases a : s[i] = 9
    · rw [if_pos (by rw [a]; rfl), if_neg (by rw [a]; decide), ihs]
    · rw [if_neg (fun h => a ((eqNat _ _).2 (by omega)))]
      by_cases b : s[i] = 10
      · rw [if_pos (by rw [b]; rfl), if_neg (by rw [b]; decide), ihs]
      · rw [if_neg (fun h => b ((eqNat _ _).2 (by omega)))]
        by_cases e : s[i] = 13
        · rw [if_pos (by rw [e]; rfl), if_neg (by rw [e]; decide), ihs]
        · have hkp : keep s[i] = true := by unfold keep; simp [a, b, e]
          rw [if_neg (fun h => e ((eqNat _ _).2 (by omega))), if_pos (by omega), if_pos (by rw [S_size]; omega), Int.toNat_natCast, Int.toNat_natCast, hx, if_pos (by rw [S_size, S_size, List.length_singleton]; omega), S_append, if_pos hkp,
            rText_l1 s hs t ht d (i + 1) k (o ++ [s[i]]) (by omega) (by simp; omega) (by omega), List.append_assoc]
          rfl
structure At (s : List UInt8) (i f t : Nat) : Prop where
  le : t ≤ i
  cut : (s.take t).drop f = trimL (s.take i)
  lead : (f = s.length ∧ t = 0 ∧ (s.take i).dropWhile blank = []) ∨ (f < i ∧ f < t ∧ (s.take i).dropWhile blank = (s.take i).drop f)
theorem rText_l0 (s : List UInt8) (hs : Sm s) : ∀ (d i k f t : Nat), i + d = s.length → At s i f t → d + s.length + 1 < k → shibbolethref18_Text.l0 k (S s) (f : Int) (t : Int) (i : Int) = some (S (textL s))
  | 0, i, k, f, t, h, ha, hk => by
    obtain ⟨k, rfl⟩ : ∃ m, k = m + 1 := ⟨k - 1, by omega⟩
    have hle := ha.le
    have hc := ha.cut
    rw [shibbolethref18_Text.l0, if_neg (by rw [S_size]; omega)]
    rw [List.take_of_length_le (show s.length ≤ i by omega)] at hc
    rcases ha.lead with ⟨h1, h2, h3⟩ | ⟨h1, h2, h3⟩
    · subst h2
      obtain ⟨k, rfl⟩ : ∃ m, k = m + 1 := ⟨k - 1, by omega⟩
      rw [textL_eq, ← hc, shibbolethref18_Text.l1, if_neg (by omega)]
      simp
      rfl
    · have := rText_l1 s hs t (by omega) (t - f) f k [] (by omega) (by simp) (by omega)
      rw [textL_eq, ← hc]
      exact this
  | d + 1, i, k, f, t, h, ha, hk => by
    obtain ⟨k, rfl⟩ : ∃ m, k = m + 1 := ⟨k - 1, by omega⟩
    have hle := ha.le
    have hc := ha.cut
    have hlt : i < s.length := by omega
    have hsz := hs
    unfold Sm at hsz
    have e : s.take (i + 1) = s.take i ++ [s[i]] := List.take_succ_eq_append_getElem hlt
    have hli : (s.take i).length = i := by rw [List.length_take]; omega
    rw [shibbolethref18_Text.l0, if_pos (by rw [S_size]; omega), if_pos (by omega), bt_S s i hlt, wrap_succ i (by omega)]
    by_cases hb : blank s[i] = true
    · have h32 : s[i].toNat ≤ 32 := of_decide_eq_true hb
      rw [if_neg (by omega)]
      refine rText_l0 s hs d (i + 1) k f t (by omega) ⟨by omega, ?_, ?_⟩ (by omega)
      · rw [hc, e, strip_snoc_blank _ _ hb]
      · rcases ha.lead with ⟨h1, h2, h3⟩ | ⟨h1, h2, h3⟩
        · refine .inl ⟨h1, h2, ?_⟩
          rw [e, List.dropWhile_append, h3]
          simp [hb]
        · refine .inr ⟨by omega, h2, ?_⟩
          rw [drop_take_snoc s f i hlt (by omega), ← h3, e, List.dropWhile_append]
          have hne : (s.take i).dropWhile blank ≠ [] := by
            rw [h3]; intro h0
            have := congrArg List.length h0
            rw [List.length_drop, hli, List.length_nil] at this; omega
          rw [if_neg (by simpa using hne)]
    · have hbf : blank s[i] = false := Bool.eq_false_iff.2 hb
      have h32 : ¬ s[i].toNat ≤ 32 := of_decide_eq_false hbf
      rw [if_pos (by omega)]
      rcases ha.lead with ⟨h1, h2, h3⟩ | ⟨h1, h2, h3⟩
      · rw [if_pos (by omega)]
        refine rText_l0 s hs d (i + 1) k i (i + 1) (by omega) ⟨by omega, ?_, .inr ⟨by omega, by omega, ?_⟩⟩ (by omega)
        · rw [drop_take_snoc s i i hlt (Nat.le_refl _), e, strip_snoc_solid _ _ hbf, h3, List.drop_of_length_le (by omega)]
        · rw [drop_take_snoc s i i hlt (Nat.le_refl _), e, List.dropWhile_append, h3, List.drop_of_length_le (by omega)]
          simp [hbf]
      · rw [if_neg (by omega)]
        refine rText_l0 s hs d (i + 1) k f (i + 1) (by omega) ⟨by omega, ?_, .inr ⟨by omega, by omega, ?_⟩⟩ (by omega)
        · rw [drop_take_snoc s f i hlt (by omega), e, strip_snoc_solid _ _ hbf, h3]
        · rw [drop_take_snoc s f i hlt (by omega), ← h3, e, List.dropWhile_append]
          have hne : (s.take i).dropWhile blank ≠ [] := by
            rw [h3]; intro h0
            have := congrArg List.length h0
            rw [List.length_drop, hli, List.length_nil] at this; omega
          rw [if_neg (by simpa using hne)]
theorem rText_ev (s : List UInt8) (hs : Sm s) (k : Nat) (hk : 2 * s.length + 1 < k) : shibbolethref18_Text.f k (S s) = some (S (textL s)) := by
  have := rText_l0 s hs s.length 0 k s.length 0 (by omega) ⟨by omega, by simp [trimL], .inl ⟨rfl, rfl, by simp⟩⟩ (by omega)
  exact this

/-! the scheme -/
def schemeN (s : List UInt8) : Int := if (schemeL s).2.2 = true then (((schemeL s).1.length : Nat) : Int) else -1
theorem schemeN_bad {s : List UInt8} (h : ¬ (s.contains 58 = true ∧ okScheme (s.takeWhile fun x => !(x == 58)) = true)) : schemeN s = -1 := by
  unfold schemeN schemeL cutL
  rw [if_neg h]
  simp
theorem rScheme_l0 (s : List UInt8) (hs : Sm s) : ∀ (d i k : Nat), i + d = s.length → d * 2 + 1 < k → (s.take i).all schemeB = true → (∀ x t, s = x :: t → 0 < i → letterB x = true) →
    shibbolethref18_Scheme.l0 k (S s) (i : Int) = some (schemeN s)
  | 0, i, k, h, hk, ha, hx => by
    obtain ⟨k, rfl⟩ : ∃ m, k = m + 1 := ⟨k - 1, by omega⟩
    rw [shibbolethref18_Scheme.l0, if_neg (by rw [S_size]; omega), schemeN_bad]
    rintro ⟨h1, _⟩
    rw [List.take_of_length_le (by omega)] at ha
    have := scheme_no58 58 (List.all_eq_true.1 ha 58 (by simpa using h1))
    simp at this
  | d + 1, i, k, h, hk, ha, hx => by
    obtain ⟨k, rfl⟩ : ∃ m, k = m + 2 := ⟨k - 2, by omega⟩
    have hlt : i < s.length := by omega
    have hsz := hs
    unfold Sm at hsz
    have es : s = s.take i ++ s[i] :: s.drop (i + 1) := by
      rw [← List.drop_eq_getElem_cons hlt, List.take_append_drop]
    have hno : ∀ c ∈ s.take i, (fun x : UInt8 => !(x == 58)) c = true := fun c hc => scheme_no58 c (List.all_eq_true.1 ha c hc)
    have hli : (s.take i).length = i := by rw [List.length_take]; omega
    have h58 : (58 : UInt8).toNat = 58 := rfl
    have h43 : (43 : UInt8).toNat = 43 := rfl
    have h45 : (45 : UInt8).toNat = 45 := rfl
    have h46 : (46 : UInt8).toNat = 46 := rfl
    have hnext : schemeB s[i] = true → letterB s[i] = true ∨ 0 < i → shibbolethref18_Scheme.l0 k (S s) (wrap64 ((i : Int) + 1)) = some (schemeN s) := by
      intro hS hL
      rw [wrap_succ i (by omega)]
      refine rScheme_l0 s hs d (i + 1) k (by omega) (by omega) ?_ ?_
      · rw [List.take_succ_eq_append_getElem hlt, List.all_append, ha, List.all_cons, hS]; rfl
      · intro x t e _
        rcases Nat.eq_zero_or_pos i with h0 | h0
        · subst h0
          have : s[0] = x := by simp [e]
          rw [← this]
          rcases hL with hL | hL
          · exact hL
          · omega
        · exact hx x t e h0
    have hnl : (s[i].toNat : Int) ≠ 58 → ∀ b, b = false → shibbolethref18_Scheme.j1 (k + 1) (S s) (i : Int) (s[i].toNat : Int) b = some (schemeN s) := by
      intro hne b hb
      subst hb
      have hnc : (!(s[i] == 58)) = true := by
        have : s[i] ≠ 58 := fun h => hne (by rw [h]; rfl)
        simp [this]
      have htw : ¬ schemeB s[i] = true → schemeN s = -1 := by
        intro hS
        refine schemeN_bad ?_
        rintro ⟨_, h2⟩
        have e1 : s.takeWhile (fun x => !(x == 58)) = s.take i ++ s[i] :: (s.drop (i + 1)).takeWhile fun x => !(x == 58) := by
          conv => lhs; rw [es]
          rw [List.takeWhile_append_of_pos hno, List.takeWhile_cons, if_pos hnc]
        rw [e1] at h2
        have hall : (s.take i ++ s[i] :: (s.drop (i + 1)).takeWhile fun x => !(x == 58)).all schemeB = true := by
          revert h2
          cases (s.take i ++ s[i] :: (s.drop (i + 1)).takeWhile fun x => !(x == 58)) with
          | nil => intro _; rfl
          | cons x t => intro h2; unfold okScheme at h2; rw [Bool.and_eq_true] at h2; exact h2.2
        exact hS (List.all_eq_true.1 hall s[i] (by simp))
      have hz : i = 0 → ¬ letterB s[i] = true → schemeN s = -1 := by
        intro h0 hL
        subst h0
        refine schemeN_bad ?_
        rintro ⟨_, h2⟩
        have e1 : s.takeWhile (fun x => !(x == 58)) = s[0] :: (s.drop 1).takeWhile fun x => !(x == 58) := by
          conv => lhs; rw [es]
          rw [List.take_zero, List.nil_append, List.takeWhile_cons, if_pos hnc]
        rw [e1] at h2
        unfold okScheme at h2
        rw [Bool.and_eq_true] at h2
        exact hL h2.1
      rw [shibbolethref18_Scheme.j1, if_neg (by decide)]
      refine Option.bind_eq_some_iff.2 ⟨_, rLetter_eq _, ?_⟩
      by_cases hL : letterB s[i] = true
      · rw [if_pos hL]
        exact hnext (by unfold schemeB; rw [hL]; rfl) (.inl hL)
      · rw [if_neg hL]
        rcases Nat.eq_zero_or_pos i with h0 | h0
        · rw [if_pos (by omega), hz h0 hL]
        · rw [if_neg (by omega)]
          refine Option.bind_eq_some_iff.2 ⟨_, rDigit_eq _, ?_⟩
          have hLf : letterB s[i] = false := Bool.eq_false_iff.2 hL
          by_cases hD : digitB s[i] = true
          · rw [if_pos hD]; exact hnext (by unfold schemeB; simp [hD]) (.inr h0)
          · have hDf : digitB s[i] = false := Bool.eq_false_iff.2 hD
            rw [if_neg hD]
            by_cases a : s[i] = 43
            · rw [if_pos (by rw [a]; rfl)]; exact hnext (by rw [a]; decide) (.inr h0)
            · rw [if_neg (fun h => a ((eqNat _ _).2 (by omega)))]
              by_cases b : s[i] = 45
              · rw [if_pos (by rw [b]; rfl)]; exact hnext (by rw [b]; decide) (.inr h0)
              · rw [if_neg (fun h => b ((eqNat _ _).2 (by omega)))]
                by_cases e : s[i] = 46
                · rw [if_pos (by rw [e]; rfl)]; exact hnext (by rw [e]; decide) (.inr h0)
                · rw [if_neg (fun h => e ((eqNat _ _).2 (by omega))), htw]
                  unfold schemeB
                  simp [hLf, hDf, a, b, e]
    rw [shibbolethref18_Scheme.l0, if_pos (by rw [S_size]; omega), if_pos (by omega), bt_S s i hlt]
    by_cases hc : s[i] = 58
    · rw [if_pos (by rw [hc]; rfl)]
      have e1 : s.takeWhile (fun x => !(x == 58)) = s.take i := by
        conv => lhs; rw [es]
        rw [List.takeWhile_append_of_pos hno, List.takeWhile_cons, if_neg (by rw [hc]; decide), List.append_nil]
      have hcon : s.contains 58 = true := by
        rw [List.contains_iff_mem, ← hc]; exact List.getElem_mem hlt
      rcases Nat.eq_zero_or_pos i with h0 | h0
      · have hd0 : decide ((i : Int) > 0) = false := decide_eq_false (by omega)
        have hNb : schemeN s = -1 := by
          refine schemeN_bad ?_
          rintro ⟨_, h2⟩
          rw [e1, h0] at h2
          simp [okScheme] at h2
        rw [hd0, shibbolethref18_Scheme.j1, if_neg (by decide)]
        refine Option.bind_eq_some_iff.2 ⟨_, rLetter_eq _, ?_⟩
        have hnl2 : letterB s[i] = false := by rw [hc]; decide
        rw [hnl2, if_neg (by decide), if_pos (by omega), hNb]
      · have hd1 : decide ((i : Int) > 0) = true := decide_eq_true (by omega)
        have hok : okScheme (s.take i) = true := by
          have hne : s.take i ≠ [] := fun h0 => by rw [h0] at hli; simp at hli; omega
          cases hs0 : s with
          | nil => rw [hs0] at hlt; simp at hlt
          | cons x t =>
            have hlx := hx x t hs0 h0
            obtain ⟨n, rfl⟩ : ∃ n, i = n + 1 := ⟨i - 1, by omega⟩
            rw [hs0, List.take_succ_cons] at ha
            rw [List.take_succ_cons]
            show (letterB x && (x :: List.take n t).all schemeB) = true
            rw [hlx, ha]
            rfl
        have h1 : (cutL s 58).2.2 = true ∧ okScheme (cutL s 58).1 = true := ⟨hcon, by show okScheme (s.takeWhile _) = true; rw [e1]; exact hok⟩
        have h2 : (cutL s 58).1.length = i := by
          have h3 : (cutL s 58).1 = s.take i := e1
          rw [h3, hli]
        have hN : schemeN s = (i : Int) := by
          unfold schemeN schemeL
          rw [if_pos h1, if_pos rfl]
          show (((cutL s 58).1.length : Nat) : Int) = i
          rw [h2]
        rw [hd1, shibbolethref18_Scheme.j1, if_pos rfl, hN]
    · have hne : (s[i].toNat : Int) ≠ 58 := fun h => hc ((eqNat _ _).2 (by omega))
      rw [if_neg hne]
      exact hnl hne false rfl
theorem rScheme_ev (s : List UInt8) (hs : Sm s) (k : Nat) (hk : s.length * 2 + 1 < k) : shibbolethref18_Scheme.f k (S s) = some (schemeN s) :=
  rScheme_l0 s hs s.length 0 k (by omega) hk (by simp) (by omega)
end Go.Proofs.YtiihgddpejmehaaGreatDoor.Wh

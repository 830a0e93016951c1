/- What whatwg.Parse tells, in lists' words. -/
import Derived.Test.YtiihgddpejmehaaGreatDoorStr
import Derived.Test.YtiihgddpejmehaaGreatDoorZA2
import Derived.Test.YtiihgddpejmehaaGreatDoorZA3
import Derived.Test.YtiihgddpejmehaaGreatDoorZA4
import Derived.Test.YtiihgddpejmehaaGreatDoorZA5
import Derived.Test.YtiihgddpejmehaaGreatDoorZA6
import Derived.Test.YtiihgddpejmehaaGreatDoorZA7
import Derived.Test.YtiihgddpejmehaaGreatDoorZA8
namespace Go.Proofs.YtiihgddpejmehaaGreatDoor.Wh
open Go.RowKit Go.Proofs.YtiihgddpejmehaaGreatDoorW.PrintWords Go.Proofs.YtiihgddpejmehaaGreatDoor.L Go.Proofs.YtiihgddpejmehaaGreatDoor.Str Go.Proofs.YtiihgddpejmehaaGreatDoor.ZA

/-- Are all bytes of a text ASCII? -/
theorem whatwg_anyAt_eq (l m : List UInt8) (hm : (m.all fun x => decide (x.toNat < 128)) = true) : whatwg_anyAt.f (S l) (S m) = some (if (l.any fun c => m.contains c) = true then (fi (fun c => m.contains c) l : Int) else -1) := by
  have h : whatwg_anyAt.f (S l) (S m) = if (m.all fun x => decide (x.toNat < 128)) = true then some (Runes.anyIdx l m) else none := rfl
  rw [h, if_pos hm, anyIdx_eq]
theorem whatwg_upTo_eq (l m : List UInt8) (hm : (m.all fun x => decide (x.toNat < 128)) = true) : whatwg_upTo.f (S l) (S m) = some (S (l.takeWhile fun c => !m.contains c), S (l.dropWhile fun c => !m.contains c)) := by
  unfold whatwg_upTo.f
  rw [whatwg_anyAt_eq l m hm]
  simp only [Option.bind_some]
  by_cases h : (l.any fun c => m.contains c) = true
  · have hlt : fi (fun c => m.contains c) l < l.length := by
      rw [fi_lt]; obtain ⟨x, hx, hp⟩ := List.any_eq_true.1 h; exact ⟨x, hx, hp⟩
    rw [if_pos h, if_neg (by omega), if_pos (by omega), if_pos (by rw [S_size]; omega), Int.toNat_natCast, S_upto, S_from, take_fi, drop_fi]
  · have hn : fi (fun c => m.contains c) l = l.length := by
      apply List.findIdx_eq_length.2
      intro x hx
      have h2 : (l.any fun c => m.contains c) = false := Bool.eq_false_iff.2 h
      exact List.any_eq_false.1 h2 x hx |> Bool.eq_false_iff.2
    rw [if_neg h, if_pos (by omega)]
    have h1 : (l.takeWhile fun c => !m.contains c) = l := by rw [← take_fi, hn, List.take_length]
    have h2 : (l.dropWhile fun c => !m.contains c) = [] := by rw [← drop_fi, hn, List.drop_length]
    rw [h1, h2]
    rfl


/-! bytes -/
theorem all_bytes {p : Nat → Bool} (h : (List.range 256).all p = true) (c : UInt8) : p c.toNat = true := List.all_eq_true.1 h _ (List.mem_range.2 c.toNat_lt)
theorem eqNat (c d : UInt8) : c = d ↔ c.toNat = d.toNat := ⟨fun h => by rw [h], fun h => UInt8.toNat_inj.1 h⟩
def letterB (c : UInt8) : Bool := (decide (97 ≤ c.toNat) && decide (c.toNat ≤ 122)) || (decide (65 ≤ c.toNat) && decide (c.toNat ≤ 90))
def digitB (c : UInt8) : Bool := decide (48 ≤ c.toNat) && decide (c.toNat ≤ 57)
def schemeB (c : UInt8) : Bool := letterB c || digitB c || c == 43 || c == 45 || c == 46
def hexB (c : UInt8) : Bool := digitB c || (decide (97 ≤ c.toNat) && decide (c.toNat ≤ 102)) || (decide (65 ≤ c.toNat) && decide (c.toNat ≤ 70))
def hexC (c : UInt8) : Bool := hexB c || c == 58 || c == 46
theorem letter_eq (c : UInt8) : whatwg_letter.f (c.toNat : Int) = some (letterB c) := by
  have h := all_bytes (p := fun n => whatwg_letter.f (n : Int) == some ((decide (97 ≤ n) && decide (n ≤ 122)) || (decide (65 ≤ n) && decide (n ≤ 90)))) (by kernel_rfl) c
  exact eq_of_beq h
theorem digit_eq (c : UInt8) : whatwg_digit.f (c.toNat : Int) = some (digitB c) := by
  have h := all_bytes (p := fun n => whatwg_digit.f (n : Int) == some (decide (48 ≤ n) && decide (n ≤ 57))) (by kernel_rfl) c
  exact eq_of_beq h
theorem Hex_3 (c : UInt8) : percent_Hex.f 3 (c.toNat : Int) = some (hexB c) := by
  have h := all_bytes (p := fun n => percent_Hex.f 3 (n : Int) == some ((decide (48 ≤ n) && decide (n ≤ 57)) || (decide (97 ≤ n) && decide (n ≤ 102)) || (decide (65 ≤ n) && decide (n ≤ 70)))) (by kernel_rfl) c
  exact eq_of_beq h
theorem Hex_ev (c : UInt8) (k : Nat) (hk : 3 ≤ k) : percent_Hex.f k (c.toNat : Int) = some (hexB c) := at_rounds (g := fun k => percent_Hex.f k (c.toNat : Int)) (fun k v h => percent_Hex.mono _ k v h) hk (Hex_3 c)

/-! the scheme -/
theorem scheme_l0 (s r : List UInt8) (hs : Sm s) : ∀ (d i k : Nat), i + d = s.length → d < k → whatwg_Scheme.l0 k (S s) (S r) (s.length : Int) (i : Int) = some (if (s.drop i).all schemeB = true then (S s, S r, true) else (S [], S [], false))
  | 0, i, k, h, hk => by
    obtain ⟨k, rfl⟩ : ∃ m, k = m + 1 := ⟨k - 1, by omega⟩
    rw [whatwg_Scheme.l0, if_neg (by omega), List.drop_of_length_le (by omega)]
    rfl
  | d + 1, i, k, h, hk => by
    obtain ⟨k, rfl⟩ : ∃ m, k = m + 1 := ⟨k - 1, by omega⟩
    have hlt : i < s.length := by omega
    have hd : s.drop i = s[i] :: s.drop (i + 1) := List.drop_eq_getElem_cons hlt
    rw [whatwg_Scheme.l0, if_pos (by omega), if_pos (by omega), if_pos (by rw [S_size]; omega), bt_S s i hlt, wrap_succ i (by unfold Sm at hs; omega), scheme_l0 s r hs d (i + 1) k (by omega) (by omega), hd, List.all_cons]
    refine Option.bind_eq_some_iff.2 ⟨_, letter_eq _, ?_⟩
    have h43 : (43 : UInt8).toNat = 43 := rfl
    have h45 : (45 : UInt8).toNat = 45 := rfl
    have h46 : (46 : UInt8).toNat = 46 := rfl
    by_cases hl : letterB s[i] = true
    · rw [if_pos hl]; unfold schemeB; simp [hl]
    · rw [if_neg hl]
      refine Option.bind_eq_some_iff.2 ⟨_, digit_eq _, ?_⟩
      have hlf : letterB s[i] = false := Bool.eq_false_iff.2 hl
      by_cases hD : digitB s[i] = true
      · rw [if_pos hD]; unfold schemeB; simp [hD]
      · have hDf : digitB s[i] = false := Bool.eq_false_iff.2 hD
        rw [if_neg hD]
        by_cases a : s[i] = 43
        · rw [if_pos (by rw [a]; rfl)]; unfold schemeB; simp [a]
        · rw [if_neg (fun h => a ((eqNat _ _).2 (by omega)))]
          by_cases b : s[i] = 45
          · rw [if_pos (by rw [b]; rfl)]; unfold schemeB; simp [b]
          · rw [if_neg (fun h => b ((eqNat _ _).2 (by omega)))]
            by_cases c : s[i] = 46
            · rw [if_pos (by rw [c]; rfl)]; unfold schemeB; simp [c]
            · rw [if_neg (fun h => c ((eqNat _ _).2 (by omega)))]
              have : schemeB s[i] = false := by unfold schemeB; simp [hlf, hDf, a, b, c]
              rw [this, Bool.false_and, if_neg (by decide)]
              rfl
def okScheme (s : List UInt8) : Bool := match s with | [] => false | x :: t => letterB x && (x :: t).all schemeB
def schemeL (l : List UInt8) : List UInt8 × List UInt8 × Bool := if (cutL l 58).2.2 = true ∧ okScheme (cutL l 58).1 = true then ((cutL l 58).1, (cutL l 58).2.1, true) else ([], [], false)
theorem scheme_j0 (s r : List UInt8) (hs : Sm s) (k : Nat) (hk : s.length + 1 < k) (b : Bool) : whatwg_Scheme.j0 k (S s) (S r) b = some (if b = false ∧ s.all schemeB = true then (S s, S r, true) else (S [], S [], false)) := by
  obtain ⟨k, rfl⟩ : ∃ m, k = m + 1 := ⟨k - 1, by omega⟩
  rw [whatwg_Scheme.j0]
  cases b
  · rw [if_neg (by decide), S_size]
    have := scheme_l0 s r hs s.length 0 k (by omega) (by omega)
    rw [List.drop_zero] at this
    rw [show ((0 : Nat) : Int) = 0 from rfl] at this
    rw [this]
    simp
  · rw [if_pos rfl]
    simp
    rfl
theorem takeW_le (p : UInt8 → Bool) (l : List UInt8) : (l.takeWhile p).length ≤ l.length := (List.takeWhile_sublist p).length_le
theorem dropW_le (p : UInt8 → Bool) (l : List UInt8) : (l.dropWhile p).length ≤ l.length := (List.dropWhile_sublist p).length_le
theorem Scheme_ev (l : List UInt8) (hl : Sm l) (k : Nat) (hk : l.length + 1 < k) : whatwg_Scheme.f k (S l) = some (S (schemeL l).1, S (schemeL l).2.1, (schemeL l).2.2) := by
  unfold whatwg_Scheme.f
  refine Option.bind_eq_some_iff.2 ⟨_, Cut_eq l hl 58, ?_⟩
  have hle : (cutL l 58).1.length ≤ l.length := takeW_le _ l
  have hsm : Sm (cutL l 58).1 := by unfold Sm at *; omega
  unfold schemeL
  generalize (cutL l 58).1 = s at *
  generalize (cutL l 58).2.1 = r
  generalize (cutL l 58).2.2 = ok
  show (if ok = true then (if (S s).toList = ([] : List UInt8) then (whatwg_Scheme.j0 k (S s) (S r) true) else (if 0 < ((S s).size : Int) then ((whatwg_letter.f (bt (S s) 0)).bind fun t108 => (whatwg_Scheme.j0 k (S s) (S r) (!t108))) else (none))) else (whatwg_Scheme.j0 k (S s) (S r) true)) = _
  cases ok
  · rw [if_neg (by decide), scheme_j0 s r hsm k (by omega)]
    simp
  · rw [if_pos rfl, S_toList]
    cases s with
    | nil => rw [if_pos rfl, scheme_j0 [] r hsm k (by simp at hle ⊢; omega)]; simp [okScheme]
    | cons x t =>
      have h0 : bt (S (x :: t)) 0 = (x.toNat : Int) := bt_S (x :: t) 0 (by simp)
      rw [if_neg (by simp), if_pos (by rw [S_size, List.length_cons]; omega), h0, letter_eq]
      simp only [Option.bind_some]
      rw [scheme_j0 (x :: t) r hsm k (by omega)]
      have hok : okScheme (x :: t) = (letterB x && (x :: t).all schemeB) := rfl
      rw [hok]
      cases hx : letterB x
      · simp
      · by_cases ha : (x :: t).all schemeB = true
        · rw [if_pos ⟨by trivial, ha⟩, if_pos ⟨by trivial, by rw [ha]; rfl⟩]
        · rw [if_neg (fun h => ha h.2), if_neg (fun h => ha (by simpa using h.2))]

/-! which are special -/
def specs : List (List UInt8) := [[102, 116, 112], [104, 116, 116, 112], [104, 116, 116, 112, 115], [119, 115], [119, 115, 115]]
def specL (l : List UInt8) : Bool := specs.contains (Lib.mapD whatwg_Special.fold l)
theorem Contains_specs (m : List UInt8) : slices_Contains_string_string.f 8 whatwg_Special.names (S m) = some (specs.contains m) := by
  by_cases h1 : m = [102, 116, 112]
  · subst h1; kernel_rfl
  by_cases h2 : m = [104, 116, 116, 112]
  · subst h2; kernel_rfl
  by_cases h3 : m = [104, 116, 116, 112, 115]
  · subst h3; kernel_rfl
  by_cases h4 : m = [119, 115]
  · subst h4; kernel_rfl
  by_cases h5 : m = [119, 115, 115]
  · subst h5; kernel_rfl
  have hc : specs.contains m = false := by simp [specs, h1, h2, h3, h4, h5]
  have q : ∀ (a : List UInt8), m ≠ a → ¬ (S m).toList = (S a).toList := fun a h e => h (by rw [S_toList, S_toList] at e; exact e)
  rw [hc]
  unfold slices_Contains_string_string.f slices_Index_string_string.f
  have w0 : wrap64 (0 + 1) = 1 := by kernel_rfl
  have w1 : wrap64 (1 + 1) = 2 := by kernel_rfl
  have w2 : wrap64 (2 + 1) = 3 := by kernel_rfl
  have w3 : wrap64 (3 + 1) = 4 := by kernel_rfl
  have w4 : wrap64 (4 + 1) = 5 := by kernel_rfl
  have hn : ((whatwg_Special.names.length : Nat) : Int) = 5 := rfl
  rw [hn, slices_Index_string_string.l0, if_pos (by decide), if_pos (by decide), if_pos (by rw [hn]; decide), if_neg (show ¬ (S m).toList = (rdOf ByteArray.empty whatwg_Special.names 0).toList from q _ h1), w0]
  rw [slices_Index_string_string.l0, if_pos (by decide), if_pos (by decide), if_pos (by rw [hn]; decide), if_neg (show ¬ (S m).toList = (rdOf ByteArray.empty whatwg_Special.names 1).toList from q _ h2), w1]
  rw [slices_Index_string_string.l0, if_pos (by decide), if_pos (by decide), if_pos (by rw [hn]; decide), if_neg (show ¬ (S m).toList = (rdOf ByteArray.empty whatwg_Special.names 2).toList from q _ h3), w2]
  rw [slices_Index_string_string.l0, if_pos (by decide), if_pos (by decide), if_pos (by rw [hn]; decide), if_neg (show ¬ (S m).toList = (rdOf ByteArray.empty whatwg_Special.names 3).toList from q _ h4), w3]
  rw [slices_Index_string_string.l0, if_pos (by decide), if_pos (by decide), if_pos (by rw [hn]; decide), if_neg (show ¬ (S m).toList = (rdOf ByteArray.empty whatwg_Special.names 4).toList from q _ h5), w4]
  rw [slices_Index_string_string.l0, if_neg (by decide)]
  rfl
theorem Special_eq (l : List UInt8) (hl : l.length < 35184372088832) : whatwg_Special.f (S l) = some (specL l) := by
  unfold whatwg_Special.f
  rw [if_pos (by rw [S_size]; exact hl)]
  exact Contains_specs _

/-! a text without what is around it and in it -/
def textL (l : List UInt8) : List UInt8 := whatwg_Text.textL l
theorem Text_eq (l : List UInt8) (hl : l.length ≤ 140737488351232) : whatwg_Text.f (S l) = some (S (textL l)) := by
  unfold whatwg_Text.f
  rw [if_pos (by rw [S_size]; exact hl)]
  rfl
theorem textL_le (l : List UInt8) : (textL l).length ≤ l.length := by
  unfold textL whatwg_Text.textL whatwg_Text.strip whatwg_Text.right whatwg_Text.left
  refine Nat.le_trans (List.length_filter_le _ _) ?_
  rw [List.length_reverse]
  refine Nat.le_trans (dropW_le _ _) ?_
  rw [List.length_reverse]
  exact dropW_le _ _

/-! a host -/
def barL : List UInt8 := [35, 47, 58, 60, 62, 63, 64, 91, 92, 93, 94, 124, 127]
def barB (c : UInt8) : Bool := decide (c.toNat ≤ 32) || barL.contains c
def barP : Nat → Bool := fun n => octets_Range.p 0 (32 + 1) n || octets_Of.p [35, 47, 58, 60, 62, 63, 64, 91, 92, 93, 94, 124, 127] n
theorem Range_eq (a b : Int) (h : 0 ≤ a ∧ a ≤ b ∧ b ≤ 255) : octets_Range.f a b = some (Base.wd (octets_Range.p a (b + 1)) 0, Base.wd (octets_Range.p a (b + 1)) 1, Base.wd (octets_Range.p a (b + 1)) 2, Base.wd (octets_Range.p a (b + 1)) 3) := by
  unfold octets_Range.f; rw [if_pos h]
theorem Of_eq (l : List Int) (h : (l.all fun x => decide (0 ≤ x) && decide (x ≤ 255)) = true) : octets_Of.f l = some (Base.wd (octets_Of.p l) 0, Base.wd (octets_Of.p l) 1, Base.wd (octets_Of.p l) 2, Base.wd (octets_Of.p l) 3) := by
  unfold octets_Of.f; rw [if_pos h]
theorem barred_eq : whatwg_barred.f = some (Base.wd barP 0, Base.wd barP 1, Base.wd barP 2, Base.wd barP 3) := by
  unfold whatwg_barred.f
  rw [Range_eq 0 32 (by decide), Of_eq _ (by decide)]
  simp only [Option.bind_some, octets_Or.set]
  rfl
theorem Has_bar (c : UInt8) : octets_Has.f (Base.wd barP 0) (Base.wd barP 1) (Base.wd barP 2) (Base.wd barP 3) (c.toNat : Int) = some (barB c) := by
  have hc := c.toNat_lt
  rw [octets_Has.set barP _ (by omega) (by omega), Int.toNat_natCast]
  have h := all_bytes (p := fun n => barP n == (decide (n ≤ 32) || barL.contains (UInt8.ofNat n))) (by kernel_rfl) c
  have h2 := eq_of_beq h
  rw [UInt8.ofNat_toNat] at h2
  rw [h2]
  rfl
def nb (c : UInt8) : Bool := !barB c
def headL (a : List UInt8) : List UInt8 := a.takeWhile fun x => !(x == 58)
def namedL (a : List UInt8) : List UInt8 × List UInt8 × Bool := if (headL a).all nb = true then (headL a, a.dropWhile fun x => !(x == 58), !(headL a).isEmpty) else ([], [], false)
theorem split_l0 (a : List UInt8) (ha : Sm a) (n : Nat) (hn : n ≤ a.length) (s0 s1 s2 s3 : Int) (hs : ∀ c : UInt8, octets_Has.f s0 s1 s2 s3 (c.toNat : Int) = some (barB c)) : ∀ (d i k : Nat), i + d = n → d < k →
    whatwg_split.l0 k (S a) (n : Int) (n : Int) (i : Int) s0 s1 s2 s3 = some (if ((a.take n).drop i).all nb = true then (S (a.take n), S (a.drop n), decide (0 < n)) else (S [], S [], false))
  | 0, i, k, h, hk => by
    obtain ⟨k, rfl⟩ : ∃ m, k = m + 1 := ⟨k - 1, by omega⟩
    have e : (a.take n).drop i = [] := List.drop_of_length_le (by simp; omega)
    rw [whatwg_split.l0, if_neg (by omega), if_pos (by omega), if_pos (by rw [S_size]; omega), Int.toNat_natCast, S_upto, S_from, e]
    have : decide ((n : Int) > 0) = decide (0 < n) := by simp
    rw [this]
    rfl
  | d + 1, i, k, h, hk => by
    obtain ⟨k, rfl⟩ : ∃ m, k = m + 1 := ⟨k - 1, by omega⟩
    have hlt : i < a.length := by omega
    have hd : (a.take n).drop i = a[i] :: (a.take n).drop (i + 1) := by
      have h1 : i < (a.take n).length := by simp; omega
      rw [List.drop_eq_getElem_cons h1, List.getElem_take]
    rw [whatwg_split.l0, if_pos (by omega), if_pos (by omega), if_pos (by rw [S_size]; omega), bt_S a i hlt, wrap_succ i (by unfold Sm at ha; omega), split_l0 a ha n hn s0 s1 s2 s3 hs d (i + 1) k (by omega) (by omega), hd, List.all_cons]
    refine Option.bind_eq_some_iff.2 ⟨_, hs _, ?_⟩
    by_cases hb : barB a[i] = true
    · have : nb a[i] = false := by unfold nb; rw [hb]; rfl
      rw [if_pos hb, this, Bool.false_and, if_neg (by decide)]
      rfl
    · have : nb a[i] = true := by unfold nb; rw [Bool.eq_false_iff.2 hb]; rfl
      rw [if_neg hb, this, Bool.true_and]
/-- A host in brackets: what is behind '['. -/
def inL (t : List UInt8) : List UInt8 × List UInt8 × Bool :=
  match t.dropWhile hexC with
  | [] => ([], [], false)
  | c :: r => if c == 93 && !(t.takeWhile hexC).isEmpty then (91 :: (t.takeWhile hexC ++ [93]), r, true) else ([], [], false)
theorem hexC_iff (c : UInt8) : (c.toNat : Int) = 58 ∨ (c.toNat : Int) = 46 ↔ (c == 58 || c == 46) = true := by
  have h58 : (58 : UInt8).toNat = 58 := rfl
  have h46 : (46 : UInt8).toNat = 46 := rfl
  simp only [Bool.or_eq_true, beq_iff_eq, eqNat, h58, h46]
  omega
theorem split_l1 (x : UInt8) (t : List UInt8) (ht : Sm (x :: t)) (hx : x = 91) : ∀ (d j k : Nat), j + d = t.length → d + 5 < k → (t.take j).all hexC = true →
    whatwg_split.l1 k (S (x :: t)) ((j + 1 : Nat) : Int) = some (S (inL t).1, S (inL t).2.1, (inL t).2.2)
  | 0, j, k, h, hk, hj => by
    obtain ⟨k, rfl⟩ : ∃ m, k = m + 1 := ⟨k - 1, by omega⟩
    have e : t.dropWhile hexC = [] := by
      rw [List.take_of_length_le (by omega)] at hj
      have := List.dropWhile_append_of_pos (l₂ := []) (List.all_eq_true.1 hj)
      simpa using this
    rw [whatwg_split.l1, if_neg (by rw [S_size, List.length_cons]; omega)]
    unfold inL
    rw [e]
    by_cases hz : ((j + 1 : Nat) : Int) = 1
    · rw [if_pos hz]; rfl
    · rw [if_neg hz, if_pos (by rw [S_size, List.length_cons]; omega)]; rfl
  | d + 1, j, k, h, hk, hj => by
    obtain ⟨k, rfl⟩ : ∃ m, k = m + 1 := ⟨k - 1, by omega⟩
    have hlt : j < t.length := by omega
    have hb : bt (S (x :: t)) ((j + 1 : Nat) : Int) = (t[j].toNat : Int) := by
      rw [bt_S (x :: t) (j + 1) (by simp; omega)]; rfl
    have hw : wrap64 (((j + 1 : Nat) : Int) + 1) = ((j + 1 + 1 : Nat) : Int) := wrap_succ (j + 1) (by unfold Sm at ht; simp at ht; omega)
    have hd : t.drop j = t[j] :: t.drop (j + 1) := List.drop_eq_getElem_cons hlt
    have es : t = t.take j ++ t[j] :: t.drop (j + 1) := by rw [← hd, List.take_append_drop]
    rw [whatwg_split.l1, if_pos (by rw [S_size, List.length_cons]; omega), if_pos (by omega), hb, hw]
    refine Option.bind_eq_some_iff.2 ⟨_, Hex_ev _ k (by omega), ?_⟩
    have hi := hexC_iff t[j]
    by_cases hc : hexC t[j] = true
    · have ih := split_l1 x t ht hx d (j + 1) k (by omega) (by omega) (by rw [List.take_succ_eq_append_getElem hlt, List.all_append, hj, List.all_cons, hc]; rfl)
      by_cases h1 : hexB t[j] = true
      · rw [if_pos h1, ih]
      · rw [if_neg h1]
        have : (t[j] == 58 || t[j] == 46) = true := by unfold hexC at hc; rw [Bool.eq_false_iff.2 h1, Bool.or_assoc, Bool.false_or] at hc; exact hc
        rcases hi.2 this with h3 | h3
        · rw [if_pos h3, ih]
        · rw [if_neg (by omega), if_pos h3, ih]
    · have h1 : ¬ hexB t[j] = true := fun h => hc (by unfold hexC; rw [h]; rfl)
      have h2 : ¬ ((t[j].toNat : Int) = 58 ∨ (t[j].toNat : Int) = 46) := fun h => hc (by unfold hexC; rw [Bool.or_assoc, hi.1 h, Bool.or_true])
      have e1 : t.takeWhile hexC = t.take j := by
        conv => lhs; rw [es]
        rw [List.takeWhile_append_of_pos (List.all_eq_true.1 hj), List.takeWhile_cons, if_neg hc, List.append_nil]
      have e2 : t.dropWhile hexC = t[j] :: t.drop (j + 1) := by
        conv => lhs; rw [es]
        rw [List.dropWhile_append_of_pos (List.all_eq_true.1 hj), List.dropWhile_cons, if_neg hc]
      rw [if_neg h1, if_neg (fun h => h2 (.inl h)), if_neg (fun h => h2 (.inr h))]
      unfold inL
      rw [e1, e2]
      have h93 : (93 : UInt8).toNat = 93 := rfl
      cases j with
      | zero => rw [if_pos (by omega)]; simp; rfl
      | succ j =>
        rw [if_neg (by omega), if_neg (by rw [S_size, List.length_cons]; omega)]
        have hne : (t.take (j + 1)).isEmpty = false := by
          cases t with
          | nil => simp at hlt
          | cons _ _ => rfl
        by_cases h9 : t[j + 1] = 93
        · rw [if_pos (by rw [h9]; rfl), if_pos (by omega), if_pos (by rw [S_size, List.length_cons]; omega), Int.toNat_natCast, S_upto, S_from]
          have e3 : (x :: t).take (j + 1 + 1 + 1) = 91 :: (t.take (j + 1) ++ [93]) := by
            rw [List.take_succ_cons, List.take_succ_eq_append_getElem hlt, h9, hx]
          have e4 : (x :: t).drop (j + 1 + 1 + 1) = t.drop (j + 1 + 1) := rfl
          rw [e3, e4, h9, hne]
          rfl
        · have : (t[j + 1] == 93) = false := beq_eq_false_iff_ne.2 h9
          rw [if_neg (fun h => h9 ((eqNat _ _).2 (by omega)))]
          simp only [this, Bool.false_and]
          rfl
def splitL (a : List UInt8) : List UInt8 × List UInt8 × Bool := match a with | 91 :: t => inL t | _ => namedL a
theorem split_ev (a : List UInt8) (ha : a.length ≤ 140737488351232) (k : Nat) (hk : a.length + 6 < k) : whatwg_split.f k (S a) = some (S (splitL a).1, S (splitL a).2.1, (splitL a).2.2) := by
  have hsm : Sm a := by unfold Sm; omega
  unfold whatwg_split.f
  refine Option.bind_eq_some_iff.2 ⟨_, HasPrefix_eq a [91], ?_⟩
  by_cases h : ([91] : List UInt8).isPrefixOf a = true
  · rw [if_pos h]
    obtain ⟨t, rfl⟩ : ∃ t, a = 91 :: t := by
      cases a with
      | nil => simp at h
      | cons x t => simp at h; exact ⟨t, by rw [h]⟩
    exact split_l1 91 t hsm rfl t.length 0 k (by omega) (by simp at hk; omega) rfl
  · rw [if_neg h, if_pos (by rw [S_size]; omega)]
    have hs : splitL a = namedL a := by
      unfold splitL
      split
      · rename_i t; simp at h
      · rfl
    have h58 := IndexByte_eq (a ++ [58]) 58
    have hc : (a ++ [58]).contains (58 : UInt8) = true := by simp
    rw [if_pos hc, ← S_append] at h58
    refine Option.bind_eq_some_iff.2 ⟨_, h58, Option.bind_eq_some_iff.2 ⟨_, barred_eq, ?_⟩⟩
    have hlt := fi_contains hc
    have hn : fi (fun x => x == 58) (a ++ [58]) ≤ a.length := by simp at hlt ⊢; omega
    have hl := split_l0 a hsm _ hn _ _ _ _ Has_bar (fi (fun x => x == 58) (a ++ [58])) 0 k (by omega) (by omega)
    rw [List.drop_zero] at hl
    refine hl.trans ?_
    have e1 : a.take (fi (fun x => x == 58) (a ++ [58])) = headL a := by
      have h1 : (a ++ [58]).take (fi (fun x => x == 58) (a ++ [58])) = a.take (fi (fun x => x == 58) (a ++ [58])) := by rw [List.take_append_of_le_length hn]
      rw [← h1, take_fi]
      unfold headL
      rw [List.takeWhile_append]
      split
      · rename_i e
        have : a.takeWhile (fun x => !(x == 58)) = a := (List.takeWhile_sublist _).eq_of_length e
        rw [this]
        simp
      · rfl
    have e2 : a.drop (fi (fun x => x == 58) (a ++ [58])) = a.dropWhile fun x => !(x == 58) := by
      have h3 := List.takeWhile_append_dropWhile (p := fun x => !(x == 58)) (l := a)
      have h4 := List.take_append_drop (fi (fun x => x == 58) (a ++ [58])) a
      rw [e1] at h4
      unfold headL at h4
      exact List.append_cancel_left (h4.trans h3.symm)
    have e3 : decide (0 < fi (fun x => x == 58) (a ++ [58])) = !(headL a).isEmpty := by
      have : (headL a).length = fi (fun x => x == 58) (a ++ [58]) := by rw [← e1, List.length_take]; omega
      rw [← this]
      cases headL a <;> simp
    rw [hs, e1, e2, e3]
    unfold namedL
    split <;> rfl
def portL (r : List UInt8) : Bool := match r with | [] => true | c :: t => c == 58 && t.all digitB
def digits : List UInt8 := [48, 49, 50, 51, 52, 53, 54, 55, 56, 57]
theorem digits_has (c : UInt8) : digits.contains c = digitB c := by
  have h := all_bytes (p := fun n => digits.contains (UInt8.ofNat n) == (decide (48 ≤ n) && decide (n ≤ 57))) (by kernel_rfl) c
  have h2 := eq_of_beq h
  rw [UInt8.ofNat_toNat] at h2
  exact h2
theorem trimS_nil (t ds : List UInt8) : Lib.trimS t ds = [] ↔ (t.all fun c => ds.contains c) = true := by
  unfold Lib.trimS Lib.trimLeftS Lib.trimRightS
  constructor
  · intro h
    rw [List.all_eq_true]
    intro c hc
    by_cases hr : c ∈ (t.reverse.dropWhile (ds.contains ·))
    · have h2 : c ∈ (t.reverse.dropWhile (ds.contains ·)).reverse := List.mem_reverse.2 hr
      have h3 := List.takeWhile_append_dropWhile (p := (ds.contains ·)) (l := (t.reverse.dropWhile (ds.contains ·)).reverse)
      rw [h, List.append_nil] at h3
      rw [← h3] at h2
      exact List.all_eq_true.1 (List.all_takeWhile) c h2
    · have h3 := List.takeWhile_append_dropWhile (p := (ds.contains ·)) (l := t.reverse)
      have h4 : c ∈ t.reverse := List.mem_reverse.2 hc
      rw [← h3, List.mem_append] at h4
      rcases h4 with h4 | h4
      · exact List.all_eq_true.1 (List.all_takeWhile) c h4
      · exact absurd h4 hr
  · intro h
    have h1 : t.reverse.dropWhile (ds.contains ·) = [] := by
      have := List.dropWhile_append_of_pos (p := (ds.contains ·)) (l₁ := t.reverse) (l₂ := []) (fun c hc => List.all_eq_true.1 h c (List.mem_reverse.1 hc))
      simpa using this
    rw [h1]
    rfl
def placeL (a : List UInt8) : List UInt8 := behindLast 64 a
def hostL (a : List UInt8) : List UInt8 × Bool := if (splitL (placeL a)).2.2 = true ∧ portL (splitL (placeL a)).2.1 = true then ((splitL (placeL a)).1, true) else ([], false)
theorem inL_le (t : List UInt8) : (inL t).2.1.length ≤ t.length := by
  unfold inL
  have := dropW_le hexC t
  split
  · simp
  · rename_i c r e
    rw [e] at this
    simp at this
    split <;> simp <;> omega
theorem splitL_le (a : List UInt8) : (splitL a).2.1.length ≤ a.length := by
  unfold splitL
  split
  · rename_i t
    have := inL_le t
    simp; omega
  · unfold namedL
    split
    · exact dropW_le _ a
    · simp
theorem host_ev (a : List UInt8) (ha : a.length ≤ 140737488351232) (k : Nat) (hk : a.length + 6 < k) : whatwg_host.f k (S a) = some (S (hostL a).1, (hostL a).2) := by
  have hsm : Sm a := by unfold Sm; omega
  unfold whatwg_host.f
  refine Option.bind_eq_some_iff.2 ⟨_, LastIndexByte_ev a hsm 64 k (by omega), ?_⟩
  have hla := lastAt_le 64 a a.length
  have hw : wrap64 (((lastAt 64 a a.length : Int) - 1) + 1) = ((lastAt 64 a a.length : Nat) : Int) := by rw [wrap_id (by omega) (by omega)]; omega
  have hp : a.drop (lastAt 64 a a.length) = placeL a := by
    have := lastAt_drop 64 a a.length (Nat.le_refl _)
    rw [List.take_length] at this
    exact this
  have hple : (placeL a).length ≤ a.length := by rw [← hp, List.length_drop]; omega
  rw [hw, if_pos (by omega), if_pos (by rw [S_size]; omega), Int.toNat_natCast, S_from, hp]
  refine Option.bind_eq_some_iff.2 ⟨_, split_ev (placeL a) (by omega) k (by omega), ?_⟩
  have hsl := splitL_le (placeL a)
  unfold hostL
  generalize (splitL (placeL a)).1 = h at *
  generalize (splitL (placeL a)).2.1 = r at *
  generalize (splitL (placeL a)).2.2 = ok at *
  show (if ok = true then (if (S r).toList = ([] : List UInt8) then (some (S h, true)) else (if 0 < ((S r).size : Int) then (if (bt (S r) 0) = 58 then (if 1 ≤ ((S r).size : Int) then ((strings_Trim.f ((S r).extract 1 (S r).size) (S digits)).bind fun t184 => (if t184.toList = ([] : List UInt8) then (some (S h, true)) else (some (S [], false)))) else (none)) else (some (S [], false))) else (none))) else (some (S [], false))) = _
  cases ok
  · rw [if_neg (by decide), if_neg (by simp)]
  · rw [if_pos rfl, S_toList]
    cases r with
    | nil => rw [if_pos rfl, if_pos ⟨rfl, rfl⟩]
    | cons c t =>
      have h0 : bt (S (c :: t)) 0 = (c.toNat : Int) := bt_S (c :: t) 0 (by simp)
      rw [if_neg (by simp), if_pos (by rw [S_size, List.length_cons]; omega), h0]
      have h58 : (58 : UInt8).toNat = 58 := rfl
      by_cases hc : c = 58
      · rw [if_pos (by rw [hc]; rfl), if_pos (by rw [S_size, List.length_cons]; omega), S_from]
        have hT : strings_Trim.f (S ((c :: t).drop 1)) (S digits) = some (S (Lib.trimS t digits)) := by
          unfold strings_Trim.f
          rw [if_pos ⟨by rw [S_size]; simp at hsl ⊢; omega, by decide, by decide⟩]
          rfl
        refine Option.bind_eq_some_iff.2 ⟨_, hT, ?_⟩
        rw [S_toList]
        have hd : (t.all fun x => digits.contains x) = t.all digitB := by
          congr 1; funext x; exact digits_has x
        by_cases hz : Lib.trimS t digits = []
        · have := (trimS_nil t digits).1 hz
          rw [hd] at this
          rw [if_pos hz, if_pos ⟨rfl, by show ((c == 58) && t.all digitB) = true; rw [hc, this]; rfl⟩]
        · rw [if_neg hz, if_neg]
          rintro ⟨_, h2⟩
          refine hz ((trimS_nil t digits).2 ?_)
          rw [hd]
          unfold portL at h2
          simp at h2
          simpa using h2.2
      · rw [if_neg (fun h => hc ((eqNat _ _).2 (by omega))), if_neg]
        rintro ⟨_, h2⟩
        unfold portL at h2
        simp [hc] at h2
end Go.Proofs.YtiihgddpejmehaaGreatDoor.Wh

/- What curl.Parse tells, in lists' words. -/
import Derived.Test.YtpejenbhgfbjjaaPy
import Derived.Test.YtpejenbhgfbjjaaZA2
import Derived.Test.YtpejenbhgfbjjaaZA3
import Derived.Test.YtpejenbhgfbjjaaZA4
import Derived.Test.YtpejenbhgfbjjaaZA5
namespace Go.Proofs.Ytpejenbhgfbjjaa.Cu
open Go.RowKit Go.Proofs.YtpejenbhgfbjjaaW.PrintWords Go.Proofs.Ytpejenbhgfbjjaa.L Go.Proofs.Ytpejenbhgfbjjaa.Str Go.Proofs.Ytpejenbhgfbjjaa.Py Go.Proofs.Ytpejenbhgfbjjaa.ZA

/-- Are all bytes of a text ASCII? -/
theorem curl_anyAt_eq (l m : List UInt8) (hm : (m.all fun x => decide (x.toNat < 128)) = true) : curl_anyAt.f (S l) (S m) = some (if (l.any fun c => m.contains c) = true then (fi (fun c => m.contains c) l : Int) else -1) := by
  have h : curl_anyAt.f (S l) (S m) = if (m.all fun x => decide (x.toNat < 128)) = true then some (Runes.anyIdx l m) else none := rfl
  rw [h, if_pos hm, anyIdx_eq]
theorem curl_upTo_eq (l m : List UInt8) (hm : (m.all fun x => decide (x.toNat < 128)) = true) : curl_upTo.f (S l) (S m) = some (S (l.takeWhile fun c => !m.contains c), S (l.dropWhile fun c => !m.contains c)) := by
  unfold curl_upTo.f
  rw [curl_anyAt_eq l m hm]
  simp only [Option.bind_some]
  by_cases h : (l.any fun c => m.contains c) = true
  · have hlt : fi (fun c => m.contains c) l < l.length := by
      rw [fi_lt]; obtain ⟨x, hx, hp⟩ := List.any_eq_true.1 h; exact ⟨x, hx, hp⟩
    rw [if_pos h, if_neg (by omega), if_pos (by omega), if_pos (by rw [S_size]; omega), Int.toNat_natCast, S_upto, S_from, take_fi, drop_fi]
  · have hn : fi (fun c => m.contains c) l = l.length := by
      apply List.findIdx_eq_length.2
      intro x hx
      have h2 : (l.any fun c => m.contains c) = false := Bool.eq_false_iff.2 h
      exact List.any_eq_false.1 h2 x hx |> Bool.eq_false_iff.2
    rw [if_neg h, if_pos (by omega)]
    have h1 : (l.takeWhile fun c => !m.contains c) = l := by rw [← take_fi, hn, List.take_length]
    have h2 : (l.dropWhile fun c => !m.contains c) = [] := by rw [← drop_fi, hn, List.drop_length]
    rw [h1, h2]
    rfl


/-! bytes -/
theorem all_bytes {p : Nat → Bool} (h : (List.range 256).all p = true) (c : UInt8) : p c.toNat = true := List.all_eq_true.1 h _ (List.mem_range.2 c.toNat_lt)
theorem letter_eq (c : UInt8) : curl_letter.f (c.toNat : Int) = some (letterB c) := by
  have h := all_bytes (p := fun n => curl_letter.f (n : Int) == some ((decide (97 ≤ n) && decide (n ≤ 122)) || (decide (65 ≤ n) && decide (n ≤ 90)))) (by kernel_rfl) c
  exact eq_of_beq h
theorem digit_eq (c : UInt8) : curl_digit.f (c.toNat : Int) = some (digitB c) := by
  have h := all_bytes (p := fun n => curl_digit.f (n : Int) == some (decide (48 ≤ n) && decide (n ≤ 57))) (by kernel_rfl) c
  exact eq_of_beq h
def hexB (c : UInt8) : Bool := digitB c || (decide (97 ≤ c.toNat) && decide (c.toNat ≤ 102)) || (decide (65 ≤ c.toNat) && decide (c.toNat ≤ 70))
theorem Hex_2 (c : UInt8) : percent_Hex.f 2 (c.toNat : Int) = some (hexB c) := by
  have h := all_bytes (p := fun n => percent_Hex.f 2 (n : Int) == some ((decide (48 ≤ n) && decide (n ≤ 57)) || (decide (97 ≤ n) && decide (n ≤ 102)) || (decide (65 ≤ n) && decide (n ≤ 70)))) (by kernel_rfl) c
  exact eq_of_beq h
theorem Hex_ev (c : UInt8) (k : Nat) (hk : 2 ≤ k) : percent_Hex.f k (c.toNat : Int) = some (hexB c) := at_rounds (g := fun k => percent_Hex.f k (c.toNat : Int)) (fun k v h => percent_Hex.mono _ k v h) hk (Hex_2 c)

/-! clean -/
def cleanB (c : UInt8) : Bool := decide (32 < c.toNat) && !(c == 127)
theorem eqNat (c d : UInt8) : c = d ↔ c.toNat = d.toNat := ⟨fun h => by rw [h], fun h => UInt8.toNat_inj.1 h⟩
theorem cleanB_iff (c : UInt8) : cleanB c = true ↔ ¬ (c.toNat : Int) ≤ 32 ∧ ¬ (c.toNat : Int) = 127 := by
  have h127 : (127 : UInt8).toNat = 127 := rfl
  unfold cleanB
  simp only [Bool.and_eq_true, decide_eq_true_eq, Bool.not_eq_true', beq_eq_false_iff_ne, ne_eq, eqNat, h127]
  omega
theorem clean_l0 (l : List UInt8) (hl : Sm l) : ∀ (d i k : Nat), i + d = l.length → d < k → curl_clean.l0 k (S l) (l.length : Int) (i : Int) = some ((l.drop i).all cleanB)
  | 0, i, k, h, hk => by
    obtain ⟨k, rfl⟩ : ∃ m, k = m + 1 := ⟨k - 1, by omega⟩
    simp only [curl_clean.l0]
    rw [if_neg (by omega), List.drop_of_length_le (by omega)]
    rfl
  | d + 1, i, k, h, hk => by
    obtain ⟨k, rfl⟩ : ∃ m, k = m + 1 := ⟨k - 1, by omega⟩
    have hlt : i < l.length := by omega
    have hd : l.drop i = l[i] :: l.drop (i + 1) := List.drop_eq_getElem_cons hlt
    simp only [curl_clean.l0]
    rw [if_pos (by omega), if_pos (by omega), if_pos (by rw [S_size]; omega), bt_S l i hlt, wrap_succ i (by unfold Sm at hl; omega), hd, List.all_cons, clean_l0 l hl d (i + 1) k (by omega) (by omega)]
    have hc := cleanB_iff l[i]
    by_cases h1 : (l[i].toNat : Int) ≤ 32
    · have : cleanB l[i] = false := by rw [Bool.eq_false_iff]; exact fun h => (hc.1 h).1 h1
      rw [if_pos h1, this, Bool.false_and]
    · rw [if_neg h1]
      by_cases h2 : (l[i].toNat : Int) = 127
      · have : cleanB l[i] = false := by rw [Bool.eq_false_iff]; exact fun h => (hc.1 h).2 h2
        rw [if_pos h2, this, Bool.false_and]
      · rw [if_neg h2, hc.2 ⟨h1, h2⟩, Bool.true_and]
theorem clean_ev (l : List UInt8) (hl : Sm l) (k : Nat) (hk : l.length < k) : curl_clean.f k (S l) = some (l.all cleanB) := by
  have := clean_l0 l hl l.length 0 k (by omega) hk
  rw [List.drop_zero] at this
  unfold curl_clean.f
  rw [S_size]
  exact this

/-! behind a scheme -/
def runS (w : List UInt8) : Nat := match w with | [] => 0 | c :: t => if letterB c = true then 1 + (t.takeWhile schemeB).length else 0
def trim1 (w : List UInt8) : List UInt8 := Lib.trimPrefix w [47]
def behindAt (w : List UInt8) (n : Nat) : List UInt8 := if n = 0 then w else if ([58, 47] : List UInt8).isPrefixOf (w.drop n) = true then trim1 (trim1 (trim1 (w.drop (n + 1)))) else w
def behindL (w : List UInt8) : List UInt8 := behindAt w (runS w)
theorem trim1_eq (w : List UInt8) : strings_TrimPrefix.f (S w) (⟨#[47]⟩ : ByteArray) = some (S (trim1 w)) := TrimPrefix_eq w [47]
theorem behind_l1 (w : List UInt8) (k : Nat) : curl_behind.l1 (k + 4) (S w) 0 = some (S (trim1 (trim1 (trim1 w)))) := by
  simp only [curl_behind.l1]
  rw [if_pos (by decide), trim1_eq]
  simp only [Option.bind_some]
  rw [show wrap64 (0 + 1) = 1 from wrap_id (by decide) (by decide), if_pos (by decide), trim1_eq]
  simp only [Option.bind_some]
  rw [show wrap64 (1 + 1) = 2 from wrap_id (by decide) (by decide), if_pos (by decide), trim1_eq]
  simp only [Option.bind_some]
  rw [show wrap64 (2 + 1) = 3 from wrap_id (by decide) (by decide), if_neg (by decide)]
theorem behind_j1 (w : List UInt8) (hw : Sm w) (n : Nat) (hn : n ≤ w.length) (k : Nat) : curl_behind.j1 (k + 6) (S w) (n : Int) = some (S (behindAt w n)) := by
  unfold behindAt
  rw [show k + 6 = (k + 5) + 1 by omega, curl_behind.j1]
  by_cases h0 : n = 0
  · subst h0
    rw [if_pos rfl, if_pos (by rfl), show k + 5 = (k + 4) + 1 by omega, curl_behind.j2, if_pos rfl]
  · have hp := HasPrefix_eq (w.drop n) [58, 47]
    rw [if_neg h0, if_neg (by omega), if_pos (by omega), if_pos (by rw [S_size]; omega), Int.toNat_natCast, S_from]
    refine Option.bind_eq_some_iff.2 ⟨_, hp, ?_⟩
    rw [show k + 5 = (k + 4) + 1 by omega, curl_behind.j2]
    by_cases hq : ([58, 47] : List UInt8).isPrefixOf (w.drop n) = true
    · have hlen : 2 ≤ (w.drop n).length := (List.isPrefixOf_iff_prefix.1 hq).length_le
      rw [List.length_drop] at hlen
      rw [hq, if_neg (by decide), if_pos rfl, wrap_succ n (by unfold Sm at hw; omega), if_pos (by omega), if_pos (by rw [S_size]; omega), Int.toNat_natCast, S_from, behind_l1]
    · have hqf : ([58, 47] : List UInt8).isPrefixOf (w.drop n) = false := Bool.eq_false_iff.2 hq
      rw [hqf, if_pos (by rfl), if_neg (by decide)]
theorem dots (c : UInt8) : strings_IndexByte.f (⟨#[43, 45, 46]⟩ : ByteArray) (c.toNat : Int) = some (if ([43, 45, 46] : List UInt8).contains c = true then (fi (fun x => x == c) [43, 45, 46] : Int) else -1) := IndexByte_eq [43, 45, 46] c
theorem schemeB_iff (c : UInt8) : schemeB c = (letterB c || digitB c || ([43, 45, 46] : List UInt8).contains c) := by
  unfold schemeB
  rw [Bool.eq_iff_iff]
  simp only [Bool.or_eq_true, beq_iff_eq, List.contains_iff_mem, List.mem_cons, List.not_mem_nil, or_false, or_assoc]
theorem behind_l0 (w : List UInt8) (hw : Sm w) : ∀ (d i k : Nat), i + d = w.length → d + 7 < k → curl_behind.l0 k (S w) (i : Int) = some (S (behindAt w (if i = 0 then runS w else i + ((w.drop i).takeWhile schemeB).length)))
  | 0, i, k, h, hk => by
    obtain ⟨k, rfl⟩ : ∃ m, k = (m + 6) + 1 := ⟨k - 7, by omega⟩
    have e : (if i = 0 then runS w else i + ((w.drop i).takeWhile schemeB).length) = i := by
      by_cases h0 : i = 0
      · have : w = [] := List.length_eq_zero_iff.1 (by omega)
        rw [if_pos h0, this, h0]
        rfl
      · rw [if_neg h0, List.drop_of_length_le (by omega)]
        rfl
    rw [e, curl_behind.l0, if_neg (by rw [S_size]; omega), behind_j1 w hw i (by omega)]
  | d + 1, i, k, h, hk => by
    obtain ⟨k, rfl⟩ : ∃ m, k = (m + 6) + 1 := ⟨k - 7, by omega⟩
    have hlt : i < w.length := by omega
    have hd : w.drop i = w[i] :: w.drop (i + 1) := List.drop_eq_getElem_cons hlt
    have ih := behind_l0 w hw d (i + 1) (k + 6) (by omega) (by omega)
    rw [if_neg (by omega)] at ih
    rw [curl_behind.l0, if_pos (by rw [S_size]; omega), if_pos (by omega), bt_S w i hlt, wrap_succ i (by unfold Sm at hw; omega), ih]
    refine Option.bind_eq_some_iff.2 ⟨_, letter_eq _, ?_⟩
    by_cases hL : letterB w[i] = true
    · rw [if_pos hL]
      congr 3
      by_cases h0 : i = 0
      · subst h0
        rw [if_pos rfl]
        have hw2 : w = w[0] :: w.drop 1 := by rw [List.drop_zero] at hd; exact hd
        have : runS (w[0] :: w.drop 1) = 1 + ((w.drop 1).takeWhile schemeB).length := by simp only [runS]; rw [if_pos hL]
        rw [← hw2] at this
        rw [this]
      · rw [if_neg h0, hd, List.takeWhile_cons, if_pos (by rw [schemeB_iff, hL]; rfl), List.length_cons]
        omega
    · have hLf : letterB w[i] = false := Bool.eq_false_iff.2 hL
      rw [if_neg hL]
      by_cases h0 : i = 0
      · subst h0
        rw [if_neg (by omega), if_pos rfl, behind_j1 w hw 0 (by omega)]
        have hw2 : w = w[0] :: w.drop 1 := by rw [List.drop_zero] at hd; exact hd
        have : runS (w[0] :: w.drop 1) = 0 := by simp only [runS]; rw [if_neg hL]
        rw [← hw2] at this
        rw [this]
      · rw [if_pos (by omega), if_neg h0]
        refine Option.bind_eq_some_iff.2 ⟨_, digit_eq _, ?_⟩
        by_cases hD : digitB w[i] = true
        · rw [if_pos hD, hd, List.takeWhile_cons, if_pos (by rw [schemeB_iff, hD, Bool.or_true]; rfl), List.length_cons]
          congr 3
          omega
        · have hDf : digitB w[i] = false := Bool.eq_false_iff.2 hD
          rw [if_neg hD]
          refine Option.bind_eq_some_iff.2 ⟨_, dots _, ?_⟩
          by_cases hM : ([43, 45, 46] : List UInt8).contains w[i] = true
          · rw [if_pos hM, if_pos (by omega), hd, List.takeWhile_cons, if_pos (by rw [schemeB_iff, hM, Bool.or_true]), List.length_cons]
            congr 3
            omega
          · have hMf : ([43, 45, 46] : List UInt8).contains w[i] = false := Bool.eq_false_iff.2 hM
            rw [if_neg hM, if_neg (by decide), hd, List.takeWhile_cons, if_neg (by rw [schemeB_iff, hLf, hDf, hMf]; decide), behind_j1 w hw i (by omega)]
            rfl
theorem behind_ev (w : List UInt8) (hw : Sm w) (k : Nat) (hk : w.length + 7 < k) : curl_behind.f k (S w) = some (S (behindL w)) := by
  have := behind_l0 w hw w.length 0 k (by omega) hk
  rw [if_pos rfl] at this
  exact this

/-! the host -/
def bars : List UInt8 := [47, 58, 35, 63, 33, 64, 123, 125, 91, 93, 92, 36, 39, 34, 94, 96, 42, 60, 62, 61, 59, 44]
def nb (c : UInt8) : Bool := !bars.contains c
def namedL (a : List UInt8) : List UInt8 × List UInt8 × Bool := (a.takeWhile nb, a.dropWhile nb, !(a.takeWhile nb).isEmpty)
def hexC (c : UInt8) : Bool := hexB c || c == 58 || c == 46
def numberedL (a : List UInt8) : List UInt8 × List UInt8 × Bool :=
  if a.contains 93 = true ∧ 2 ≤ (a.takeWhile fun x => !(x == 93)).length ∧ ((a.takeWhile fun x => !(x == 93)).drop 1).all hexC = true then ((a.takeWhile fun x => !(x == 93)) ++ [93], (a.dropWhile fun x => !(x == 93)).drop 1, true) else ([], [], false)
def portL (r : List UInt8) : Bool := match r with | [] => true | c :: t => c == 58 && t.all digitB
def placeL (a : List UInt8) : List UInt8 := if a.contains 64 = true then (cutL a 64).2.1 else a
def readL (a : List UInt8) : List UInt8 × List UInt8 × Bool := if ([91] : List UInt8).isPrefixOf a = true then numberedL a else namedL a
def hostL (a : List UInt8) : List UInt8 × Bool := if (readL (placeL a)).2.2 = true ∧ portL (readL (placeL a)).2.1 = true then ((readL (placeL a)).1, true) else ([], false)
theorem barsHas (c : UInt8) : octets_Has.f (Base.wd (octets_Of.p [47, 58, 35, 63, 33, 64, 123, 125, 91, 93, 92, 36, 39, 34, 94, 96, 42, 60, 62, 61, 59, 44]) 0) (Base.wd (octets_Of.p [47, 58, 35, 63, 33, 64, 123, 125, 91, 93, 92, 36, 39, 34, 94, 96, 42, 60, 62, 61, 59, 44]) 1) (Base.wd (octets_Of.p [47, 58, 35, 63, 33, 64, 123, 125, 91, 93, 92, 36, 39, 34, 94, 96, 42, 60, 62, 61, 59, 44]) 2) (Base.wd (octets_Of.p [47, 58, 35, 63, 33, 64, 123, 125, 91, 93, 92, 36, 39, 34, 94, 96, 42, 60, 62, 61, 59, 44]) 3) (c.toNat : Int) = some (bars.contains c) := by
  have hc := c.toNat_lt
  rw [octets_Has.set _ _ (by omega) (by omega), Int.toNat_natCast]
  have h := all_bytes (p := fun n => octets_Of.p [47, 58, 35, 63, 33, 64, 123, 125, 91, 93, 92, 36, 39, 34, 94, 96, 42, 60, 62, 61, 59, 44] n == bars.contains (UInt8.ofNat n)) (by kernel_rfl) c
  have h2 := eq_of_beq h
  rw [UInt8.ofNat_toNat] at h2
  rw [h2]
theorem named_l0 (a : List UInt8) (ha : Sm a) (s0 s1 s2 s3 : Int) (hs : ∀ c : UInt8, octets_Has.f s0 s1 s2 s3 (c.toNat : Int) = some (bars.contains c)) : ∀ (d i k : Nat), i + d = a.length → d < k → ((a.take i).all nb) = true →
    curl_named.l0 k (S a) (i : Int) s0 s1 s2 s3 = some (S (namedL a).1, S (namedL a).2.1, (namedL a).2.2)
  | 0, i, k, h, hk, hb => by
    obtain ⟨k, rfl⟩ : ∃ m, k = m + 1 := ⟨k - 1, by omega⟩
    rw [List.take_of_length_le (by omega)] at hb
    have h1 : a.takeWhile nb = a := by
      have := List.takeWhile_append_of_pos (l₂ := []) (List.all_eq_true.1 hb)
      simpa using this
    have h2 : a.dropWhile nb = [] := by
      have := List.dropWhile_append_of_pos (l₂ := []) (List.all_eq_true.1 hb)
      simpa using this
    have h3 : (decide ((i : Int) > 0)) = !a.isEmpty := by
      cases a with
      | nil => simp at h; subst h; rfl
      | cons c t => simp at h; simp; omega
    simp only [curl_named.l0]
    rw [if_neg (by rw [S_size]; omega), if_pos (by omega), if_pos (by rw [S_size]; omega), Int.toNat_natCast, S_upto, S_from, List.take_of_length_le (by omega), List.drop_of_length_le (by omega), h3]
    unfold namedL
    rw [h1, h2]
  | d + 1, i, k, h, hk, hb => by
    obtain ⟨k, rfl⟩ : ∃ m, k = m + 1 := ⟨k - 1, by omega⟩
    have hlt : i < a.length := by omega
    have hd : a.drop i = a[i] :: a.drop (i + 1) := List.drop_eq_getElem_cons hlt
    rw [curl_named.l0, if_pos (by rw [S_size]; omega), if_pos (by omega), bt_S a i hlt, wrap_succ i (by unfold Sm at ha; omega)]
    refine Option.bind_eq_some_iff.2 ⟨_, hs _, ?_⟩
    by_cases hc : bars.contains a[i] = true
    · have hn : nb a[i] = false := by unfold nb; rw [hc]; rfl
      have es : a = a.take i ++ a[i] :: a.drop (i + 1) := by rw [← hd, List.take_append_drop]
      have h1 : a.takeWhile nb = a.take i := by
        conv => lhs; rw [es]
        rw [List.takeWhile_append_of_pos (List.all_eq_true.1 hb), List.takeWhile_cons, if_neg (by rw [hn]; decide), List.append_nil]
      have h2 : a.dropWhile nb = a.drop i := by
        conv => lhs; rw [es]
        rw [List.dropWhile_append_of_pos (List.all_eq_true.1 hb), List.dropWhile_cons, if_neg (by rw [hn]; decide), hd]
      have h3 : (decide ((i : Int) > 0)) = !(a.take i).isEmpty := by
        cases i with
        | zero => rfl
        | succ i =>
          cases a with
          | nil => simp at hlt
          | cons c t => simp
      rw [if_pos hc, if_pos (by rw [S_size]; omega), Int.toNat_natCast, S_upto, S_from, h3]
      unfold namedL
      rw [h1, h2]
    · have hcf : bars.contains a[i] = false := Bool.eq_false_iff.2 hc
      rw [if_neg hc]
      refine named_l0 a ha s0 s1 s2 s3 hs d (i + 1) k (by omega) (by omega) ?_
      have hn : nb a[i] = true := by unfold nb; rw [hcf]; rfl
      rw [List.take_succ_eq_append_getElem hlt, List.all_append, hb, List.all_cons, hn]
      rfl
theorem named_ev (a : List UInt8) (ha : Sm a) (k : Nat) (hk : a.length < k) : curl_named.f k (S a) = some (S (namedL a).1, S (namedL a).2.1, (namedL a).2.2) := by
  unfold curl_named.f
  rw [Of_eq _ (by decide)]
  exact named_l0 a ha _ _ _ _ barsHas a.length 0 k (by omega) hk (by simp)
theorem hexC_iff (c : UInt8) : (c.toNat : Int) = 58 ∨ (c.toNat : Int) = 46 ↔ (c == 58 || c == 46) = true := by
  have h58 : (58 : UInt8).toNat = 58 := rfl
  have h46 : (46 : UInt8).toNat = 46 := rfl
  simp only [Bool.or_eq_true, beq_iff_eq, eqNat, h58, h46]
  omega
theorem numbered_l0 (a : List UInt8) (ha : Sm a) (n : Nat) (hn : n < a.length) : ∀ (d i k : Nat), i + d = n → d + 2 < k →
    curl_numbered.l0 k (S a) (n : Int) (i : Int) = some (if ((a.take n).drop i).all hexC = true then (S (a.take (n + 1)), S (a.drop (n + 1)), true) else (S [], S [], false))
  | 0, i, k, h, hk => by
    obtain ⟨k, rfl⟩ : ∃ m, k = m + 1 := ⟨k - 1, by omega⟩
    simp only [curl_numbered.l0]
    have e : (a.take n).drop i = [] := List.drop_of_length_le (by simp; omega)
    rw [if_neg (by omega), wrap_succ n (by unfold Sm at ha; omega), if_pos (by omega), if_pos (by rw [S_size]; omega), Int.toNat_natCast, S_upto, S_from, e]
    rfl
  | d + 1, i, k, h, hk => by
    obtain ⟨k, rfl⟩ : ∃ m, k = m + 1 := ⟨k - 1, by omega⟩
    have hlt : i < a.length := by omega
    have hd : (a.take n).drop i = a[i] :: (a.take n).drop (i + 1) := by
      have h1 : i < (a.take n).length := by simp; omega
      rw [List.drop_eq_getElem_cons h1, List.getElem_take]
    rw [curl_numbered.l0, if_pos (by omega), if_pos (by omega), if_pos (by rw [S_size]; omega), bt_S a i hlt, wrap_succ i (by unfold Sm at ha; omega), numbered_l0 a ha n hn d (i + 1) k (by omega) (by omega), hd, List.all_cons]
    refine Option.bind_eq_some_iff.2 ⟨_, Hex_ev _ k (by omega), ?_⟩
    have hi := hexC_iff a[i]
    by_cases h1 : hexB a[i] = true
    · have : hexC a[i] = true := by unfold hexC; rw [h1]; rfl
      rw [if_pos h1, this, Bool.true_and]
    · have h1f : hexB a[i] = false := Bool.eq_false_iff.2 h1
      rw [if_neg h1]
      by_cases h2 : (a[i].toNat : Int) = 58 ∨ (a[i].toNat : Int) = 46
      · have : hexC a[i] = true := by
          have := hi.1 h2
          unfold hexC
          rw [Bool.or_assoc, this, Bool.or_true]
        rw [this, Bool.true_and]
        rcases h2 with h3 | h3
        · rw [if_pos h3]
        · rw [if_neg (by omega), if_pos h3]
      · have : hexC a[i] = false := by
          have h4 : (a[i] == 58 || a[i] == 46) = false := Bool.eq_false_iff.2 fun h => h2 (hi.2 h)
          unfold hexC
          rw [Bool.or_assoc, h4, h1f]
          rfl
        rw [if_neg (fun h => h2 (.inl h)), if_neg (fun h => h2 (.inr h)), this, Bool.false_and, if_neg (by decide)]
        rfl
theorem numbered_ev (a : List UInt8) (ha : Sm a) (k : Nat) (hk : a.length + 2 < k) : curl_numbered.f k (S a) = some (S (numberedL a).1, S (numberedL a).2.1, (numberedL a).2.2) := by
  unfold curl_numbered.f numberedL
  have h93 := IndexByte_eq a 93
  rw [show (((93 : UInt8).toNat : Nat) : Int) = 93 from rfl] at h93
  refine Option.bind_eq_some_iff.2 ⟨_, h93, ?_⟩
  by_cases hc : a.contains 93 = true
  · have hlt := fi_contains hc
    have hlen : (a.takeWhile fun x => !(x == 93)).length = fi (fun x => x == 93) a := by rw [← take_fi, List.length_take]; omega
    rw [if_pos hc, hlen]
    by_cases h2 : 2 ≤ fi (fun x => x == 93) a
    · rw [if_neg (by omega)]
      have := numbered_l0 a ha (fi (fun x => x == 93) a) hlt (fi (fun x => x == 93) a - 1) 1 k (by omega) (by omega)
      rw [show ((1 : Nat) : Int) = 1 from rfl] at this
      rw [this, take_fi]
      have e1 : a.take (fi (fun x => x == 93) a + 1) = (a.takeWhile fun x => !(x == 93)) ++ [93] := by
        rw [List.take_succ_eq_append_getElem hlt, take_fi]
        have h := @List.findIdx_getElem _ (fun x : UInt8 => x == 93) a hlt
        have h5 : a[fi (fun x => x == 93) a] = 93 := eq_of_beq h
        rw [h5]
      have e2 : a.drop (fi (fun x => x == 93) a + 1) = (a.dropWhile fun x => !(x == 93)).drop 1 := by rw [← drop_fi, List.drop_drop]
      rw [e1, e2]
      by_cases hh : ((a.takeWhile fun x => !(x == 93)).drop 1).all hexC = true
      · rw [if_pos hh, if_pos ⟨hc, h2, hh⟩]
      · rw [if_neg hh, if_neg (fun h => hh h.2.2)]
    · rw [if_pos (by omega), if_neg (fun h => h2 h.2.1)]
      rfl
  · rw [if_neg hc, if_pos (by decide), if_neg (fun h => hc h.1)]
    rfl
theorem host_l0 (h r : List UInt8) (hr : Sm r) : ∀ (d i k : Nat), i + d = r.length → d < k → curl_host.l0 k (S h) (S r) (i : Int) = some (if (r.drop i).all digitB = true then (S h, true) else (S [], false))
  | 0, i, k, e, hk => by
    obtain ⟨k, rfl⟩ : ∃ m, k = m + 1 := ⟨k - 1, by omega⟩
    simp only [curl_host.l0]
    rw [if_neg (by rw [S_size]; omega), List.drop_of_length_le (by omega)]
    rfl
  | d + 1, i, k, e, hk => by
    obtain ⟨k, rfl⟩ : ∃ m, k = m + 1 := ⟨k - 1, by omega⟩
    have hlt : i < r.length := by omega
    have hd : r.drop i = r[i] :: r.drop (i + 1) := List.drop_eq_getElem_cons hlt
    rw [curl_host.l0, if_pos (by rw [S_size]; omega), if_pos (by omega), bt_S r i hlt, wrap_succ i (by unfold Sm at hr; omega), hd, List.all_cons, host_l0 h r hr d (i + 1) k (by omega) (by omega)]
    refine Option.bind_eq_some_iff.2 ⟨_, digit_eq _, ?_⟩
    by_cases hD : digitB r[i] = true
    · rw [if_pos hD, hD, Bool.true_and]
    · have hDf : digitB r[i] = false := Bool.eq_false_iff.2 hD
      rw [if_neg hD, hDf, Bool.false_and, if_neg (by decide)]
      rfl
theorem host_g (h r : List UInt8) (hr : Sm r) (ok : Bool) (k : Nat) (hk : r.length < k) : curl_host.g k (S h) (S r) ok = some (if ok = true ∧ portL r = true then (S h, true) else (S [], false)) := by
  unfold curl_host.g
  by_cases ho : ok = true
  · rw [if_pos ho]
    cases r with
    | nil => rw [if_pos (show (S []).size = 0 from S_size []), if_pos ⟨ho, rfl⟩]
    | cons c t =>
      rw [if_neg (by rw [S_size, List.length_cons]; omega)]
      have h0 : bt (S (c :: t)) 0 = (c.toNat : Int) := bt_S (c :: t) 0 (by simp)
      have h1 := host_l0 h (c :: t) hr t.length 1 k (by simp; omega) (by simp at hk; omega)
      rw [List.drop_succ_cons, List.drop_zero, show ((1 : Nat) : Int) = 1 from rfl] at h1
      rw [h0]
      have h58 : (58 : UInt8).toNat = 58 := rfl
      by_cases hc : c = 58
      · rw [if_pos (by rw [hc]; rfl), h1]
        simp only [portL, hc, ho, beq_self_eq_true, Bool.true_and, true_and]
      · have : ¬ (c.toNat : Int) = 58 := fun h => hc ((eqNat _ _).2 (by omega))
        rw [if_neg this, if_neg]
        · rfl
        · simp [portL, hc]
  · rw [if_neg ho, if_neg (fun h => ho h.1)]
    rfl
theorem placeL_len (a : List UInt8) : (placeL a).length ≤ a.length := by
  unfold placeL
  split
  · exact (cutL_len a 64).2
  · exact Nat.le_refl _
theorem drop_len (p : UInt8 → Bool) (l : List UInt8) : (l.dropWhile p).length ≤ l.length := (List.dropWhile_suffix _).length_le
theorem readL_len (a : List UInt8) : (readL a).2.1.length ≤ a.length := by
  unfold readL numberedL namedL
  split
  · split
    · simp only [List.length_drop]
      have := drop_len (fun x => !(x == 93)) a
      omega
    · simp
  · exact drop_len nb a
theorem host_ev (a : List UInt8) (ha : Sm a) (k : Nat) (hk : a.length + 2 < k) : curl_host.f k (S a) = some (S (hostL a).1, (hostL a).2) := by
  unfold curl_host.f hostL
  refine Option.bind_eq_some_iff.2 ⟨_, Cut_eq a ha 64, ?_⟩
  have hp : (if (cutL a 64).2.2 = true then S (cutL a 64).2.1 else S a) = S (placeL a) := by
    unfold placeL
    have : (cutL a 64).2.2 = a.contains 64 := rfl
    rw [this]
    split <;> rfl
  simp only [hp]
  have hl := placeL_len a
  generalize placeL a = p at *
  clear hp
  have hsp : Sm p := by unfold Sm at *; omega
  refine Option.bind_eq_some_iff.2 ⟨_, HasPrefix_eq p [91], ?_⟩
  have hr : (if ([91] : List UInt8).isPrefixOf p = true then curl_numbered.f k (S p) else curl_named.f k (S p)) = some (S (readL p).1, S (readL p).2.1, (readL p).2.2) := by
    unfold readL
    by_cases h : ([91] : List UInt8).isPrefixOf p = true
    · rw [if_pos h, if_pos h]; exact numbered_ev p hsp k (by omega)
    · rw [if_neg h, if_neg h]; exact named_ev p hsp k (by omega)
  refine Option.bind_eq_some_iff.2 ⟨_, hr, ?_⟩
  have hrl := readL_len p
  rw [host_g _ _ (by unfold Sm at *; omega) _ k (by omega)]
  split <;> rfl
def parseL (w : List UInt8) : Bool × List UInt8 × List UInt8 :=
  if w.all cleanB = true then (if (hostL ((behindL w).takeWhile noSQF)).2 = true then (true, (hostL ((behindL w).takeWhile noSQF)).1, ((behindL w).dropWhile noSQF).takeWhile noQF) else (false, [], [])) else (false, [], [])
theorem trim1_len (w : List UInt8) : (trim1 w).length ≤ w.length := by
  unfold trim1 Lib.trimPrefix
  split
  · simp
  · exact Nat.le_refl _
theorem behindL_len (w : List UInt8) : (behindL w).length ≤ w.length := by
  unfold behindL behindAt
  split
  · exact Nat.le_refl _
  · split
    · have h1 := trim1_len (trim1 (trim1 (w.drop (runS w + 1))))
      have h2 := trim1_len (trim1 (w.drop (runS w + 1)))
      have h3 := trim1_len (w.drop (runS w + 1))
      rw [List.length_drop] at h3
      omega
    · exact Nat.le_refl _
theorem Parse_ev (w : List UInt8) (hw : Sm w) (k : Nat) (hk : w.length + 7 < k) : curl_Parse.f k (S w) = some (toB (parseL w)) := by
  unfold curl_Parse.f parseL
  refine Option.bind_eq_some_iff.2 ⟨_, clean_ev w hw k (by omega), ?_⟩
  by_cases hc : w.all cleanB = true
  · rw [if_pos hc, if_pos hc]
    refine Option.bind_eq_some_iff.2 ⟨_, behind_ev w hw k hk, ?_⟩
    have hl := behindL_len w
    generalize behindL w = b at *
    have hsa : (b.takeWhile noSQF).length ≤ b.length := (List.takeWhile_prefix _).length_le
    refine Option.bind_eq_some_iff.2 ⟨_, curl_upTo_eq b [47, 63, 35] (by decide), ?_⟩
    have hh := host_ev (b.takeWhile noSQF) (by unfold Sm at *; omega) k (by omega)
    refine Option.bind_eq_some_iff.2 ⟨_, hh, ?_⟩
    by_cases ho : (hostL (b.takeWhile noSQF)).2 = true
    · rw [if_pos ho, if_pos ho]
      refine Option.bind_eq_some_iff.2 ⟨_, curl_upTo_eq (b.dropWhile noSQF) [63, 35] (by decide), ?_⟩
      rfl
    · rw [if_neg ho, if_neg ho]
      rfl
  · rw [if_neg hc, if_neg hc]
    rfl
theorem trim1_hit (t : List UInt8) : trim1 (47 :: t) = t := by
  unfold trim1 Lib.trimPrefix Lib.hasPrefix
  simp
theorem trim1_miss {c : UInt8} (t : List UInt8) (h : c ≠ 47) : trim1 (c :: t) = c :: t := by
  unfold trim1 Lib.trimPrefix Lib.hasPrefix
  have : ([47] : List UInt8).isPrefixOf (c :: t) = false := by
    have h2 : ((47 : UInt8) == c) = false := beq_eq_false_iff_ne.2 (Ne.symm h)
    rw [List.isPrefixOf_cons_cons, h2]
    rfl
  rw [if_neg (by rw [this]; decide)]
theorem runS_at {s t : List UInt8} {c : UInt8} (h : isScheme s = true) (hc : schemeB c = false) : runS (s ++ c :: t) = s.length := by
  cases s with
  | nil => simp [isScheme] at h
  | cons a s =>
    simp only [isScheme, List.all_cons, Bool.and_eq_true] at h
    simp only [List.cons_append, runS]
    rw [if_pos h.1, List.takeWhile_append_of_pos (List.all_eq_true.1 h.2.2), List.takeWhile_cons, if_neg (by rw [hc]; decide), List.append_nil, List.length_cons]
    omega
end Go.Proofs.Ytpejenbhgfbjjaa.Cu

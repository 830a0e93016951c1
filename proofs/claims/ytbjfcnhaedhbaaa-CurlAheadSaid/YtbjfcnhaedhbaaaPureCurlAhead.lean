/- CurlAhead answers true for every text and every scheme of three: ahead of a text of at most 300 bytes that begins neither with / nor with a scheme, a scheme and up to three slashes change nothing that curl.Parse tells, four refuse (no conditions but the row's size bound). -/
import Derived.OpenShut
import Derived.Test.YtbjfcnhaedhbaaaCurl
import Derived.Test.YtbjfcnhaedhbaaaZA15
import Derived.Test.YtbjfcnhaedhbaaaZA16
namespace Go.Proofs.Ytbjfcnhaedhbaaa.Pure
open Go.RowKit Go.Proofs.Ytbjfcnhaedhbaaa.ZA Go.Proofs.YtbjfcnhaedhbaaaW.PrintWords Go.Proofs.YtbjfcnhaedhbaaaW.PrintLast Go.Proofs.Ytbjfcnhaedhbaaa.L Go.Proofs.Ytbjfcnhaedhbaaa.Str Go.Proofs.Ytbjfcnhaedhbaaa.Py

theorem awake22a (k : Nat) (hk : 100 ≤ k) : shibbolethlaw22_awake.f k = some true := at_rounds (g := fun k => shibbolethlaw22_awake.f k) shibbolethlaw22_awake.mono hk (by kernel_rfl)
def schemeTail (c : UInt8) : Bool := digitB c || c == 43 || c == 45 || c == 46
theorem scheme_tail (c : UInt8) : schemeB c = (letterB c || schemeTail c) := by
  unfold schemeB schemeTail
  simp only [Bool.or_assoc]
theorem schemed_j1 (w : List UInt8) (hw : Sm w) (i : Nat) (hi : i < w.length) (c : UInt8) (k : Nat) :
    shibbolethlaw22_schemed.j1 (k + 1) (S w) (i : Int) (c.toNat : Int) false = if (letterB c || (!decide (i = 0) && schemeTail c)) = true then shibbolethlaw22_schemed.l0 k (S w) ((i + 1 : Nat) : Int) else some false := by
  have hl := Cu.letter_eq c
  unfold curl_letter.f at hl
  have h43 : (c == 43) = decide ((c.toNat : Int) = 43) := by rw [Bool.eq_iff_iff, beq_iff_eq, decide_eq_true_eq, Cu.eqNat, show (43 : UInt8).toNat = 43 from rfl]; omega
  have h45 : (c == 45) = decide ((c.toNat : Int) = 45) := by rw [Bool.eq_iff_iff, beq_iff_eq, decide_eq_true_eq, Cu.eqNat, show (45 : UInt8).toNat = 45 from rfl]; omega
  have h46 : (c == 46) = decide ((c.toNat : Int) = 46) := by rw [Bool.eq_iff_iff, beq_iff_eq, decide_eq_true_eq, Cu.eqNat, show (46 : UInt8).toNat = 46 from rfl]; omega
  have hdg : digitB c = (decide ((c.toNat : Int) ≥ 48) && decide ((c.toNat : Int) ≤ 57)) := by
    unfold digitB
    rw [Bool.eq_iff_iff]
    simp only [Bool.and_eq_true, decide_eq_true_eq]
    omega
  have hi0 : decide (i = 0) = decide ((i : Int) = 0) := by rw [Bool.eq_iff_iff, decide_eq_true_eq, decide_eq_true_eq]; omega
  unfold schemeTail
  rw [shibbolethlaw22_schemed.j1, if_neg (by decide), wrap_succ i (by unfold Sm at hw; omega), h43, h45, h46, hdg, hi0]
  generalize shibbolethlaw22_schemed.l0 k (S w) ((i + 1 : Nat) : Int) = X
  generalize Go.bits .or .u8 (c.toNat : Int) 32 = b at *
  generalize letterB c = L at *
  clear h43 h45 h46 hdg hi0
  generalize (c.toNat : Int) = n at *
  have hL : L = (decide (b ≥ 97) && decide (b ≤ 122)) := by
    by_cases h1 : b ≥ 97
    · rw [if_pos h1] at hl
      injection hl with hl
      rw [← hl, decide_eq_true h1, Bool.true_and]
    · rw [if_neg h1] at hl
      injection hl with hl
      rw [← hl, decide_eq_false h1, Bool.false_and]
  rw [hL]
  clear hL hl
  by_cases a : b ≥ 97 <;> by_cases a2 : b ≤ 122 <;> by_cases a3 : (i : Int) = 0 <;> by_cases a4 : n ≥ 48 <;> by_cases a5 : n ≤ 57 <;> by_cases a6 : n = 43 <;> by_cases a7 : n = 45 <;> by_cases a8 : n = 46 <;> first | omega | simp [a, a2, a3, a4, a5, a6, a7, a8]
theorem schemed_l0 (w : List UInt8) (hw : Sm w) : ∀ (d i k : Nat), i + d = w.length → 2 * d + 2 < k →
    shibbolethlaw22_schemed.l0 k (S w) (i : Int) = some (if i = 0 then (!decide (Cu.runS w = 0) && ([58, 47] : List UInt8).isPrefixOf (w.drop (Cu.runS w))) else ([58, 47] : List UInt8).isPrefixOf ((w.drop i).dropWhile schemeB))
  | 0, i, k, h, hk => by
    obtain ⟨k, rfl⟩ : ∃ m, k = m + 1 := ⟨k - 1, by omega⟩
    rw [shibbolethlaw22_schemed.l0, wrap_succ i (by unfold Sm at hw; omega), if_neg (by rw [S_size]; omega)]
    by_cases h0 : i = 0
    · have : w = [] := List.length_eq_zero_iff.1 (by omega)
      rw [if_pos h0, this]
      rfl
    · rw [if_neg h0, List.drop_of_length_le (by omega)]
      rfl
  | d + 1, i, k, h, hk => by
    obtain ⟨k, rfl⟩ : ∃ m, k = m + 2 := ⟨k - 2, by omega⟩
    have hlt : i < w.length := by omega
    have hd : w.drop i = w[i] :: w.drop (i + 1) := List.drop_eq_getElem_cons hlt
    have ih := schemed_l0 w hw d (i + 1) k (by omega) (by omega)
    rw [if_neg (show ¬ (i + 1 = 0) by omega)] at ih
    have tail0 : i = 0 → w.drop (Cu.runS w) = (if letterB w[i] = true then (w.drop (i + 1)).dropWhile schemeB else w) ∧ (Cu.runS w = 0 ↔ ¬ letterB w[i] = true) := by
      rintro rfl
      have hw2 : w = w[0] :: w.drop 1 := by rw [List.drop_zero] at hd; exact hd
      have hr : Cu.runS w = if letterB w[0] = true then 1 + ((w.drop 1).takeWhile schemeB).length else 0 := by
        conv => lhs; rw [hw2]
        rfl
      rw [hr]
      by_cases hL : letterB w[0] = true
      · rw [if_pos hL, if_pos hL]
        refine ⟨?_, by simp [hL]⟩
        rw [← List.drop_drop]
        generalize w.drop 1 = t
        show t.drop _ = t.dropWhile schemeB
        have e := List.takeWhile_append_dropWhile (p := schemeB) (l := t)
        generalize t.takeWhile schemeB = u at *
        generalize t.dropWhile schemeB = v at *
        rw [← e, List.drop_left]
      · rw [if_neg hL, if_neg hL]
        exact ⟨rfl, by simp [hL]⟩
    by_cases hl : i + 1 < w.length
    · have hd2 : w.drop (i + 1) = w[i + 1] :: w.drop (i + 2) := List.drop_eq_getElem_cons hl
      rw [shibbolethlaw22_schemed.l0, wrap_succ i (by unfold Sm at hw; omega), if_pos (by rw [S_size]; omega), if_pos (by omega), if_pos (by rw [S_size]; omega), bt_S w i hlt]
      have h58 : (58 : UInt8).toNat = 58 := rfl
      have e58 : ((w[i].toNat : Int) == 58) = (w[i] == 58) := by
        rw [Bool.eq_iff_iff, beq_iff_eq, beq_iff_eq, Cu.eqNat, h58]; omega
      by_cases h0 : i = 0
      · obtain ⟨t1, t2⟩ := tail0 h0
        rw [if_neg (by omega), schemed_j1 w hw i hlt, ih, if_pos h0, t1]
        by_cases hL : letterB w[i] = true
        · have : ¬ Cu.runS w = 0 := fun h => t2.1 h hL
          rw [if_pos (by rw [hL]; rfl), if_pos hL, decide_eq_false this]
          rfl
        · rw [if_neg hL, if_neg (by rw [Bool.eq_false_iff.2 hL, decide_eq_true h0]; exact Bool.false_ne_true), decide_eq_true (t2.2 hL)]
          rfl
      · rw [if_pos (by omega), if_neg h0, e58, hd]
        by_cases hc : w[i] = 58
        · have hs : schemeB w[i] = false := by rw [hc]; decide
          rw [hc, List.dropWhile_cons, if_neg (by decide), hd2, shibbolethlaw22_schemed.j1, if_pos (by decide), wrap_succ i (by unfold Sm at hw; omega), if_pos (by omega), if_pos (by rw [S_size]; omega)]
          have hb : bt (S w) ((i + 1 : Nat) : Int) = (w[i + 1].toNat : Int) := bt_S w (i + 1) hl
          have h47 : (47 : UInt8).toNat = 47 := rfl
          rw [hb, List.isPrefixOf_cons_cons, List.isPrefixOf_cons_cons, List.isPrefixOf_nil_left, Bool.and_true, beq_self_eq_true, Bool.true_and]
          congr 1
          rw [Bool.eq_iff_iff, beq_iff_eq, beq_iff_eq, Cu.eqNat, h47]
          omega
        · have hcf : (w[i] == 58) = false := beq_eq_false_iff_ne.2 hc
          rw [hcf, schemed_j1 w hw i hlt, ih, decide_eq_false h0, Bool.not_false, Bool.true_and, ← scheme_tail, List.dropWhile_cons]
          by_cases hs : schemeB w[i] = true
          · rw [if_pos hs, if_pos hs]
          · rw [if_neg hs, if_neg hs, List.isPrefixOf_cons_cons]
            have : ((58 : UInt8) == w[i]) = false := beq_eq_false_iff_ne.2 (Ne.symm hc)
            rw [this]
            rfl
    · have hdn : w.drop (i + 1) = [] := List.drop_of_length_le (by omega)
      rw [shibbolethlaw22_schemed.l0, wrap_succ i (by unfold Sm at hw; omega), if_neg (by rw [S_size]; omega)]
      by_cases h0 : i = 0
      · obtain ⟨t1, t2⟩ := tail0 h0
        rw [if_pos h0, t1, hdn]
        by_cases hL : letterB w[i] = true
        · rw [if_pos hL]
          simp
        · rw [decide_eq_true (t2.2 hL)]
          rfl
      · rw [if_neg h0, hd, hdn, List.dropWhile_cons]
        split
        · rfl
        · rw [List.isPrefixOf_cons_cons]
          exact congrArg some (Bool.and_false _).symm
theorem schemed_ev (w : List UInt8) (hw : Sm w) (k : Nat) (hk : 2 * w.length + 2 < k) : shibbolethlaw22_schemed.f k (S w) = some (!decide (Cu.runS w = 0) && ([58, 47] : List UInt8).isPrefixOf (w.drop (Cu.runS w))) := by
  have := schemed_l0 w hw w.length 0 k (by omega) hk
  rw [if_pos rfl] at this
  exact this
theorem behind_unschemed {w : List UInt8} (h : (!decide (Cu.runS w = 0) && ([58, 47] : List UInt8).isPrefixOf (w.drop (Cu.runS w))) = false) : Cu.behindL w = w := by
  unfold Cu.behindL Cu.behindAt
  by_cases h0 : Cu.runS w = 0
  · rw [if_pos h0]
  · rw [decide_eq_false h0, Bool.not_false, Bool.true_and] at h
    rw [if_neg h0, h, if_neg (by decide)]
/-- What begins with no slash stays. -/
theorem trim1_stay {w : List UInt8} (h : ∀ c t, w = c :: t → c ≠ 47) : Cu.trim1 w = w := by
  cases w with
  | nil => rfl
  | cons c t => exact Cu.trim1_miss t (h c t rfl)
theorem drop_scheme (s t : List UInt8) : (s ++ 58 :: t).drop (s.length + 1) = t := by
  have e : s ++ 58 :: t = (s ++ [58]) ++ t := by simp
  have l : (s ++ [58]).length = s.length + 1 := by simp
  rw [e, ← l, List.drop_left]
theorem behind_ahead {s : List UInt8} (hs : isScheme s = true) (t : List UInt8) : Cu.behindL (s ++ 58 :: 47 :: t) = Cu.trim1 (Cu.trim1 t) := by
  have hr := Cu.runS_at (t := 47 :: t) hs (show schemeB 58 = false by decide)
  have h0 : s.length ≠ 0 := by
    cases s with
    | nil => exact absurd hs (by decide)
    | cons c s => simp
  unfold Cu.behindL Cu.behindAt
  rw [hr, if_neg h0, List.drop_left, if_pos (by simp), drop_scheme, Cu.trim1_hit]
def tellL (b : List UInt8) : Bool × List UInt8 × List UInt8 := if (Cu.hostL (b.takeWhile noSQF)).2 = true then (true, (Cu.hostL (b.takeWhile noSQF)).1, (b.dropWhile noSQF).takeWhile noQF) else (false, [], [])
theorem parse_tell (w : List UInt8) : Cu.parseL w = if w.all Cu.cleanB = true then tellL (Cu.behindL w) else (false, [], []) := rfl
theorem clean_ahead {s : List UInt8} (hs : s.all Cu.cleanB = true) (m w : List UInt8) (hm : m.all Cu.cleanB = true) : (s ++ (m ++ w)).all Cu.cleanB = w.all Cu.cleanB := by
  rw [List.all_append, List.all_append, hs, hm, Bool.true_and, Bool.true_and]
theorem same (r : Bool × List UInt8 × List UInt8) : ((toB r).1 == (toB r).1 && ((toB r).2.1.toList == (toB r).2.1.toList && ((toB r).2.2.toList == (toB r).2.2.toList))) = true := by simp
theorem ahead_j0 (w : List UInt8) (hw : w.length ≤ 300) (h1 : Cu.behindL w = w) (h2 : ∀ c t, w = c :: t → c ≠ 47) (x : Int) (hx0 : 0 ≤ x) (k : Nat) (hk : 1000 < k) :
    shibbolethlaw22_CurlAhead.j0 (k + 1) (S w) x false = some true := by
  obtain ⟨s, hs, hsc, hsl, hm0, hm1⟩ : ∃ s : List UInt8, rdOf ByteArray.empty ([⟨#[104, 116, 116, 112]⟩, ⟨#[120]⟩, ⟨#[65, 43, 49, 45, 46, 98]⟩] : List ByteArray) (Int.tmod x 3) = S s ∧ isScheme s = true ∧ s.length ≤ 6 ∧ 0 ≤ Int.tmod x 3 ∧ Int.tmod x 3 < (([⟨#[104, 116, 116, 112]⟩, ⟨#[120]⟩, ⟨#[65, 43, 49, 45, 46, 98]⟩] : List ByteArray).length : Int) := by
    have hm : Int.tmod x 3 = x % 3 := Int.tmod_eq_emod_of_nonneg hx0
    rw [hm]
    have hc : x % 3 = 0 ∨ x % 3 = 1 ∨ x % 3 = 2 := by omega
    rcases hc with h | h | h <;> rw [h]
    · exact ⟨[104, 116, 116, 112], rfl, by decide, by decide, by decide, by decide⟩
    · exact ⟨[120], rfl, by decide, by decide, by decide, by decide⟩
    · exact ⟨[65, 43, 49, 45, 46, 98], rfl, by decide, by decide, by decide, by decide⟩
  have hcs : s.all Cu.cleanB = true := by
    have hall : s.all schemeB = true := by
      cases s with
      | nil => rfl
      | cons a s => simp only [isScheme, Bool.and_eq_true] at hsc; exact hsc.2
    refine List.all_eq_true.2 fun c hc => ?_
    have h := List.all_eq_true.1 hall c hc
    have h5 := Cu.all_bytes (p := fun n => !(schemeB (UInt8.ofNat n)) || Cu.cleanB (UInt8.ofNat n)) (by kernel_rfl) c
    rw [UInt8.ofNat_toNat, h] at h5
    exact h5
  have p0 : Cu.parseL w = if w.all Cu.cleanB = true then tellL w else (false, [], []) := by rw [parse_tell, h1]
  have t0 := trim1_stay h2
  have p3 : Cu.parseL (s ++ ([58, 47, 47] ++ w)) = Cu.parseL w := by
    rw [p0, parse_tell, clean_ahead hcs _ _ (by decide)]
    show (if w.all Cu.cleanB = true then tellL (Cu.behindL (s ++ 58 :: 47 :: (47 :: w))) else _) = _
    rw [behind_ahead hsc, Cu.trim1_hit, t0]
  have p2 : Cu.parseL (s ++ ([58, 47] ++ w)) = Cu.parseL w := by
    rw [p0, parse_tell, clean_ahead hcs _ _ (by decide)]
    show (if w.all Cu.cleanB = true then tellL (Cu.behindL (s ++ 58 :: 47 :: w)) else _) = _
    rw [behind_ahead hsc, t0, t0]
  have p4 : Cu.parseL (s ++ ([58, 47, 47, 47] ++ w)) = Cu.parseL w := by
    rw [p0, parse_tell, clean_ahead hcs _ _ (by decide)]
    show (if w.all Cu.cleanB = true then tellL (Cu.behindL (s ++ 58 :: 47 :: (47 :: 47 :: w))) else _) = _
    rw [behind_ahead hsc, Cu.trim1_hit, Cu.trim1_hit]
  have p5 : Cu.parseL (s ++ ([58, 47, 47, 47, 47] ++ w)) = (false, [], []) := by
    rw [parse_tell, clean_ahead hcs _ _ (by decide)]
    show (if w.all Cu.cleanB = true then tellL (Cu.behindL (s ++ 58 :: 47 :: (47 :: 47 :: 47 :: w))) else _) = _
    rw [behind_ahead hsc, Cu.trim1_hit, Cu.trim1_hit]
    have : tellL (47 :: w) = (false, [], []) := by
      unfold tellL
      have e : (47 :: w).takeWhile noSQF = [] := by rw [List.takeWhile_cons, if_neg (by decide)]
      rw [e, if_neg (by decide)]
    rw [this]
    split <;> rfl
  have hsm : ∀ m : List UInt8, m.length ≤ 5 → Sm (s ++ (m ++ w)) ∧ (s ++ (m ++ w)).length + 7 < k := fun m hm => by
    have : (s ++ (m ++ w)).length = s.length + (m.length + w.length) := by rw [List.length_append, List.length_append]
    unfold Sm
    omega
  have e0 := Cu.Parse_ev w (by unfold Sm; omega) k (by omega)
  have e3 := Cu.Parse_ev _ (hsm [58, 47, 47] (by decide)).1 k (hsm [58, 47, 47] (by decide)).2
  have e2 := Cu.Parse_ev _ (hsm [58, 47] (by decide)).1 k (hsm [58, 47] (by decide)).2
  have e4 := Cu.Parse_ev _ (hsm [58, 47, 47, 47] (by decide)).1 k (hsm [58, 47, 47, 47] (by decide)).2
  have e5 := Cu.Parse_ev _ (hsm [58, 47, 47, 47, 47] (by decide)).1 k (hsm [58, 47, 47, 47, 47] (by decide)).2
  rw [p3] at e3
  rw [p2] at e2
  rw [p4] at e4
  rw [p5] at e5
  rw [shibbolethlaw22_CurlAhead.j0, if_neg (by decide)]
  refine Option.bind_eq_some_iff.2 ⟨_, rfl, ?_⟩
  rw [if_pos hm0, if_pos hm1, hs]
  generalize Int.tmod x 3 = y at *
  generalize Cu.parseL w = r at *
  refine Option.bind_eq_some_iff.2 ⟨_, e0, ?_⟩
  simp only [lit, S_append, List.append_assoc]
  rw [if_pos (by rw [S_size]; omega), if_pos (by simp only [S_size, List.length_append, List.length_cons, List.length_nil]; omega)]
  refine Option.bind_eq_some_iff.2 ⟨_, e3, ?_⟩
  rw [if_pos (same r), if_pos (by rw [S_size]; omega), if_pos (by simp only [S_size, List.length_append, List.length_cons, List.length_nil]; omega)]
  refine Option.bind_eq_some_iff.2 ⟨_, e2, ?_⟩
  rw [if_pos (same r), if_pos (by rw [S_size]; omega), if_pos (by simp only [S_size, List.length_append, List.length_cons, List.length_nil]; omega)]
  refine Option.bind_eq_some_iff.2 ⟨_, e4, ?_⟩
  rw [if_pos (same r), if_pos (by rw [S_size]; omega), if_pos (by simp only [S_size, List.length_append, List.length_cons, List.length_nil]; omega)]
  refine Option.bind_eq_some_iff.2 ⟨_, e5, ?_⟩
  rw [if_pos (by simp [toB])]
  refine Option.bind_eq_some_iff.2 ⟨_, awake22a k (by omega), ?_⟩
  rfl
theorem ahead_far (a : ByteArray) (x : Int) (k : Nat) (hk : 1000 < k) : shibbolethlaw22_CurlAhead.j0 (k + 1) a x true = some true := by
  rw [shibbolethlaw22_CurlAhead.j0, if_pos rfl]
  refine Option.bind_eq_some_iff.2 ⟨_, awake22a k (by omega), ?_⟩
  rfl
theorem CurlAhead : shibbolethlaw22_CurlAhead.Pure := by
  intro a x h hx
  obtain ⟨w, rfl⟩ := S_surj a
  have hw : Sm w := h
  obtain ⟨c1, c2⟩ := bounds_u8 hx
  refine ⟨2 * w.length + 2000 + 1, ?_⟩
  unfold shibbolethlaw22_CurlAhead.f
  by_cases hlen : ((S w).size : Int) > 300
  · rw [if_pos hlen]
    exact ahead_far _ _ _ (by omega)
  · rw [if_neg hlen]
    rw [S_size] at hlen
    refine Option.bind_eq_some_iff.2 ⟨_, schemed_ev w hw _ (by omega), ?_⟩
    by_cases hs : (!decide (Cu.runS w = 0) && ([58, 47] : List UInt8).isPrefixOf (w.drop (Cu.runS w))) = true
    · rw [if_pos hs]
      exact ahead_far _ _ _ (by omega)
    · rw [if_neg hs]
      have hb := behind_unschemed (Bool.eq_false_iff.2 hs)
      cases w with
      | nil =>
        rw [if_neg (by decide)]
        exact ahead_j0 [] (by decide) hb (fun c t e => by cases e) x c1 _ (by simp)
      | cons c t =>
        have hbt : bt (S (c :: t)) 0 = (c.toNat : Int) := bt_S (c :: t) 0 (by simp)
        have h47 : (47 : UInt8).toNat = 47 := rfl
        rw [if_pos (by rw [S_size, List.length_cons]; omega), if_pos (by rw [S_size, List.length_cons]; omega), hbt]
        by_cases hc : c = 47
        · have : ((c.toNat : Int) == 47) = true := by rw [hc]; rfl
          rw [this]
          exact ahead_far _ _ _ (by omega)
        · have : ((c.toNat : Int) == 47) = false := by
            rw [beq_eq_false_iff_ne]
            exact fun h => hc ((Cu.eqNat _ _).2 (by omega))
          rw [this]
          refine ahead_j0 (c :: t) (by omega) hb ?_ x c1 _ (by omega)
          intro c2 t2 e
          injection e with e1 e2
          rw [← e1]
          exact hc
end Go.Proofs.Ytbjfcnhaedhbaaa.Pure

/- CurlSpans answers true for every text: of one of at most 300 bytes what curl.Parse tells stands in it, host ahead of path, or nothing is told (no conditions but the row's size bound). -/
import Derived.Test.YtbjfcnhaedhbaaaCurl
import Derived.Test.YtbjfcnhaedhbaaaZA20
namespace Go.Proofs.Ytbjfcnhaedhbaaa.Pure
open Go.RowKit Go.Proofs.Ytbjfcnhaedhbaaa.ZA Go.Proofs.YtbjfcnhaedhbaaaW.PrintWords Go.Proofs.YtbjfcnhaedhbaaaW.PrintLast Go.Proofs.Ytbjfcnhaedhbaaa.L Go.Proofs.Ytbjfcnhaedhbaaa.Str Go.Proofs.Ytbjfcnhaedhbaaa.Py

theorem awake22s (k : Nat) (hk : 100 ≤ k) : shibbolethlaw22_awake.f k = some true := at_rounds (g := fun k => shibbolethlaw22_awake.f k) shibbolethlaw22_awake.mono hk (by kernel_rfl)
theorem trim1_tail (w : List UInt8) : ∃ p, w = p ++ Cu.trim1 w := by
  unfold Cu.trim1 Lib.trimPrefix
  split
  · exact ⟨w.take [47].length, (List.take_append_drop ..).symm⟩
  · exact ⟨[], rfl⟩
theorem behind_tail (w : List UInt8) : ∃ p, w = p ++ Cu.behindL w := by
  unfold Cu.behindL Cu.behindAt
  split
  · exact ⟨[], rfl⟩
  · split
    · obtain ⟨p3, e3⟩ := trim1_tail (Cu.trim1 (Cu.trim1 (w.drop (Cu.runS w + 1))))
      obtain ⟨p2, e2⟩ := trim1_tail (Cu.trim1 (w.drop (Cu.runS w + 1)))
      obtain ⟨p1, e1⟩ := trim1_tail (w.drop (Cu.runS w + 1))
      refine ⟨w.take (Cu.runS w + 1) ++ p1 ++ p2 ++ p3, ?_⟩
      conv => lhs; rw [← List.take_append_drop (Cu.runS w + 1) w, e1, e2, e3]
      simp only [List.append_assoc]
    · exact ⟨[], rfl⟩
theorem place_tail (a : List UInt8) : ∃ p, a = p ++ Cu.placeL a := by
  unfold Cu.placeL cutL
  split
  · refine ⟨a.take (fi (fun x => x == 64) a + 1), ?_⟩
    show a = _ ++ (a.dropWhile fun x => !(x == 64)).drop 1
    rw [← drop_fi, List.drop_drop, List.take_append_drop]
  · exact ⟨[], rfl⟩
theorem read_parts (a : List UInt8) (h : (Cu.readL a).2.2 = true) : a = (Cu.readL a).1 ++ (Cu.readL a).2.1 ∧ (Cu.readL a).1 ≠ [] := by
  unfold Cu.readL at *
  by_cases hb : ([91] : List UInt8).isPrefixOf a = true
  · rw [if_pos hb] at h ⊢
    unfold Cu.numberedL at *
    by_cases hc : a.contains 93 = true ∧ 2 ≤ (a.takeWhile fun x => !(x == 93)).length ∧ ((a.takeWhile fun x => !(x == 93)).drop 1).all Cu.hexC = true
    · rw [if_pos hc]
      refine ⟨?_, by simp⟩
      have hlt := fi_contains hc.1
      have h5 := @List.findIdx_getElem _ (fun x : UInt8 => x == 93) a hlt
      have h6 : a[fi (fun x => x == 93) a] = 93 := eq_of_beq h5
      have hd : a.drop (fi (fun x => x == 93) a) = 93 :: a.drop (fi (fun x => x == 93) a + 1) := by rw [List.drop_eq_getElem_cons hlt, h6]
      show a = ((a.takeWhile fun x => !(x == 93)) ++ [93]) ++ (a.dropWhile fun x => !(x == 93)).drop 1
      rw [List.append_assoc, ← drop_fi, List.drop_drop]
      show a = (a.takeWhile fun x => !(x == 93)) ++ (93 :: a.drop (fi (fun x => x == 93) a + 1))
      rw [← hd, ← take_fi, List.take_append_drop]
    · rw [if_neg hc] at h
      exact absurd h (by decide)
  · rw [if_neg hb] at h ⊢
    unfold Cu.namedL at *
    refine ⟨List.takeWhile_append_dropWhile.symm, ?_⟩
    intro he
    have h2 : (!(a.takeWhile Cu.nb).isEmpty) = true := h
    replace he : a.takeWhile Cu.nb = [] := he
    rw [he] at h2
    exact absurd h2 (by decide)
/-- What is told stands in the text. -/
theorem told_in (w : List UInt8) (h : (Cu.parseL w).1 = true) : ∃ a b c, w = a ++ (Cu.parseL w).2.1 ++ b ++ (Cu.parseL w).2.2 ++ c ∧ (Cu.parseL w).2.1 ≠ [] := by
  unfold Cu.parseL at *
  by_cases hc : w.all Cu.cleanB = true
  · rw [if_pos hc] at h ⊢
    by_cases ho : (Cu.hostL ((Cu.behindL w).takeWhile noSQF)).2 = true
    · rw [if_pos ho]
      obtain ⟨p0, e0⟩ := behind_tail w
      have e1 : Cu.behindL w = (Cu.behindL w).takeWhile noSQF ++ (Cu.behindL w).dropWhile noSQF := List.takeWhile_append_dropWhile.symm
      have e2 : (Cu.behindL w).dropWhile noSQF = ((Cu.behindL w).dropWhile noSQF).takeWhile noQF ++ ((Cu.behindL w).dropWhile noSQF).dropWhile noQF := List.takeWhile_append_dropWhile.symm
      obtain ⟨p1, e3⟩ := place_tail ((Cu.behindL w).takeWhile noSQF)
      unfold Cu.hostL at *
      by_cases hr : (Cu.readL (Cu.placeL ((Cu.behindL w).takeWhile noSQF))).2.2 = true ∧ Cu.portL (Cu.readL (Cu.placeL ((Cu.behindL w).takeWhile noSQF))).2.1 = true
      · rw [if_pos hr]
        obtain ⟨e4, hne⟩ := read_parts _ hr.1
        refine ⟨p0 ++ p1, (Cu.readL (Cu.placeL ((Cu.behindL w).takeWhile noSQF))).2.1, ((Cu.behindL w).dropWhile noSQF).dropWhile noQF, ?_, hne⟩
        show w = p0 ++ p1 ++ (Cu.readL (Cu.placeL ((Cu.behindL w).takeWhile noSQF))).1 ++ (Cu.readL (Cu.placeL ((Cu.behindL w).takeWhile noSQF))).2.1 ++ ((Cu.behindL w).dropWhile noSQF).takeWhile noQF ++ ((Cu.behindL w).dropWhile noSQF).dropWhile noQF
        rw [List.append_assoc _ (((Cu.behindL w).dropWhile noSQF).takeWhile noQF), ← e2, List.append_assoc (p0 ++ p1), ← e4, List.append_assoc p0, ← e3, List.append_assoc, ← e1]
        exact e0
      · rw [if_neg hr] at ho
        exact absurd ho (by decide)
    · rw [if_neg ho] at h
      exact absurd h (by decide)
  · rw [if_neg hc] at h
    exact absurd h (by decide)
theorem refused_bare (w : List UInt8) (h : (Cu.parseL w).1 = false) : Cu.parseL w = (false, [], []) := by
  unfold Cu.parseL at *
  by_cases hc : w.all Cu.cleanB = true
  · rw [if_pos hc] at h ⊢
    by_cases ho : (Cu.hostL ((Cu.behindL w).takeWhile noSQF)).2 = true
    · rw [if_pos ho] at h
      exact absurd (show true = false from h) (by decide)
    · rw [if_neg ho]
  · rw [if_neg hc]
theorem wrap_add (i n : Nat) (h : i + n ≤ 140737488355328) : wrap64 ((i : Int) + (n : Int)) = ((i + n : Nat) : Int) := by rw [wrap_id (by omega) (by omega)]; omega
theorem spans_l1 (w : List UInt8) (hw : w.length ≤ 300) (x4 : Int) (ok : Bool) (H P : List UInt8) (k0 : Nat) (h0 : k0 + P.length ≤ w.length) (hP : (w.drop k0).take P.length = P) : ∀ (d j k : Nat), j + d = k0 → 200 + d < k →
    shibbolethlaw22_CurlSpans.l1 k (S w) x4 (j : Int) ok (S H) (S P) = some true
  | d, j, k, h, hk => by
    obtain ⟨k, rfl⟩ : ∃ m, k = m + 1 := ⟨k - 1, by omega⟩
    rw [shibbolethlaw22_CurlSpans.l1, S_size, S_size, wrap_add j P.length (by omega), if_pos (by omega), if_pos (by omega), if_pos (by omega)]
    by_cases he : ((S w).extract ((j : Int)).toNat (((j + P.length : Nat) : Int)).toNat).toList = (S P).toList
    · rw [if_pos he]
      refine Option.bind_eq_some_iff.2 ⟨_, awake22s k (by omega), ?_⟩
      rfl
    · rw [if_neg he]
      match d with
      | 0 =>
        exfalso
        apply he
        obtain rfl : j = k0 := by omega
        rw [Int.toNat_natCast, Int.toNat_natCast, S_extract, Nat.add_sub_cancel_left, hP]
      | d + 1 =>
        rw [wrap_succ j (by omega)]
        exact spans_l1 w hw x4 ok H P k0 h0 hP d (j + 1) k (by omega) (by omega)
theorem spans_l0 (w : List UInt8) (hw : w.length ≤ 300) (ok : Bool) (H P : List UInt8) (i0 k0 : Nat) (hi : i0 + H.length ≤ k0) (hH : (w.drop i0).take H.length = H) (h0 : k0 + P.length ≤ w.length) (hP : (w.drop k0).take P.length = P) : ∀ (d i k : Nat), i + d = i0 → 600 + d < k →
    shibbolethlaw22_CurlSpans.l0 k (S w) (i : Int) ok (S H) (S P) = some true
  | d, i, k, h, hk => by
    obtain ⟨k, rfl⟩ : ∃ m, k = m + 1 := ⟨k - 1, by omega⟩
    rw [shibbolethlaw22_CurlSpans.l0, S_size, S_size, wrap_add i H.length (by omega), if_pos (by omega), if_pos (by omega), if_pos (by omega)]
    by_cases he : ((S w).extract ((i : Int)).toNat (((i + H.length : Nat) : Int)).toNat).toList = (S H).toList
    · rw [if_pos he]
      exact spans_l1 w hw (i : Int) ok H P k0 h0 hP (k0 - (i + H.length)) (i + H.length) k (by omega) (by omega)
    · rw [if_neg he]
      match d with
      | 0 =>
        exfalso
        apply he
        obtain rfl : i = i0 := by omega
        rw [Int.toNat_natCast, Int.toNat_natCast, S_extract, Nat.add_sub_cancel_left, hH]
      | d + 1 =>
        rw [wrap_succ i (by omega)]
        exact spans_l0 w hw ok H P i0 k0 hi hH h0 hP d (i + 1) k (by omega) (by omega)
theorem CurlSpans : shibbolethlaw22_CurlSpans.Pure := by
  intro a h
  obtain ⟨w, rfl⟩ := S_surj a
  have hw : Sm w := h
  refine ⟨2 * w.length + 2000, ?_⟩
  unfold shibbolethlaw22_CurlSpans.f
  by_cases hlen : ((S w).size : Int) > 300
  · rw [if_pos hlen]
    refine Option.bind_eq_some_iff.2 ⟨_, awake22s _ (by omega), ?_⟩
    rfl
  · rw [if_neg hlen]
    rw [S_size] at hlen
    refine Option.bind_eq_some_iff.2 ⟨_, Cu.Parse_ev w hw _ (by omega), ?_⟩
    have ht := told_in w
    have hr := refused_bare w
    generalize Cu.parseL w = r at *
    obtain ⟨ok, H, P⟩ := r
    cases ok with
    | false =>
      rw [hr rfl, if_neg (by simp [toB]), if_pos (by simp [toB])]
      refine Option.bind_eq_some_iff.2 ⟨_, awake22s _ (by omega), ?_⟩
      rfl
    | true =>
      obtain ⟨x, y, z, e, hne⟩ := ht rfl
      replace e : w = x ++ H ++ y ++ P ++ z := e
      replace hne : H ≠ [] := hne
      rw [if_pos (show (toB (true, H, P)).1 = true from rfl), if_neg (by show ¬ (S H).toList = []; rw [S_toList]; exact hne)]
      have hl : w.length = x.length + H.length + y.length + P.length + z.length := by rw [e]; simp only [List.length_append]
      have hH : (w.drop x.length).take H.length = H := by
        rw [e]
        simp only [List.append_assoc]
        rw [List.drop_left, List.take_left]
      have hP : (w.drop (x ++ H ++ y).length).take P.length = P := by
        have e2 : w = (x ++ H ++ y) ++ (P ++ z) := by rw [e]; simp only [List.append_assoc]
        rw [e2, List.drop_left, List.take_left]
      have hll : (x ++ H ++ y).length = x.length + H.length + y.length := by simp only [List.length_append]
      exact spans_l0 w (by omega) true H P x.length (x ++ H ++ y).length (by omega) hH (by omega) hP x.length 0 _ (by omega) (by omega)
end Go.Proofs.Ytbjfcnhaedhbaaa.Pure

/- What the document's answer of layer 22 tells, in the same lists' words. -/
import Derived.Test.YtbjfcnhaedhbaaaCurl
import Derived.Test.YtbjfcnhaedhbaaaZA17
import Derived.Test.YtbjfcnhaedhbaaaZA18
import Derived.Test.YtbjfcnhaedhbaaaZA19
namespace Go.Proofs.Ytbjfcnhaedhbaaa.RefCu
open Go.RowKit Go.Proofs.YtbjfcnhaedhbaaaW.PrintWords Go.Proofs.Ytbjfcnhaedhbaaa.L Go.Proofs.Ytbjfcnhaedhbaaa.Str Go.Proofs.Ytbjfcnhaedhbaaa.Py Go.Proofs.Ytbjfcnhaedhbaaa.Cu Go.Proofs.Ytbjfcnhaedhbaaa.ZA

theorem shibbolethref22_is_l0 (c : UInt8) (m : List UInt8) (hm : Sm m) : ∀ (d i k : Nat), i + d = m.length → d < k → shibbolethref22_is.l0 k (c.toNat : Int) (S m) (i : Int) = some ((m.drop i).contains c)
  | 0, i, k, h, hk => by
    obtain ⟨k, rfl⟩ : ∃ m, k = m + 1 := ⟨k - 1, by omega⟩
    simp only [shibbolethref22_is.l0]
    rw [if_neg (by rw [S_size]; omega), List.drop_of_length_le (by omega)]
    rfl
  | d + 1, i, k, h, hk => by
    obtain ⟨k, rfl⟩ : ∃ m, k = m + 1 := ⟨k - 1, by omega⟩
    have hlt : i < m.length := by omega
    have hd : m.drop i = m[i] :: m.drop (i + 1) := List.drop_eq_getElem_cons hlt
    simp only [shibbolethref22_is.l0]
    rw [if_pos (by rw [S_size]; omega), if_pos (by omega), bt_S m i hlt, wrap_succ i (by unfold Sm at hm; omega), hd, List.contains_cons]
    by_cases hc : m[i] = c
    · rw [if_pos (by rw [hc]), hc]
      simp
    · have hc2 : ¬ ((m[i].toNat : Int) = (c.toNat : Int)) := fun h => hc (UInt8.toNat_inj.1 (by omega))
      have hc3 : (c == m[i]) = false := by rw [beq_eq_false_iff_ne]; exact fun h => hc h.symm
      rw [if_neg hc2, shibbolethref22_is_l0 c m hm d (i + 1) k (by omega) (by omega), hc3, Bool.false_or]
theorem shibbolethref22_is_ev (c : UInt8) (m : List UInt8) (hm : Sm m) (k : Nat) (hk : m.length < k) : shibbolethref22_is.f k (c.toNat : Int) (S m) = some (m.contains c) := by
  have := shibbolethref22_is_l0 c m hm m.length 0 k (by omega) hk
  rwa [List.drop_zero] at this
theorem shibbolethref22_first_l0 (l m : List UInt8) (hl : Sm l) (hm : Sm m) : ∀ (d i k : Nat), i + d = l.length → d + m.length + 1 < k → shibbolethref22_first.l0 k (S l) (S m) (i : Int) = some ((i + fi (fun c => m.contains c) (l.drop i) : Nat) : Int)
  | 0, i, k, h, hk => by
    obtain ⟨k, rfl⟩ : ∃ m, k = m + 1 := ⟨k - 1, by omega⟩
    simp only [shibbolethref22_first.l0]
    rw [if_neg (by rw [S_size]; omega), List.drop_of_length_le (by omega)]
    simp [S_size]
    omega
  | d + 1, i, k, h, hk => by
    obtain ⟨k, rfl⟩ : ∃ m, k = m + 1 := ⟨k - 1, by omega⟩
    have hlt : i < l.length := by omega
    have hd : l.drop i = l[i] :: l.drop (i + 1) := List.drop_eq_getElem_cons hlt
    simp only [shibbolethref22_first.l0]
    rw [if_pos (by rw [S_size]; omega), if_pos (by omega), bt_S l i hlt, shibbolethref22_is_ev _ m hm k (by omega), wrap_succ i (by unfold Sm at hl; omega), hd]
    simp only [Option.bind_some]
    by_cases hc : m.contains l[i] = true
    · rw [if_pos hc]
      simp only [fi, List.findIdx_cons, hc, cond_true, Nat.add_zero]
    · have hc2 : m.contains l[i] = false := Bool.eq_false_iff.2 hc
      rw [if_neg hc, shibbolethref22_first_l0 l m hl hm d (i + 1) k (by omega) (by omega)]
      simp only [fi, List.findIdx_cons, hc2, cond_false]
      congr 1; omega
theorem shibbolethref22_first_ev (l m : List UInt8) (hl : Sm l) (hm : Sm m) (i k : Nat) (hi : i ≤ l.length) (hk : l.length + m.length + 1 < k) : shibbolethref22_first.f k (S l) (S m) (i : Int) = some ((i + fi (fun c => m.contains c) (l.drop i) : Nat) : Int) :=
  shibbolethref22_first_l0 l m hl hm (l.length - i) i k (by omega) (by omega)


theorem rletter_eq (c : UInt8) : shibbolethref22_letter.f (c.toNat : Int) = some (letterB c) := by
  have h := all_bytes (p := fun n => shibbolethref22_letter.f (n : Int) == some ((decide (97 ≤ n) && decide (n ≤ 122)) || (decide (65 ≤ n) && decide (n ≤ 90)))) (by kernel_rfl) c
  exact eq_of_beq h
theorem rdigit_eq (c : UInt8) : shibbolethref22_digit.f (c.toNat : Int) = some (digitB c) := by
  have h := all_bytes (p := fun n => shibbolethref22_digit.f (n : Int) == some (decide (48 ≤ n) && decide (n ≤ 57))) (by kernel_rfl) c
  exact eq_of_beq h
theorem rhex_eq (c : UInt8) : shibbolethref22_hex.f (c.toNat : Int) = some (hexB c) := by
  have h := all_bytes (p := fun n => shibbolethref22_hex.f (n : Int) == some ((decide (48 ≤ n) && decide (n ≤ 57)) || (decide (97 ≤ n) && decide (n ≤ 102)) || (decide (65 ≤ n) && decide (n ≤ 70)))) (by kernel_rfl) c
  exact eq_of_beq h

/-! the scheme -/
def trimN : Nat → List UInt8 → List UInt8
  | 0, w => w
  | n + 1, w => trimN n (trim1 w)
theorem trim1_hit (t : List UInt8) : trim1 (47 :: t) = t := by
  unfold trim1 Lib.trimPrefix Lib.hasPrefix
  simp
theorem trim1_miss {c : UInt8} (t : List UInt8) (h : c ≠ 47) : trim1 (c :: t) = c :: t := by
  unfold trim1 Lib.trimPrefix Lib.hasPrefix
  have : ([47] : List UInt8).isPrefixOf (c :: t) = false := by
    have h2 : ((47 : UInt8) == c) = false := beq_eq_false_iff_ne.2 (Ne.symm h)
    rw [List.isPrefixOf_cons_cons, h2]
    rfl
  rw [if_neg (by rw [this]; decide)]
theorem trim1_nil : trim1 [] = [] := rfl
theorem trimN_stay {w : List UInt8} (h : trim1 w = w) : ∀ n, trimN n w = w
  | 0 => rfl
  | n + 1 => by rw [trimN, h, trimN_stay h n]
theorem scheme_l1 (w : List UInt8) (hw : Sm w) (n : Nat) (hn : n ≤ w.length) : ∀ (j i k : Nat), i + j = n + 4 → i ≤ w.length → j < k →
    ∃ A : Nat, shibbolethref22_scheme.l1 k (S w) (n : Int) (i : Int) = some (A : Int) ∧ w.drop A = trimN j (w.drop i) ∧ A ≤ w.length
  | 0, i, k, h, hi, hk => by
    obtain ⟨k, rfl⟩ : ∃ m, k = m + 1 := ⟨k - 1, by omega⟩
    refine ⟨i, ?_, rfl, hi⟩
    have hw4 : wrap64 ((n : Int) + 4) = (i : Int) := by rw [wrap_id (by omega) (by unfold Sm at hw; omega)]; omega
    simp only [shibbolethref22_scheme.l1]
    rw [hw4, if_neg (show ¬ (i : Int) < (i : Int) by omega)]
    split <;> rfl
  | j + 1, i, k, h, hi, hk => by
    obtain ⟨k, rfl⟩ : ∃ m, k = m + 1 := ⟨k - 1, by omega⟩
    have hw4 : wrap64 ((n : Int) + 4) = ((n + 4 : Nat) : Int) := by rw [wrap_id (by omega) (by unfold Sm at hw; omega)]; omega
    simp only [shibbolethref22_scheme.l1]
    by_cases hlt : i < w.length
    · have hd : w.drop i = w[i] :: w.drop (i + 1) := List.drop_eq_getElem_cons hlt
      rw [if_pos (by rw [S_size]; omega), hw4, if_pos (by omega), if_pos (by omega), bt_S w i hlt, wrap_succ i (by unfold Sm at hw; omega), hd]
      by_cases hc : w[i] = 47
      · obtain ⟨A, e1, e2, e3⟩ := scheme_l1 w hw n hn j (i + 1) k (by omega) (by omega) (by omega)
        refine ⟨A, ?_, ?_, e3⟩
        · rw [if_pos (by rw [hc]; rfl), e1]
        · rw [e2, hc, trimN, trim1_hit]
      · refine ⟨i, ?_, ?_, hi⟩
        · have h47 : (47 : UInt8).toNat = 47 := rfl
          rw [if_neg (fun h => hc ((eqNat _ _).2 (by omega)))]
        · rw [trimN_stay (trim1_miss _ hc), hd]
    · refine ⟨i, ?_, ?_, hi⟩
      · rw [if_neg (by rw [S_size]; omega)]
      · rw [List.drop_of_length_le (by omega), trimN_stay trim1_nil]
theorem scheme_l0 (w : List UInt8) (hw : Sm w) (n : Nat) (hn : n < w.length) (A : Int) (hA : ∀ k, 4 ≤ k → shibbolethref22_scheme.l1 k (S w) (n : Int) ((n + 1 : Nat) : Int) = some A) :
    ∀ (d i k : Nat), i + d = n → 0 < n → d + 6 < k → shibbolethref22_scheme.l0 k (S w) (n : Int) (i : Int) = some (if (if i = 0 then isScheme (w.take n) else ((w.take n).drop i).all schemeB) = true then A else 0)
  | 0, i, k, h, h0, hk => by
    obtain ⟨k, rfl⟩ : ∃ m, k = m + 1 := ⟨k - 1, by omega⟩
    have e : (w.take n).drop i = [] := List.drop_of_length_le (by simp; omega)
    simp only [shibbolethref22_scheme.l0]
    rw [if_neg (by omega), wrap_succ n (by unfold Sm at hw; omega), hA k (by omega), if_neg (show ¬ i = 0 by omega), e]
    rfl
  | d + 1, i, k, h, h0, hk => by
    obtain ⟨k, rfl⟩ : ∃ m, k = m + 1 := ⟨k - 1, by omega⟩
    have hlt : i < w.length := by omega
    have hd : (w.take n).drop i = w[i] :: (w.take n).drop (i + 1) := by
      have h1 : i < (w.take n).length := by simp; omega
      rw [List.drop_eq_getElem_cons h1, List.getElem_take]
    have ih := scheme_l0 w hw n hn A hA d (i + 1) k (by omega) h0 (by omega)
    rw [if_neg (show ¬ (i + 1 = 0) by omega)] at ih
    rw [shibbolethref22_scheme.l0, if_pos (by omega), if_pos (by omega), if_pos (by rw [S_size]; omega), bt_S w i hlt, wrap_succ i (by unfold Sm at hw; omega), ih]
    refine Option.bind_eq_some_iff.2 ⟨_, rletter_eq _, ?_⟩
    by_cases h0 : i = 0
    · subst h0
      rw [List.drop_zero] at hd
      have hs : isScheme (w.take n) = (letterB w[0] && ((w.take n).drop 1).all schemeB) := by
        conv => lhs; rw [hd]
        unfold isScheme
        simp only [List.all_cons]
        by_cases hL : letterB w[0] = true
        · rw [hL, schemeB_iff, hL]; simp
        · rw [Bool.eq_false_iff.2 hL]; rfl
      rw [if_pos rfl, hs]
      by_cases hL : letterB w[0] = true
      · rw [if_pos hL, hL, Bool.true_and]
      · rw [if_neg hL, if_pos (show ((0 : Nat) : Int) = 0 from rfl), Bool.eq_false_iff.2 hL, Bool.false_and, if_neg (by decide)]
    · rw [if_neg h0, hd, List.all_cons, schemeB_iff]
      by_cases hL : letterB w[i] = true
      · rw [if_pos hL, hL]; rfl
      · rw [if_neg hL, Bool.eq_false_iff.2 hL, if_neg (by omega)]
        refine Option.bind_eq_some_iff.2 ⟨_, rdigit_eq _, ?_⟩
        by_cases hD : digitB w[i] = true
        · rw [if_pos hD, hD]; rfl
        · rw [if_neg hD, Bool.eq_false_iff.2 hD]
          refine Option.bind_eq_some_iff.2 ⟨_, shibbolethref22_is_ev w[i] [43, 45, 46] (by decide) k (by simp only [List.length_cons, List.length_nil]; omega), ?_⟩
          by_cases hM : ([43, 45, 46] : List UInt8).contains w[i] = true
          · rw [if_pos hM, hM]; rfl
          · rw [if_neg hM, Bool.eq_false_iff.2 hM]
            simp
theorem one58 : (fun c : UInt8 => ([58] : List UInt8).contains c) = fun c => c == 58 := by funext c; rw [Bool.eq_iff_iff]; simp
/-- Where a run is that ends at a mark. -/
theorem runS_at {s t : List UInt8} {c : UInt8} (h : isScheme s = true) (hc : schemeB c = false) : runS (s ++ c :: t) = s.length := by
  cases s with
  | nil => simp [isScheme] at h
  | cons a s =>
    simp only [isScheme, List.all_cons, Bool.and_eq_true] at h
    simp only [List.cons_append, runS]
    rw [if_pos h.1, List.takeWhile_append_of_pos (List.all_eq_true.1 h.2.2), List.takeWhile_cons, if_neg (by rw [hc]; decide), List.append_nil, List.length_cons]
    omega
theorem runS_split (w : List UInt8) (h : runS w ≠ 0) : isScheme (w.take (runS w)) = true := by
  cases w with
  | nil => exact absurd rfl h
  | cons a t =>
    simp only [runS] at h ⊢
    by_cases hL : letterB a = true
    · rw [if_pos hL]
      have e : (a :: t).take (1 + (t.takeWhile schemeB).length) = a :: t.takeWhile schemeB := by
        rw [Nat.add_comm, List.take_succ_cons]
        congr 1
        exact List.prefix_iff_eq_take.1 (List.takeWhile_prefix _) |>.symm
      rw [e]
      simp only [isScheme, List.all_cons, Bool.and_eq_true]
      refine ⟨hL, ?_, ?_⟩
      · rw [schemeB_iff, hL]; rfl
      · exact List.all_eq_true.2 fun x hx => List.all_eq_true.1 List.all_takeWhile x hx
    · rw [if_neg hL] at h
      exact absurd rfl h
theorem scheme58 {s : List UInt8} (h : isScheme s = true) : ∀ x ∈ s, (x == 58) = false := by
  intro x hx
  have hall : s.all schemeB = true := by
    cases s with
    | nil => rfl
    | cons a s => simp only [isScheme, Bool.and_eq_true] at h; exact h.2
  have := List.all_eq_true.1 hall x hx
  rw [beq_eq_false_iff_ne]
  rintro rfl
  exact absurd this (by decide)
theorem fi_at {p : UInt8 → Bool} {s t : List UInt8} {c : UInt8} (h : ∀ x ∈ s, p x = false) (hc : p c = true) : fi p (s ++ c :: t) = s.length := by
  induction s with
  | nil => simp [fi, List.findIdx_cons, hc]
  | cons a s ih =>
    have := ih fun x hx => h x (List.mem_cons_of_mem _ hx)
    have ha := h a (List.mem_cons_self ..)
    simp only [fi] at *
    rw [List.cons_append, List.findIdx_cons, ha, cond_false, this, List.length_cons]
theorem scheme_ev (w : List UInt8) (hw : Sm w) (k : Nat) (hk : w.length + 10 < k) : ∃ A : Nat, shibbolethref22_scheme.f k (S w) = some (A : Int) ∧ w.drop A = behindL w ∧ A ≤ w.length := by
  have hf := shibbolethref22_first_ev w [58] hw (by decide) 0 k (by omega) (by simp only [List.length_cons, List.length_nil]; omega)
  rw [show ((0 : Nat) : Int) = 0 from rfl, List.drop_zero, Nat.zero_add, one58] at hf
  have hle := fi_le (fun c => c == 58) w
  have hws := wrap_succ (fi (fun c => c == 58) w) (by unfold Sm at hw; omega)
  unfold shibbolethref22_scheme.f
  have hbehind : ∀ n, fi (fun c => c == 58) w = n → ¬ (n + 1 < w.length ∧ n ≠ 0 ∧ isScheme (w.take n) = true ∧ ([58, 47] : List UInt8).isPrefixOf (w.drop n) = true) → behindL w = w := by
    intro n hn hno
    unfold behindL behindAt
    by_cases h0 : runS w = 0
    · rw [if_pos h0]
    rw [if_neg h0]
    by_cases hp : ([58, 47] : List UInt8).isPrefixOf (w.drop (runS w)) = true
    · exfalso
      apply hno
      have hsch := runS_split w h0
      obtain ⟨t, ht⟩ := List.isPrefixOf_iff_prefix.1 hp
      have hsp : w = w.take (runS w) ++ 58 :: 47 :: t := by
        conv => lhs; rw [← List.take_append_drop (runS w) w, ← ht]
        rfl
      have hrl : (w.take (runS w)).length = runS w := by
        rw [List.length_take]
        have hx : (w.drop (runS w)).length ≠ 0 := by rw [← ht]; simp
        rw [List.length_drop] at hx
        omega
      have hfi : fi (fun c => c == 58) w = runS w := by
        rw [hsp, fi_at (scheme58 hsch) (by rfl), ← hsp, hrl]
      have hnr : n = runS w := by omega
      have hlen := congrArg List.length hsp
      rw [List.length_append, hrl] at hlen
      simp only [List.length_cons] at hlen
      rw [hnr]
      exact ⟨by omega, h0, hsch, hp⟩
    · rw [if_neg hp]
  generalize hn : fi (fun c => c == 58) w = n at *
  by_cases hlt : n + 1 < w.length
  · have hwn : w.drop n = w[n] :: w[n + 1] :: w.drop (n + 2) := by
      rw [List.drop_eq_getElem_cons (by omega), List.drop_eq_getElem_cons hlt]
    have h58 : w[n] = 58 := by
      subst hn
      have h := @List.findIdx_getElem _ (fun x : UInt8 => x == 58) w (by show fi (fun x : UInt8 => x == 58) w < _; omega)
      exact eq_of_beq h
    by_cases h0 : n = 0
    · refine ⟨0, Option.bind_eq_some_iff.2 ⟨_, hf, ?_⟩, ?_, by omega⟩
      · obtain ⟨k, rfl⟩ : ∃ m, k = m + 1 := ⟨k - 1, by omega⟩
        rw [hws, if_neg (by rw [S_size]; omega), if_pos (by omega), shibbolethref22_scheme.j0, if_pos rfl]
        rfl
      · rw [List.drop_zero, hbehind n rfl (fun h => h.2.1 h0)]
    · by_cases h47 : w[n + 1] = 47
      · obtain ⟨A, e1, e2, e3⟩ := scheme_l1 w hw n (by omega) 3 (n + 1) 4 (by omega) (by omega) (by omega)
        have hA : ∀ k, 4 ≤ k → shibbolethref22_scheme.l1 k (S w) (n : Int) ((n + 1 : Nat) : Int) = some (A : Int) := fun k hk => at_rounds (g := fun k => shibbolethref22_scheme.l1 k (S w) (n : Int) ((n + 1 : Nat) : Int)) (fun k v h => (shibbolethref22_scheme.mono_l k).2.2 _ _ _ v h) hk e1
        obtain ⟨k, rfl⟩ : ∃ m, k = m + 1 := ⟨k - 1, by omega⟩
        have h0l := scheme_l0 w hw n (by omega) A hA n 0 k (by omega) (by omega) (by omega)
        rw [if_pos rfl, show ((0 : Nat) : Int) = 0 from rfl] at h0l
        have hev : shibbolethref22_scheme.f (k + 1) (S w) = some (if isScheme (w.take n) = true then (A : Int) else 0) := by
          unfold shibbolethref22_scheme.f
          refine Option.bind_eq_some_iff.2 ⟨_, hf, ?_⟩
          have hb : bt (S w) ((n + 1 : Nat) : Int) = (w[n + 1].toNat : Int) := bt_S w (n + 1) hlt
          rw [hws, if_neg (by rw [S_size]; omega), if_neg (by omega), if_pos (by omega), if_pos (by rw [S_size]; omega), hb, h47, shibbolethref22_scheme.j0, if_neg (by decide), h0l]
        unfold shibbolethref22_scheme.f at hev
        have hp : ([58, 47] : List UInt8).isPrefixOf (w.drop n) = true := by rw [hwn, h58, h47]; simp
        by_cases hs : isScheme (w.take n) = true
        · rw [if_pos hs] at hev
          refine ⟨A, hev, ?_, e3⟩
          have hrun : runS w = n := by
            have hsp : w = w.take n ++ 58 :: w.drop (n + 1) := by
              conv => lhs; rw [← List.take_append_drop n w, List.drop_eq_getElem_cons (show n < w.length by omega), h58]
            have := runS_at (t := w.drop (n + 1)) hs (show schemeB 58 = false by decide)
            rw [← hsp, List.length_take] at this
            omega
          unfold behindL behindAt
          rw [hrun, if_neg h0, if_pos hp, e2]
          rfl
        · rw [if_neg hs] at hev
          refine ⟨0, hev, ?_, by omega⟩
          rw [List.drop_zero, hbehind n rfl (fun h => hs h.2.2.1)]
      · refine ⟨0, Option.bind_eq_some_iff.2 ⟨_, hf, ?_⟩, ?_, by omega⟩
        · obtain ⟨k, rfl⟩ : ∃ m, k = m + 1 := ⟨k - 1, by omega⟩
          have hb : bt (S w) ((n + 1 : Nat) : Int) = (w[n + 1].toNat : Int) := bt_S w (n + 1) hlt
          have h47n : (47 : UInt8).toNat = 47 := rfl
          have hbn : ((w[n + 1].toNat : Int) != 47) = true := by
            rw [bne_iff_ne]
            exact fun h => h47 ((eqNat _ _).2 (by omega))
          rw [hws, if_neg (by rw [S_size]; omega), if_neg (by omega), if_pos (by omega), if_pos (by rw [S_size]; omega), hb, hbn, shibbolethref22_scheme.j0, if_pos rfl]
          rfl
        · rw [List.drop_zero, hbehind n rfl]
          intro h
          have := h.2.2.2
          rw [hwn] at this
          simp only [List.isPrefixOf_cons_cons, Bool.and_eq_true, beq_iff_eq] at this
          exact h47 this.2.1.symm
  · refine ⟨0, Option.bind_eq_some_iff.2 ⟨_, hf, ?_⟩, ?_, by omega⟩
    · obtain ⟨k, rfl⟩ : ∃ m, k = m + 1 := ⟨k - 1, by omega⟩
      rw [hws, if_pos (by rw [S_size]; omega), shibbolethref22_scheme.j0, if_pos rfl]
      rfl
    · rw [List.drop_zero, hbehind n rfl (fun h => hlt h.1)]

/-! the whole -/
def toldL (e : List UInt8 × List UInt8 × Bool) (tl : List UInt8) : Bool × List UInt8 × List UInt8 :=
  if e.2.2 = true ∧ portL e.2.1 = true then (true, e.1, tl.takeWhile noQF) else (false, [], [])
theorem bt_at (pre a tl : List UInt8) (j : Nat) (h : j < a.length) : bt (S (pre ++ a ++ tl)) ((pre.length + j : Nat) : Int) = (a[j].toNat : Int) := by
  rw [bt_S _ _ (by simp only [List.length_append]; omega)]
  rw [List.getElem_append_left (by simp only [List.length_append]; omega), List.getElem_append_right (by omega)]
  simp only [Nat.add_sub_cancel_left]
theorem l2_last (pre a tl : List UInt8) (hw : Sm (pre ++ a ++ tl)) (e : Nat) (he : e ≤ a.length) (k : Nat) (hk : (pre ++ a ++ tl).length + 10 < k) :
    shibbolethref22_Parse.l2 (k + 1) (S (pre ++ a ++ tl)) (pre.length : Int) ((pre.length + a.length : Nat) : Int) ((pre.length + e : Nat) : Int) ((pre.length + a.length : Nat) : Int) = some (true, S (a.take e), S (tl.takeWhile noQF)) := by
  have hlen : (pre ++ a ++ tl).length = pre.length + a.length + tl.length := by simp only [List.length_append]
  have hf := shibbolethref22_first_ev (pre ++ a ++ tl) [63, 35] hw (by decide) (pre.length + a.length) k (by omega) (by simp only [List.length_cons, List.length_nil]; omega)
  have hdt : (pre ++ a ++ tl).drop (pre.length + a.length) = tl := by rw [← List.length_append]; exact List.drop_left
  rw [hdt] at hf
  have hfl := fi_le (fun c => ([63, 35] : List UInt8).contains c) tl
  rw [shibbolethref22_Parse.l2, if_neg (by omega), if_pos (by omega), if_pos (by omega), if_pos (by rw [S_size]; omega)]
  refine Option.bind_eq_some_iff.2 ⟨_, hf, ?_⟩
  rw [if_pos (by omega), if_pos (by omega), if_pos (by rw [S_size]; omega)]
  simp only [Int.toNat_natCast, S_extract, hdt]
  have e1 : ((pre ++ a ++ tl).drop pre.length).take (pre.length + e - pre.length) = a.take e := by
    rw [List.append_assoc, List.drop_left, Nat.add_sub_cancel_left, List.take_append_of_le_length he]
  have e2 : tl.take (pre.length + a.length + fi (fun c => ([63, 35] : List UInt8).contains c) tl - (pre.length + a.length)) = tl.takeWhile noQF := by
    rw [Nat.add_sub_cancel_left, take_fi]
    rfl
  rw [e1, e2]
theorem l2_more (pre a tl : List UInt8) (hw : Sm (pre ++ a ++ tl)) (e : Nat) (he : e ≤ a.length) : ∀ (d j k : Nat), j + d = a.length → e < j → (pre ++ a ++ tl).length + 11 + d < k →
    shibbolethref22_Parse.l2 k (S (pre ++ a ++ tl)) (pre.length : Int) ((pre.length + a.length : Nat) : Int) ((pre.length + e : Nat) : Int) ((pre.length + j : Nat) : Int) = some (if (a.drop j).all digitB = true then (true, S (a.take e), S (tl.takeWhile noQF)) else (false, S [], S []))
  | 0, j, k, h, hj, hk => by
    obtain ⟨k, rfl⟩ : ∃ m, k = m + 1 := ⟨k - 1, by omega⟩
    obtain rfl : j = a.length := by omega
    rw [l2_last pre a tl hw e he k (by omega), List.drop_length]
    rfl
  | d + 1, j, k, h, hj, hk => by
    obtain ⟨k, rfl⟩ : ∃ m, k = m + 1 := ⟨k - 1, by omega⟩
    have hlen : (pre ++ a ++ tl).length = pre.length + a.length + tl.length := by simp only [List.length_append]
    have hlt : j < a.length := by omega
    have hd : a.drop j = a[j] :: a.drop (j + 1) := List.drop_eq_getElem_cons hlt
    rw [shibbolethref22_Parse.l2, if_pos (by omega), if_neg (by omega), if_pos (by omega), if_pos (by omega), if_pos (by rw [S_size]; omega), bt_at pre a tl j hlt, wrap_succ _ (by unfold Sm at hw; omega), Nat.add_assoc, l2_more pre a tl hw e he d (j + 1) k (by omega) (by omega) (by omega), hd, List.all_cons]
    refine Option.bind_eq_some_iff.2 ⟨_, rdigit_eq _, ?_⟩
    by_cases hD : digitB a[j] = true
    · rw [if_pos hD, hD, Bool.true_and]
    · rw [if_neg hD, Bool.eq_false_iff.2 hD, Bool.false_and, if_neg (by decide)]
      rfl
theorem j5_ev (pre a tl : List UInt8) (hw : Sm (pre ++ a ++ tl)) (e : Nat) (he : e ≤ a.length) (k : Nat) (hk : 2 * (pre ++ a ++ tl).length + 20 < k) :
    shibbolethref22_Parse.j5 k (S (pre ++ a ++ tl)) (pre.length : Int) ((pre.length + a.length : Nat) : Int) ((pre.length + e : Nat) : Int) = some (toB (toldL (a.take e, a.drop e, !(a.take e).isEmpty) tl)) := by
  obtain ⟨k, rfl⟩ : ∃ m, k = m + 2 := ⟨k - 2, by omega⟩
  have hlen : (pre ++ a ++ tl).length = pre.length + a.length + tl.length := by simp only [List.length_append]
  rw [shibbolethref22_Parse.j5]
  unfold toldL
  by_cases h0 : e = 0
  · subst h0
    rw [if_pos (by omega), if_neg (fun h => by simp at h)]
    rfl
  · have hne : (!(a.take e).isEmpty) = true := by
      cases a with
      | nil => simp at he; omega
      | cons c t =>
        cases e with
        | zero => exact absurd rfl h0
        | succ e => rfl
    rw [if_neg (by omega), hne]
    by_cases hE : e = a.length
    · subst hE
      rw [l2_last pre a tl hw _ he k (by omega), List.drop_length, if_pos ⟨rfl, rfl⟩]
      rfl
    · have hlt : e < a.length := by omega
      have hd : a.drop e = a[e] :: a.drop (e + 1) := List.drop_eq_getElem_cons hlt
      rw [shibbolethref22_Parse.l2, if_pos (by omega), if_pos rfl, if_pos (by omega), if_pos (by rw [S_size]; omega), bt_at pre a tl e hlt, wrap_succ _ (by unfold Sm at hw; omega), if_neg (show ¬ ((pre.length + e : Nat) : Int) > ((pre.length + e : Nat) : Int) by omega), Nat.add_assoc, l2_more pre a tl hw e he (a.length - (e + 1)) (e + 1) k (by omega) (by omega) (by omega), hd]
      have h58 : (58 : UInt8).toNat = 58 := rfl
      by_cases hc : a[e] = 58
      · rw [if_pos (by rw [hc]; rfl)]
        simp only [portL, hc, beq_self_eq_true, Bool.true_and, true_and]
        split <;> rfl
      · rw [if_neg (fun h => hc ((eqNat _ _).2 (by omega))), if_neg]
        · rfl
        · simp [portL, hc]
theorem l1_ev (pre a tl : List UInt8) (hw : Sm (pre ++ a ++ tl)) (n : Nat) (hn : n < a.length) : ∀ (d j k : Nat), j + d = n → 2 * (pre ++ a ++ tl).length + 21 + d < k →
    shibbolethref22_Parse.l1 k (S (pre ++ a ++ tl)) (pre.length : Int) ((pre.length + a.length : Nat) : Int) ((pre.length + (n + 1) : Nat) : Int) ((pre.length + j : Nat) : Int) =
      some (if ((a.take n).drop j).all hexC = true then toB (toldL (a.take (n + 1), a.drop (n + 1), true) tl) else (false, S [], S []))
  | 0, j, k, h, hk => by
    obtain ⟨k, rfl⟩ : ∃ m, k = m + 1 := ⟨k - 1, by omega⟩
    have hlen : (pre ++ a ++ tl).length = pre.length + a.length + tl.length := by simp only [List.length_append]
    have hws : wrap64 (((pre.length + (n + 1) : Nat) : Int) - 1) = ((pre.length + n : Nat) : Int) := by rw [wrap_id (by omega) (by unfold Sm at hw; omega)]; omega
    have e : (a.take n).drop j = [] := List.drop_of_length_le (by simp; omega)
    have hne : (!(a.take (n + 1)).isEmpty) = true := by
      cases a with
      | nil => simp at hn
      | cons c t => rfl
    have h5 := j5_ev pre a tl hw (n + 1) (by omega) k (by omega)
    rw [hne] at h5
    rw [shibbolethref22_Parse.l1, hws, if_neg (by omega), h5, e]
    rfl
  | d + 1, j, k, h, hk => by
    obtain ⟨k, rfl⟩ : ∃ m, k = m + 1 := ⟨k - 1, by omega⟩
    have hlen : (pre ++ a ++ tl).length = pre.length + a.length + tl.length := by simp only [List.length_append]
    have hws : wrap64 (((pre.length + (n + 1) : Nat) : Int) - 1) = ((pre.length + n : Nat) : Int) := by rw [wrap_id (by omega) (by unfold Sm at hw; omega)]; omega
    have hlt : j < a.length := by omega
    have hd : (a.take n).drop j = a[j] :: (a.take n).drop (j + 1) := by
      have h1 : j < (a.take n).length := by simp; omega
      rw [List.drop_eq_getElem_cons h1, List.getElem_take]
    rw [shibbolethref22_Parse.l1, hws, if_pos (by omega), if_pos (by omega), if_pos (by rw [S_size]; omega), bt_at pre a tl j hlt, wrap_succ _ (by unfold Sm at hw; omega), Nat.add_assoc, l1_ev pre a tl hw n hn d (j + 1) k (by omega) (by omega), hd, List.all_cons]
    refine Option.bind_eq_some_iff.2 ⟨_, rhex_eq _, ?_⟩
    by_cases h1 : hexB a[j] = true
    · have : hexC a[j] = true := by unfold hexC; rw [h1]; rfl
      rw [if_pos h1, this, Bool.true_and]
    · have h1f : hexB a[j] = false := Bool.eq_false_iff.2 h1
      rw [if_neg h1]
      refine Option.bind_eq_some_iff.2 ⟨_, shibbolethref22_is_ev a[j] [58, 46] (by decide) k (by simp only [List.length_cons, List.length_nil]; omega), ?_⟩
      have he : ([58, 46] : List UInt8).contains a[j] = (a[j] == 58 || a[j] == 46) := by rw [Bool.eq_iff_iff]; simp
      have hh : hexC a[j] = ([58, 46] : List UInt8).contains a[j] := by unfold hexC; rw [Bool.or_assoc, h1f, he]; rfl
      rw [← hh]
      by_cases h2 : hexC a[j] = true
      · rw [if_pos h2, h2, Bool.true_and]
      · rw [if_neg h2, Bool.eq_false_iff.2 h2, Bool.false_and, if_neg (by decide)]
        rfl
theorem one93 : (fun c : UInt8 => ([93] : List UInt8).contains c) = fun c => c == 93 := by funext c; rw [Bool.eq_iff_iff]; simp
theorem one64 : (fun c : UInt8 => ([64] : List UInt8).contains c) = fun c => c == 64 := by funext c; rw [Bool.eq_iff_iff]; simp
theorem isEmpty_take (p : UInt8 → Bool) (a : List UInt8) : a.take (fi (fun c => !p c) a) = a.takeWhile p := by
  rw [take_fi]
  simp only [Bool.not_not]
theorem j1_ev (pre a tl : List UInt8) (hw : Sm (pre ++ a ++ tl)) (k : Nat) (hk : 3 * (pre ++ a ++ tl).length + 50 < k) :
    shibbolethref22_Parse.j1 k (S (pre ++ a ++ tl)) (pre.length : Int) ((pre.length + a.length : Nat) : Int) = some (toB (toldL (readL a) tl)) := by
  obtain ⟨k, rfl⟩ : ∃ m, k = m + 3 := ⟨k - 3, by omega⟩
  have hlen : (pre ++ a ++ tl).length = pre.length + a.length + tl.length := by simp only [List.length_append]
  have hpl : (pre ++ a).length = pre.length + a.length := List.length_append
  have htk : (pre ++ a ++ tl).take (pre.length + a.length) = pre ++ a := by rw [← List.length_append]; exact List.take_left
  have hspa : Sm (pre ++ a) := by unfold Sm at *; omega
  have hf1 := shibbolethref22_first_ev (pre ++ a) bars hspa (by decide) pre.length (k + 2) (by omega) (by rw [show bars.length = 22 from rfl]; omega)
  rw [List.drop_left] at hf1
  have hf2 := shibbolethref22_first_ev (pre ++ a) [93] hspa (by decide) pre.length (k + 1) (by omega) (by simp only [List.length_cons, List.length_nil]; omega)
  rw [List.drop_left, one93] at hf2
  have hfl := fi_le (fun c => bars.contains c) a
  have hnm : readL a = (if ([91] : List UInt8).isPrefixOf a = true then numberedL a else namedL a) := rfl
  have hnamed : namedL a = (a.take (fi (fun c => bars.contains c) a), a.drop (fi (fun c => bars.contains c) a), !(a.take (fi (fun c => bars.contains c) a)).isEmpty) := by
    rw [take_fi, drop_fi]
    rfl
  rw [hnm]
  -- past the brackets' question
  have main : ∀ q : Bool, q = ([91] : List UInt8).isPrefixOf a → shibbolethref22_Parse.j2 (k + 2) (S (pre ++ a ++ tl)) (pre.length : Int) ((pre.length + a.length : Nat) : Int) ((pre.length + fi (fun c => bars.contains c) a : Nat) : Int) q = some (toB (toldL (if ([91] : List UInt8).isPrefixOf a = true then numberedL a else namedL a) tl)) := by
    intro q hq
    rw [shibbolethref22_Parse.j2]
    by_cases hb : ([91] : List UInt8).isPrefixOf a = true
    · rw [hq, if_pos hb, if_pos hb, if_pos (by omega), if_pos (by rw [S_size]; omega), Int.toNat_natCast, S_upto, htk]
      refine Option.bind_eq_some_iff.2 ⟨_, hf2, ?_⟩
      have hl93 := fi_le (fun c => c == 93) a
      rw [wrap_succ _ (by unfold Sm at hw; omega)]
      unfold numberedL
      by_cases hc : a.contains 93 = true
      · have hlt := fi_contains hc
        have hlen93 : (a.takeWhile fun x => !(x == 93)).length = fi (fun x => x == 93) a := by rw [← take_fi, List.length_take]; omega
        have hw3 : wrap64 ((pre.length : Int) + 3) = ((pre.length + 3 : Nat) : Int) := by rw [wrap_id (by omega) (by unfold Sm at hw; omega)]; omega
        rw [if_neg (by omega), hw3, shibbolethref22_Parse.j3, hlen93]
        by_cases h2 : 2 ≤ fi (fun x => x == 93) a
        · rw [if_neg (by simp only [decide_eq_true_eq]; omega), wrap_succ _ (by unfold Sm at hw; omega), Nat.add_assoc, l1_ev pre a tl hw _ hlt (fi (fun x => x == 93) a - 1) 1 k (by omega) (by omega)]
          have e1 : a.take (fi (fun x => x == 93) a + 1) = (a.takeWhile fun x => !(x == 93)) ++ [93] := by
            rw [List.take_succ_eq_append_getElem hlt, take_fi]
            have h := @List.findIdx_getElem _ (fun x : UInt8 => x == 93) a hlt
            have h5 : a[fi (fun x => x == 93) a] = 93 := eq_of_beq h
            rw [h5]
          have e2 : a.drop (fi (fun x => x == 93) a + 1) = (a.dropWhile fun x => !(x == 93)).drop 1 := by rw [← drop_fi, List.drop_drop]
          rw [e1, e2, take_fi]
          by_cases hh : ((a.takeWhile fun x => !(x == 93)).drop 1).all hexC = true
          · rw [if_pos hh, if_pos ⟨hc, h2, hh⟩]
          · rw [if_neg hh, if_neg (fun h => hh h.2.2)]
            rfl
        · rw [if_pos (by simp only [decide_eq_true_eq]; omega), if_neg (fun h => h2 h.2.1)]
          rfl
      · rw [fi_none hc, if_pos (by omega), shibbolethref22_Parse.j3, if_pos rfl, if_neg (fun h => hc h.1)]
        rfl
    · rw [hq, if_neg hb, if_neg hb, j5_ev pre a tl hw _ hfl (k + 1) (by omega), hnamed]
  rw [shibbolethref22_Parse.j1, if_pos (by omega), if_pos (by rw [S_size]; omega), Int.toNat_natCast, S_upto, htk]
  refine Option.bind_eq_some_iff.2 ⟨_, hf1, ?_⟩
  by_cases h0 : 0 < a.length
  · have hb0 := bt_at pre a tl 0 h0
    rw [Nat.add_zero] at hb0
    rw [if_pos (by omega), if_pos (by omega), if_pos (by rw [S_size]; omega), hb0]
    refine main _ ?_
    have ha : a = a[0] :: a.drop 1 := by
      have := List.drop_eq_getElem_cons h0
      rwa [List.drop_zero] at this
    conv => rhs; rw [ha]
    have h91 : (91 : UInt8).toNat = 91 := rfl
    rw [List.isPrefixOf_cons_cons, Bool.eq_iff_iff]
    simp only [beq_iff_eq, Bool.and_eq_true, List.isPrefixOf_nil_left, and_true, eqNat, h91]
    omega
  · rw [if_neg (by omega)]
    refine main _ ?_
    have : a = [] := List.length_eq_zero_iff.1 (by omega)
    rw [this]
    rfl
def tellL (b : List UInt8) : Bool × List UInt8 × List UInt8 := toldL (readL (placeL (b.takeWhile noSQF))) (b.dropWhile noSQF)
theorem end_ev (w : List UInt8) (hw : Sm w) (k : Nat) (hk : 3 * w.length + 60 < k) : shibbolethref22_Parse.l0 (k + 1) (S w) (w.length : Int) = some (toB (tellL (behindL w))) := by
  obtain ⟨A, hA, hdrop, hle⟩ := scheme_ev w hw k (by omega)
  rw [shibbolethref22_Parse.l0, if_neg (by rw [S_size]; omega)]
  refine Option.bind_eq_some_iff.2 ⟨_, hA, ?_⟩
  have hf := shibbolethref22_first_ev w [47, 63, 35] hw (by decide) A k hle (by simp only [List.length_cons, List.length_nil]; omega)
  rw [hdrop] at hf
  refine Option.bind_eq_some_iff.2 ⟨_, hf, ?_⟩
  have hwb : w = w.take A ++ behindL w := by rw [← hdrop, List.take_append_drop]
  have hAl : (w.take A).length = A := by rw [List.length_take]; omega
  generalize behindL w = b at *
  generalize w.take A = pre at *
  subst hAl
  have hba : b = b.takeWhile noSQF ++ b.dropWhile noSQF := List.takeWhile_append_dropWhile.symm
  have hfa : fi (fun c => ([47, 63, 35] : List UInt8).contains c) b = (b.takeWhile noSQF).length := by
    have h1 : b.takeWhile noSQF = b.take (fi (fun c => ([47, 63, 35] : List UInt8).contains c) b) := by rw [take_fi]; rfl
    have := fi_le (fun c => ([47, 63, 35] : List UInt8).contains c) b
    rw [h1, List.length_take]
    omega
  rw [hfa]
  unfold tellL
  generalize b.takeWhile noSQF = a at *
  generalize b.dropWhile noSQF = tl at *
  subst hba
  rw [← List.append_assoc] at hwb
  subst hwb
  clear hf hdrop hA hfa
  have hlen : (pre ++ a ++ tl).length = pre.length + a.length + tl.length := by simp only [List.length_append]
  have hpl : (pre ++ a).length = pre.length + a.length := List.length_append
  have htk : (pre ++ a ++ tl).take (pre.length + a.length) = pre ++ a := by rw [← List.length_append]; exact List.take_left
  have hspa : Sm (pre ++ a) := by unfold Sm at *; omega
  have hf := shibbolethref22_first_ev (pre ++ a) [64] hspa (by decide) pre.length k (by omega) (by simp only [List.length_cons, List.length_nil]; omega)
  rw [List.drop_left, one64] at hf
  rw [if_pos (by omega), if_pos (by rw [S_size]; omega), Int.toNat_natCast, S_upto, htk]
  refine Option.bind_eq_some_iff.2 ⟨_, hf, ?_⟩
  unfold placeL
  by_cases hc : a.contains 64 = true
  · have hlt := fi_contains hc
    rw [if_pos (by omega), wrap_succ _ (by unfold Sm at hw; omega), if_pos hc]
    have hsp : a = a.take (fi (fun x => x == 64) a + 1) ++ (cutL a 64).2.1 := by
      unfold cutL
      show a = _ ++ (a.dropWhile fun x => !(x == 64)).drop 1
      rw [← drop_fi, List.drop_drop, List.take_append_drop]
    have hl2 : (a.take (fi (fun x => x == 64) a + 1)).length = fi (fun x => x == 64) a + 1 := by rw [List.length_take]; omega
    have hl1 := congrArg List.length hsp
    rw [List.length_append, hl2] at hl1
    have hj := j1_ev (pre ++ a.take (fi (fun x => x == 64) a + 1)) (cutL a 64).2.1 tl (by rw [List.append_assoc pre, ← hsp]; exact hw) k (by rw [List.append_assoc pre, ← hsp]; omega)
    rw [List.append_assoc pre, ← hsp, List.length_append, hl2] at hj
    rw [show pre.length + fi (fun x => x == 64) a + 1 = pre.length + (fi (fun x => x == 64) a + 1) by omega, show pre.length + a.length = pre.length + (fi (fun x => x == 64) a + 1) + (cutL a 64).2.1.length by omega]
    exact hj
  · rw [fi_none hc, if_neg (by omega), if_neg hc]
    exact j1_ev pre a tl hw k (by omega)
theorem ref_l0 (w : List UInt8) (hw : Sm w) : ∀ (d i k : Nat), i + d = w.length → 3 * w.length + 62 + d < k → shibbolethref22_Parse.l0 k (S w) (i : Int) = some (if (w.drop i).all cleanB = true then toB (tellL (behindL w)) else (false, S [], S []))
  | 0, i, k, h, hk => by
    obtain ⟨k, rfl⟩ : ∃ m, k = m + 1 := ⟨k - 1, by omega⟩
    obtain rfl : i = w.length := by omega
    rw [end_ev w hw k (by omega), List.drop_length]
    rfl
  | d + 1, i, k, h, hk => by
    obtain ⟨k, rfl⟩ : ∃ m, k = m + 1 := ⟨k - 1, by omega⟩
    have hlt : i < w.length := by omega
    have hd : w.drop i = w[i] :: w.drop (i + 1) := List.drop_eq_getElem_cons hlt
    have hc := cleanB_iff w[i]
    rw [shibbolethref22_Parse.l0, if_pos (by rw [S_size]; omega), if_pos (by omega), bt_S w i hlt, wrap_succ i (by unfold Sm at hw; omega), ref_l0 w hw d (i + 1) k (by omega) (by omega), hd, List.all_cons]
    by_cases h1 : (w[i].toNat : Int) < 33
    · have : cleanB w[i] = false := by rw [Bool.eq_false_iff]; exact fun h => (hc.1 h).1 (by omega)
      rw [if_pos h1, this, Bool.false_and, if_neg (by decide)]
      rfl
    · rw [if_neg h1]
      by_cases h2 : (w[i].toNat : Int) = 127
      · have : cleanB w[i] = false := by rw [Bool.eq_false_iff]; exact fun h => (hc.1 h).2 h2
        rw [if_pos h2, this, Bool.false_and, if_neg (by decide)]
        rfl
      · rw [if_neg h2, hc.2 ⟨by omega, h2⟩, Bool.true_and]
theorem Parse_ev (w : List UInt8) (hw : Sm w) (k : Nat) (hk : 4 * w.length + 62 < k) : shibbolethref22_Parse.f k (S w) = some (toB (Cu.parseL w)) := by
  have h := ref_l0 w hw w.length 0 k (by omega) (by omega)
  rw [show ((0 : Nat) : Int) = 0 from rfl, List.drop_zero] at h
  unfold shibbolethref22_Parse.f
  rw [h]
  unfold Cu.parseL tellL toldL Cu.hostL
  by_cases hc : w.all cleanB = true
  · rw [if_pos hc, if_pos hc]
    generalize readL (placeL ((behindL w).takeWhile noSQF)) = r
    by_cases hr : r.2.2 = true ∧ portL r.2.1 = true
    · rw [if_pos hr, if_pos hr, if_pos rfl]
    · rw [if_neg hr, if_neg hr, if_neg (by decide)]
  · rw [if_neg hc, if_neg hc]
    rfl
end Go.Proofs.Ytbjfcnhaedhbaaa.RefCu

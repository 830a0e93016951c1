/- WhatwgFields answers true for every text: what a host and a path have not, and that what is behind the first ? or # changes nothing (no conditions but the row's size bounds). -/
import Derived.Test.YtiihgddpejmehaaGreatDoorWh2
import Derived.Test.YtiihgddpejmehaaGreatDoorZA16
import Derived.Test.YtiihgddpejmehaaGreatDoorZA17
import Derived.Test.YtiihgddpejmehaaGreatDoorZA8
import Derived.Test.YtiihgddpejmehaaGreatDoorZA9
namespace Go.Proofs.YtiihgddpejmehaaGreatDoor.Pure
open Go.RowKit Go.Proofs.YtiihgddpejmehaaGreatDoor.ZA Go.Proofs.YtiihgddpejmehaaGreatDoorW.PrintWords Go.Proofs.YtiihgddpejmehaaGreatDoorW.PrintLast Go.Proofs.YtiihgddpejmehaaGreatDoor.L Go.Proofs.YtiihgddpejmehaaGreatDoor.Str Go.Proofs.YtiihgddpejmehaaGreatDoor.Wh

set_option linter.unusedSimpArgs false
set_option linter.unusedVariables false
theorem shibbolethlaw18_has_l1 (l m : List UInt8) (hl : Sm l) (hm : Sm m) (i : Nat) (hi : i < l.length) : ∀ (d j k : Nat), j + d = m.length →
    shibbolethlaw18_has.l1 (k + d + 1) (S l) (S m) (i : Int) (j : Int) = if (m.drop j).contains l[i] = true then some true else shibbolethlaw18_has.l0 k (S l) (S m) ((i + 1 : Nat) : Int)
  | 0, j, k, h => by
    rw [shibbolethlaw18_has.l1, if_neg (by rw [S_size]; omega), wrap_succ i (by unfold Sm at hl; omega), List.drop_of_length_le (by omega)]
    rfl
  | d + 1, j, k, h => by
    have hlt : j < m.length := by omega
    have hd : m.drop j = m[j] :: m.drop (j + 1) := List.drop_eq_getElem_cons hlt
    rw [show k + (d + 1) + 1 = (k + d + 1) + 1 by omega, shibbolethlaw18_has.l1, if_pos (by rw [S_size]; omega), if_pos (by omega), if_pos (by rw [S_size]; omega), if_pos (by omega), bt_S l i hi, bt_S m j hlt, wrap_succ j (by unfold Sm at hm; omega), shibbolethlaw18_has_l1 l m hl hm i hi d (j + 1) k (by omega), hd, List.contains_cons]
    by_cases hc : l[i] = m[j]
    · rw [if_pos (by rw [hc]), hc, beq_self_eq_true, Bool.true_or, if_pos rfl]
    · have : (l[i] == m[j]) = false := beq_eq_false_iff_ne.2 hc
      rw [if_neg (fun h => hc (UInt8.toNat_inj.1 (by omega))), this, Bool.false_or]
theorem shibbolethlaw18_has_l0 (l m : List UInt8) (hl : Sm l) (hm : Sm m) : ∀ (d i k : Nat), i + d = l.length → d * (m.length + 2) < k → shibbolethlaw18_has.l0 k (S l) (S m) (i : Int) = some ((l.drop i).any fun c => m.contains c)
  | 0, i, k, h, hk => by
    obtain ⟨k, rfl⟩ : ∃ m, k = m + 1 := ⟨k - 1, by omega⟩
    rw [shibbolethlaw18_has.l0, if_neg (by rw [S_size]; omega), List.drop_of_length_le (by omega)]
    rfl
  | d + 1, i, k, h, hk => by
    have hlt : i < l.length := by omega
    have hd : l.drop i = l[i] :: l.drop (i + 1) := List.drop_eq_getElem_cons hlt
    rw [Nat.succ_mul] at hk
    obtain ⟨k, rfl⟩ : ∃ n, k = (n + m.length + 1) + 1 := ⟨k - m.length - 2, by omega⟩
    have h1 := shibbolethlaw18_has_l1 l m hl hm i hlt m.length 0 k (by omega)
    rw [show ((0 : Nat) : Int) = 0 from rfl, List.drop_zero] at h1
    rw [shibbolethlaw18_has.l0, if_pos (by rw [S_size]; omega), h1, shibbolethlaw18_has_l0 l m hl hm d (i + 1) k (by omega) (by omega), hd, List.any_cons]
    by_cases hc : m.contains l[i] = true
    · rw [if_pos hc, hc, Bool.true_or]
    · rw [if_neg hc, Bool.eq_false_iff.2 hc, Bool.false_or]
theorem shibbolethlaw18_has_ev (l m : List UInt8) (hl : Sm l) (hm : Sm m) (k : Nat) (hk : l.length * (m.length + 2) < k) : shibbolethlaw18_has.f k (S l) (S m) = some (l.any fun c => m.contains c) := by
  have := shibbolethlaw18_has_l0 l m hl hm l.length 0 k (by omega) hk
  rwa [List.drop_zero] at this

theorem awake18f (k : Nat) (hk : 100 ≤ k) : shibbolethlaw18_awake.f k = some true := at_rounds (g := fun k => shibbolethlaw18_awake.f k) shibbolethlaw18_awake.mono hk (by kernel_rfl)
theorem short18f (l : List UInt8) : shibbolethlaw18_Short.f (S l) = some (S (l.take 3000)) := by
  unfold shibbolethlaw18_Short.f
  by_cases h : l.length > 3000
  · rw [if_pos (by rw [S_size]; omega), if_pos (by decide), if_pos (by rw [S_size]; omega)]
    rw [S_upto]
  · rw [if_neg (by rw [S_size]; omega), List.take_of_length_le (by omega)]

/-! what is behind the first ? or # -/
theorem tw_tw {p q : UInt8 → Bool} (h : ∀ c, p c = true → q c = true) : ∀ l : List UInt8, (l.takeWhile q).takeWhile p = l.takeWhile p
  | [] => rfl
  | c :: l => by
    have ih := tw_tw h l
    cases hq : q c
    · have hp : p c = false := by cases hp : p c with | false => rfl | true => rw [h c hp] at hq; cases hq
      simp [List.takeWhile_cons, hq, hp]
    · cases hp : p c <;> simp [List.takeWhile_cons, hq, hp, ih]
theorem dw_tw {p q : UInt8 → Bool} (h : ∀ c, p c = true → q c = true) : ∀ l : List UInt8, (l.takeWhile q).dropWhile p = (l.dropWhile p).takeWhile q
  | [] => rfl
  | c :: l => by
    have ih := dw_tw h l
    cases hp : p c
    · cases hq : q c
      · simp [List.takeWhile_cons, List.dropWhile_cons, hq, hp]
      · simp [List.takeWhile_cons, List.dropWhile_cons, hq, hp]
    · have hq := h c hp
      simp [List.takeWhile_cons, List.dropWhile_cons, hq, hp, ih]
theorem tw_self (q : UInt8 → Bool) (l : List UInt8) : (l.takeWhile q).takeWhile q = l.takeWhile q := tw_tw (fun _ h => h) l
theorem rest_cut (sp au : Bool) (m r : List UInt8) (h : ∀ c, nm m c = true → nq c = true) : restL sp au m (r.takeWhile nq) = restL sp au m r := by
  unfold restL
  rw [tw_tw h, dw_tw h, tw_self, tw_self]
theorem marks_s (c : UInt8) (h : nm [47, 92, 63, 35] c = true) : nq c = true := by
  unfold nm at h; unfold nq; simp at h ⊢; exact h.2.2
theorem marks_o (c : UInt8) (h : nm [47, 63, 35] c = true) : nq c = true := by
  unfold nm at h; unfold nq; simp at h ⊢; exact h.2
theorem behind_cut (sp : Bool) (r : List UInt8) : behindL sp (r.takeWhile nq) = behindL sp r := by
  unfold behindL
  cases sp
  · rw [if_neg (show ¬ false = true by decide), if_neg (show ¬ false = true by decide)]
    match r with
    | [] => rfl
    | [a] =>
      have n1 : ¬ ([47, 47] : List UInt8).isPrefixOf [a] = true := fun h => by simp at h
      have n2 : ¬ ([47, 47] : List UInt8).isPrefixOf (([a] : List UInt8).takeWhile nq) = true := fun h => by
        cases ha : nq a <;> simp [List.takeWhile_cons, ha] at h
      rw [if_neg n1, if_neg n2, rest_cut _ _ _ _ marks_o]
    | a :: b :: t =>
      have e := rest_cut false false [47, 63, 35] (a :: b :: t) marks_o
      by_cases hp : a = 47 ∧ b = 47
      · obtain ⟨rfl, rfl⟩ := hp
        have h47 : nq 47 = true := by decide
        have e2 := rest_cut false true [47, 63, 35] t marks_o
        have e3 : (47 :: 47 :: t).takeWhile nq = 47 :: 47 :: t.takeWhile nq := by rw [List.takeWhile_cons, if_pos h47, List.takeWhile_cons, if_pos h47]
        rw [e3, if_pos (show ([47, 47] : List UInt8).isPrefixOf (47 :: 47 :: t.takeWhile nq) = true by simp), if_pos (show ([47, 47] : List UInt8).isPrefixOf (47 :: 47 :: t) = true by simp)]
        exact e2
      · have n1 : ¬ ([47, 47] : List UInt8).isPrefixOf (a :: b :: t) = true := fun h => hp (by simp at h; exact ⟨h.1.symm, h.2.symm⟩)
        have n2 : ¬ ([47, 47] : List UInt8).isPrefixOf ((a :: b :: t).takeWhile nq) = true := by
          intro h
          cases ha : nq a
          · simp [List.takeWhile_cons, ha] at h
          · cases hb : nq b
            · simp [List.takeWhile_cons, ha, hb] at h
            · simp [List.takeWhile_cons, ha, hb] at h; exact hp ⟨h.1.symm, h.2.symm⟩
        rw [if_neg n1, if_neg n2, e]
  · rw [if_pos rfl, if_pos rfl, dw_tw (p := sl2) (q := nq) (fun c h => by unfold sl2 at h; unfold nq; simp at h ⊢; rcases h with h | h <;> (rw [h]; decide)), rest_cut _ _ _ _ marks_s]
theorem behind_same (sp : Bool) (r z : List UInt8) (c : UInt8) (hc : nq c = false) : behindL sp (r.takeWhile nq ++ c :: z) = behindL sp r := by
  rw [← behind_cut sp (r.takeWhile nq ++ c :: z), ← behind_cut sp r]
  congr 1
  rw [List.takeWhile_append_of_pos (fun x hx => List.all_eq_true.1 (List.all_takeWhile) x hx), List.takeWhile_cons, if_neg (by rw [hc]; decide), List.append_nil]

/-! the scheme -/
theorem ok_no58 {s : List UInt8} (h : okScheme s = true) : ∀ c ∈ s, schemeB c = true := by
  cases s with
  | nil => simp
  | cons x t =>
    unfold okScheme at h
    rw [Bool.and_eq_true] at h
    exact List.all_eq_true.1 h.2
theorem byte_imp18 {p q : UInt8 → Bool} (h : ((List.range 256).all fun n => !(p (UInt8.ofNat n)) || q (UInt8.ofNat n)) = true) (c : UInt8) (hc : p c = true) : q c = true := by
  have h5 := all_bytes (p := fun n => !(p (UInt8.ofNat n)) || q (UInt8.ofNat n)) h c
  rw [UInt8.ofNat_toNat, hc] at h5
  exact h5
theorem scheme_not58 (c : UInt8) (h : schemeB c = true) : (!(c == 58)) = true := byte_imp18 (p := schemeB) (q := fun c => !(c == 58)) (by kernel_rfl) c h
theorem scheme_nq (c : UInt8) (h : schemeB c = true) : nq c = true := byte_imp18 (p := schemeB) (q := nq) (by kernel_rfl) c h
theorem scheme_solid (c : UInt8) (h : schemeB c = true) : Wh.blank c = false := by
  have := byte_imp18 (p := schemeB) (q := fun c => !decide (c.toNat ≤ 32)) (by kernel_rfl) c h
  simpa [Wh.blank, whatwg_Text.blank] using this
theorem schemeL_mk (s r : List UInt8) (h : okScheme s = true) : schemeL (s ++ 58 :: r) = (s, r, true) := by
  have hn : ∀ c ∈ s, (fun x : UInt8 => !(x == 58)) c = true := fun c hc => scheme_not58 c (ok_no58 h c hc)
  have e1 : (s ++ 58 :: r).takeWhile (fun x => !(x == 58)) = s := by rw [List.takeWhile_append_of_pos hn, List.takeWhile_cons, if_neg (by decide), List.append_nil]
  have e2 : (s ++ 58 :: r).dropWhile (fun x => !(x == 58)) = 58 :: r := by rw [List.dropWhile_append_of_pos hn, List.dropWhile_cons, if_neg (by decide)]
  unfold schemeL cutL
  simp only [e1, e2]
  rw [if_pos ⟨by simp, h⟩]
  rfl
theorem schemeL_of (t : List UInt8) (h : (schemeL t).2.2 = true) : okScheme (schemeL t).1 = true ∧ t = (schemeL t).1 ++ 58 :: (schemeL t).2.1 := by
  unfold schemeL at h ⊢
  split at h
  · rename_i hc
    rw [if_pos hc]
    refine ⟨hc.2, ?_⟩
    have hm : t.contains 58 = true := hc.1
    have h3 := List.takeWhile_append_dropWhile (p := fun x => !(x == (58 : UInt8))) (l := t)
    have h4 : ∃ r, t.dropWhile (fun x => !(x == (58 : UInt8))) = 58 :: r := by
      clear h hc h3
      induction t with
      | nil => simp at hm
      | cons c t ih =>
        by_cases e : c = 58
        · exact ⟨t, by rw [List.dropWhile_cons, if_neg (by rw [e]; decide), e]⟩
        · rw [List.dropWhile_cons, if_pos (by simp [e])]
          refine ih ?_
          simp at hm ⊢
          rcases hm with hm | hm
          · exact absurd hm.symm e
          · exact hm
    obtain ⟨r, hr⟩ := h4
    show t = t.takeWhile (fun x => !(x == 58)) ++ 58 :: (t.dropWhile (fun x => !(x == 58))).drop 1
    rw [hr] at h3 ⊢
    exact h3.symm
  · simp at h
theorem told_same (t z : List UInt8) (c : UInt8) (hc : nq c = false) (h : (schemeL t).2.2 = true) : toldL (t.takeWhile nq ++ c :: z) = toldL t := by
  obtain ⟨ho, he⟩ := schemeL_of t h
  have e : t.takeWhile nq ++ c :: z = (schemeL t).1 ++ 58 :: ((schemeL t).2.1.takeWhile nq ++ c :: z) := by
    conv => lhs; rw [he]
    rw [List.takeWhile_append_of_pos (fun x hx => scheme_nq x (ok_no58 ho x hx)), List.takeWhile_cons, if_pos (by decide), List.append_assoc, List.cons_append]
  unfold toldL
  rw [e, schemeL_mk _ _ ho, if_pos rfl, if_pos h]
  exact behind_same _ _ z c hc
theorem trim_solid (x z : UInt8) (m : List UInt8) (hx : Wh.blank x = false) (hz : Wh.blank z = false) : trimL (x :: m ++ [z]) = x :: m ++ [z] := by
  unfold trimL
  have e1 : (x :: m ++ [z]).dropWhile Wh.blank = x :: m ++ [z] := by rw [List.cons_append, List.dropWhile_cons, if_neg (by rw [hx]; decide)]
  rw [e1, List.reverse_append]
  have e2 : ([z].reverse ++ (x :: m).reverse).dropWhile Wh.blank = [z].reverse ++ (x :: m).reverse := by
    show (z :: (x :: m).reverse).dropWhile Wh.blank = z :: (x :: m).reverse
    rw [List.dropWhile_cons, if_neg (by rw [hz]; decide)]
  rw [e2, ← List.reverse_append, List.reverse_reverse]
theorem parse_behind (w b : List UInt8) (c : UInt8) (hc : nq c = false) (hk : keep c = true) (h : (schemeL (textL w)).2.2 = true) : parseL ((textL w).takeWhile nq ++ [c] ++ b ++ [120]) = parseL w := by
  have hf : (textL w).filter keep = textL w := by rw [textL_eq, List.filter_filter]; congr 1; funext c; simp
  have hall : ∀ x ∈ textL w, keep x = true := List.filter_eq_self.1 hf
  obtain ⟨ho, he⟩ := schemeL_of _ h
  have hx : ∃ x m, (textL w).takeWhile nq = x :: m ∧ Wh.blank x = false := by
    cases hs : (schemeL (textL w)).1 with
    | nil => rw [hs] at ho; cases ho
    | cons x m =>
      have hsx : schemeB x = true := ok_no58 ho x (by rw [hs]; simp)
      rw [he, hs, List.cons_append, List.takeWhile_cons, if_pos (scheme_nq x hsx)]
      exact ⟨x, _, rfl, scheme_solid x hsx⟩
  obtain ⟨x, m, e, hb⟩ := hx
  have ht : textL ((textL w).takeWhile nq ++ [c] ++ b ++ [120]) = (textL w).takeWhile nq ++ c :: (b.filter keep ++ [120]) := by
    have hf2 : ((textL w).takeWhile nq).filter keep = (textL w).takeWhile nq := List.filter_eq_self.2 fun y hy => hall y ((List.takeWhile_sublist _).subset hy)
    have hfc : [c].filter keep = [c] := by rw [List.filter_cons, if_pos hk]; rfl
    have hfx : [(120 : UInt8)].filter keep = [120] := by decide
    rw [textL_trim, List.filter_append, List.filter_append, List.filter_append, hf2, hfc, hfx, e]
    have := trim_solid x 120 (m ++ [c] ++ b.filter keep) hb (by decide)
    simpa using this
  show toldL (textL _) = toldL (textL w)
  rw [ht]
  exact told_same (textL w) _ c hc h

/-! a host, a path -/
theorem place_no64 (a : List UInt8) : ∀ c ∈ placeL a, c ≠ 64 := by
  intro c hc
  unfold placeL behindLast at hc
  have h := List.all_eq_true.1 (List.all_takeWhile (p := fun x => !(x == (64 : UInt8))) (l := a.reverse)) c (List.mem_reverse.1 hc)
  simpa using h
theorem place_len (a : List UInt8) : (placeL a).length ≤ a.length := by
  unfold placeL behindLast
  rw [List.length_reverse]
  refine Nat.le_trans (takeW_le _ _) ?_
  rw [List.length_reverse]
  exact Nat.le_refl _
theorem in_facts (t : List UInt8) : (∀ c ∈ (inL t).1, c ∈ t ∨ c = 91 ∨ c = 93) ∧ (inL t).1.length ≤ t.length + 1 ∧ ((inL t).2.2 = true → (inL t).1 ≠ []) := by
  unfold inL
  have h3 := List.takeWhile_append_dropWhile (p := hexC) (l := t)
  split
  · simp
  · rename_i c r e
    rw [e] at h3
    split
    · refine ⟨?_, ?_, by simp⟩
      · intro x hx
        simp only [List.mem_cons, List.mem_append, List.not_mem_nil, or_false] at hx
        rcases hx with hx | hx | hx
        · exact .inr (.inl hx)
        · exact .inl ((List.takeWhile_sublist _).subset hx)
        · exact .inr (.inr hx)
      · have := congrArg List.length h3
        simp at this ⊢
        omega
    · simp
theorem named_facts (a : List UInt8) : (∀ c ∈ (namedL a).1, c ∈ a) ∧ (namedL a).1.length ≤ a.length ∧ ((namedL a).2.2 = true → (namedL a).1 ≠ []) := by
  unfold namedL
  split
  · refine ⟨fun c hc => (List.takeWhile_sublist _).subset hc, takeW_le _ _, fun h e => ?_⟩
    have e' : headL a = [] := e
    rw [e'] at h
    simp at h
  · simp
theorem split_facts (a : List UInt8) : (∀ c ∈ (splitL a).1, c ∈ a ∨ c = 91 ∨ c = 93) ∧ (splitL a).1.length ≤ a.length ∧ ((splitL a).2.2 = true → (splitL a).1 ≠ []) := by
  unfold splitL
  split
  · rename_i t
    have h := in_facts t
    refine ⟨fun c hc => ?_, by simpa using h.2.1, h.2.2⟩
    rcases h.1 c hc with h1 | h1
    · exact .inl (List.mem_cons_of_mem _ h1)
    · exact .inr h1
  · have h := named_facts a
    exact ⟨fun c hc => .inl (h.1 c hc), h.2.1, h.2.2⟩
theorem host_facts (a : List UInt8) : (∀ c ∈ (hostL a).1, c ≠ 64) ∧ (hostL a).1.length ≤ a.length ∧ ((hostL a).2 = true → (hostL a).1 ≠ []) ∧ ((hostL a).2 = false → (hostL a).1 = []) := by
  have h := split_facts (placeL a)
  have hp := place_no64 a
  have hl := place_len a
  unfold hostL
  split
  · rename_i hc
    refine ⟨fun c hm => ?_, by have := h.2.1; show (splitL (placeL a)).1.length ≤ _; omega, fun _ => h.2.2 hc.1, fun h => by simp at h⟩
    rcases h.1 c hm with h1 | h1 | h1
    · exact hp c h1
    · rw [h1]; decide
    · rw [h1]; decide
  · simp
structure Facts (n : Nat) (x : Bool × List UInt8 × List UInt8) : Prop where
  bad : x.1 = false → x = (false, [], [])
  no64 : ∀ c ∈ x.2.1, c ≠ 64
  path : ∀ c ∈ x.2.2, nq c = true
  len : x.2.1.length + x.2.2.length ≤ n
theorem facts_nil (n : Nat) : Facts n (false, [], []) := ⟨fun _ => rfl, by simp, by simp, by simp⟩
theorem rest_facts (sp au : Bool) (m r : List UInt8) : Facts r.length (restL sp au m r) := by
  have hq : ∀ l : List UInt8, ∀ c ∈ l.takeWhile nq, nq c = true := fun l c hc => List.all_eq_true.1 List.all_takeWhile c hc
  have hh := host_facts (r.takeWhile (nm m))
  have hs : (r.takeWhile (nm m)).length + (r.dropWhile (nm m)).length = r.length := by
    have := congrArg List.length (List.takeWhile_append_dropWhile (p := nm m) (l := r))
    rwa [List.length_append] at this
  have hl := takeW_le nq (r.dropWhile (nm m))
  have hgood : Facts r.length (true, (hostL (r.takeWhile (nm m))).1, (r.dropWhile (nm m)).takeWhile nq) :=
    ⟨fun h => absurd h (by simp), hh.1, hq _, by have := hh.2.1; show (hostL (r.takeWhile (nm m))).1.length + ((r.dropWhile (nm m)).takeWhile nq).length ≤ _; omega⟩
  unfold restL
  split
  · split
    · exact hgood
    · split
      · exact facts_nil _
      · split
        · exact hgood
        · exact facts_nil _
  · exact ⟨fun h => absurd h (by simp), by simp, hq r, by have := takeW_le nq r; simpa using this⟩
theorem Facts.more {n m : Nat} {x : Bool × List UInt8 × List UInt8} (h : Facts n x) (hm : n ≤ m) : Facts m x := ⟨h.bad, h.no64, h.path, Nat.le_trans h.len hm⟩
theorem behind_facts (sp : Bool) (r : List UInt8) : Facts r.length (behindL sp r) := by
  unfold behindL
  split
  · exact (rest_facts _ _ _ _).more (dropW_le _ _)
  · split
    · exact (rest_facts _ _ _ _).more (by simp)
    · exact rest_facts _ _ _ _
theorem told_facts (t : List UInt8) : Facts (t.length - 1) (toldL t) := by
  unfold toldL
  split
  · rename_i h
    obtain ⟨ho, he⟩ := schemeL_of t h
    refine (behind_facts _ _).more ?_
    have := congrArg List.length he
    simp at this
    omega
  · exact facts_nil _
theorem special_facts (r : List UInt8) (h : (behindL true r).1 = true) : (behindL true r).2.1 ≠ [] ∧ ((behindL true r).2.2 = [] ∨ ∃ c t, (behindL true r).2.2 = c :: t ∧ (c = 47 ∨ c = 92)) := by
  unfold behindL at h ⊢
  rw [if_pos rfl] at h ⊢
  unfold restL at h ⊢
  rw [if_pos rfl] at h ⊢
  have hh := host_facts ((r.dropWhile sl2).takeWhile (nm [47, 92, 63, 35]))
  by_cases hc : (hostL ((r.dropWhile sl2).takeWhile (nm [47, 92, 63, 35]))).2 = true
  · rw [if_pos hc] at h ⊢
    refine ⟨hh.2.2.1 hc, ?_⟩
    show ((r.dropWhile sl2).dropWhile (nm [47, 92, 63, 35])).takeWhile nq = [] ∨ ∃ c t, ((r.dropWhile sl2).dropWhile (nm [47, 92, 63, 35])).takeWhile nq = c :: t ∧ (c = 47 ∨ c = 92)
    cases e : (r.dropWhile sl2).dropWhile (nm [47, 92, 63, 35]) with
    | nil => exact .inl rfl
    | cons c t =>
      have hn : nm [47, 92, 63, 35] c = false := by
        have := List.head?_dropWhile_not (nm [47, 92, 63, 35]) (r.dropWhile sl2)
        rw [e] at this
        simpa using this
      rw [List.takeWhile_cons]
      split
      · rename_i hq
        refine .inr ⟨c, _, rfl, ?_⟩
        unfold nm at hn
        unfold nq at hq
        simp at hn hq
        by_cases a : c = 47
        · exact .inl a
        · by_cases b : c = 92
          · exact .inr b
          · exact absurd (hn a b hq.1) hq.2
      · exact .inl rfl
  · rw [if_neg hc, if_pos rfl] at h
    cases h

/-! the law -/
theorem fields_j2 (w : List UInt8) (hw : w.length ≤ 3000) (k : Nat) (hk : 4000 < k) (h : (parseL w).1 = true) :
    shibbolethlaw18_WhatwgFields.j2 k (S (textL w)) false true (S (parseL w).2.1) (S (parseL w).2.2) = some true := by
  obtain ⟨k, rfl⟩ : ∃ m, k = m + 1 := ⟨k - 1, by omega⟩
  have hle := textL_le w
  have hsl := scheme_le (textL w)
  have haw := awake18f k (by omega)
  rw [shibbolethlaw18_WhatwgFields.j2, if_neg (by decide)]
  refine Option.bind_eq_some_iff.2 ⟨_, Scheme_ev (textL w) (by unfold Sm; omega) k (by omega), Option.bind_eq_some_iff.2 ⟨_, Special_eq _ (by omega), ?_⟩⟩
  by_cases hs : specL (schemeL (textL w)).1 = true
  · rw [if_pos hs, S_toList]
    have hp : parseL w = behindL true (schemeL (textL w)).2.1 := by
      unfold parseL toldL at h ⊢
      by_cases ho : (schemeL (textL w)).2.2 = true
      · rw [if_pos ho, hs]
      · rw [if_neg ho] at h; cases h
    have hf := special_facts (schemeL (textL w)).2.1 (by rw [← hp]; exact h)
    rw [← hp] at hf
    rw [if_neg hf.1, S_toList]
    rcases hf.2 with e | ⟨c, t, e, hc⟩
    · rw [if_pos e]
      exact Option.bind_eq_some_iff.2 ⟨_, haw, rfl⟩
    · rw [e, if_neg (by simp), if_pos (by rw [S_size, List.length_cons]; omega)]
      have h0 : bt (S (c :: t)) 0 = (c.toNat : Int) := bt_S (c :: t) 0 (by simp)
      rw [h0]
      rcases hc with rfl | rfl
      · rw [if_pos (by decide)]
        exact Option.bind_eq_some_iff.2 ⟨_, haw, rfl⟩
      · rw [if_neg (by decide), if_pos (by decide)]
        exact Option.bind_eq_some_iff.2 ⟨_, haw, rfl⟩
  · rw [if_neg hs]
    exact Option.bind_eq_some_iff.2 ⟨_, haw, rfl⟩
/-- The place of the first ? or # from i on. -/
theorem fi_step (t : List UInt8) (j : Nat) (hj : j < t.length) : fi (fun c => !nq c) (t.drop j) = if nq t[j] = true then fi (fun c => !nq c) (t.drop (j + 1)) + 1 else 0 := by
  rw [List.drop_eq_getElem_cons hj]
  show List.findIdx _ (t[j] :: t.drop (j + 1)) = _
  rw [List.findIdx_cons]
  cases nq t[j] <;> simp
theorem fields_l0 (w b : List UInt8) (hw : w.length ≤ 3000) (hb : b.length ≤ 3000) (h : (parseL w).1 = true) : ∀ (j k : Nat), j ≤ (textL w).length → j + 7000 < k →
    shibbolethlaw18_WhatwgFields.l0 k (S b) (S (textL w)) ((j + fi (fun c => !nq c) ((textL w).drop j) : Nat) : Int) ((j : Int) - 1) true (S (parseL w).2.1) (S (parseL w).2.2) = some true
  | 0, k, hj, hk => by
    obtain ⟨k, rfl⟩ : ∃ m, k = m + 1 := ⟨k - 1, by omega⟩
    have hle := textL_le w
    have ho : (schemeL (textL w)).2.2 = true := by
      unfold parseL toldL at h
      by_cases ho : (schemeL (textL w)).2.2 = true
      · exact ho
      · rw [if_neg ho] at h; cases h
    rw [List.drop_zero, Nat.zero_add]
    have hfl := fi_le (fun c => !nq c) (textL w)
    have e1 : (textL w).take (fi (fun c => !nq c) (textL w)) = (textL w).takeWhile nq := by
      rw [take_fi]; congr 1; funext c; simp
    have hlen : ((textL w).takeWhile nq).length ≤ 3000 := by have := takeW_le nq (textL w); omega
    have p1 := parse_behind w b 63 (by decide) (by decide) ho
    have p2 := parse_behind w b 35 (by decide) (by decide) ho
    have q1 : (S ((textL w).takeWhile nq) ++ (⟨#[63]⟩ : ByteArray) ++ S b ++ (⟨#[120]⟩ : ByteArray)) = S ((textL w).takeWhile nq ++ [63] ++ b ++ [120]) := by
      rw [← S_append, ← S_append, ← S_append]; rfl
    have q2 : (S ((textL w).takeWhile nq) ++ (⟨#[35]⟩ : ByteArray) ++ S b ++ (⟨#[120]⟩ : ByteArray)) = S ((textL w).takeWhile nq ++ [35] ++ b ++ [120]) := by
      rw [← S_append, ← S_append, ← S_append]; rfl
    have z1 : (S ((textL w).takeWhile nq) ++ (⟨#[63]⟩ : ByteArray)).size = ((textL w).takeWhile nq).length + 1 := by
      rw [show (⟨#[63]⟩ : ByteArray) = S [63] from rfl, S_append, S_size]; simp
    have z2 : (S ((textL w).takeWhile nq) ++ (⟨#[35]⟩ : ByteArray)).size = ((textL w).takeWhile nq).length + 1 := by
      rw [show (⟨#[35]⟩ : ByteArray) = S [35] from rfl, S_append, S_size]; simp
    have y1 : (S ((textL w).takeWhile nq) ++ (⟨#[63]⟩ : ByteArray) ++ S b).size = ((textL w).takeWhile nq).length + 1 + b.length := by
      rw [show (⟨#[63]⟩ : ByteArray) = S [63] from rfl, S_append, S_append, S_size]; simp; omega
    have y2 : (S ((textL w).takeWhile nq) ++ (⟨#[35]⟩ : ByteArray) ++ S b).size = ((textL w).takeWhile nq).length + 1 + b.length := by
      rw [show (⟨#[35]⟩ : ByteArray) = S [35] from rfl, S_append, S_append, S_size]; simp; omega
    rw [shibbolethlaw18_WhatwgFields.l0, if_neg (by omega), if_pos (by omega), if_pos (by rw [S_size]; omega), Int.toNat_natCast, S_upto, e1]
    rw [if_pos (by rw [S_size]; omega), if_pos (by rw [z1, S_size]; omega), if_pos (by rw [y1]; omega), q1]
    refine Option.bind_eq_some_iff.2 ⟨_, Parse_ev _ (by simp; omega) k (by simp; omega), ?_⟩
    rw [p1]
    unfold out
    rw [if_neg (by simp [h])]
    rw [if_pos (by rw [z2, S_size]; omega), if_pos (by rw [y2]; omega), q2]
    refine Option.bind_eq_some_iff.2 ⟨_, Parse_ev _ (by simp; omega) k (by simp; omega), ?_⟩
    rw [p2]
    unfold out
    rw [if_neg (by simp [h])]
    refine Option.bind_eq_some_iff.2 ⟨_, Text_eq (textL w) (by omega), ?_⟩
    rw [textL_idem, bne_self_eq_false]
    exact fields_j2 w hw k (by omega) h
  | j + 1, k, hj, hk => by
    obtain ⟨k, rfl⟩ : ∃ m, k = m + 1 := ⟨k - 1, by omega⟩
    have hle := textL_le w
    have hlt : j < (textL w).length := by omega
    have ih := fields_l0 w b hw hb h j k (by omega) (by omega)
    rw [fi_step _ j hlt] at ih
    have hm : ((j + 1 : Nat) : Int) - 1 = (j : Int) := by omega
    have hwr : wrap64 ((j : Int) - 1) = (j : Int) - 1 := wrap_id (by omega) (by omega)
    have h63 : (63 : UInt8).toNat = 63 := rfl
    have h35 : (35 : UInt8).toNat = 35 := rfl
    rw [hm, shibbolethlaw18_WhatwgFields.l0, if_pos (by omega), if_pos (by omega), if_pos (by rw [S_size]; omega), bt_S (textL w) j hlt, hwr]
    by_cases a : (textL w)[j] = 63
    · have hn : ¬ nq (textL w)[j] = true := by rw [a]; decide
      rw [if_neg hn] at ih
      rw [if_pos (by rw [a]; rfl)]
      exact ih
    · rw [if_neg (fun e => a ((eqNat _ _).2 (by omega)))]
      by_cases c : (textL w)[j] = 35
      · have hn : ¬ nq (textL w)[j] = true := by rw [c]; decide
        rw [if_neg hn] at ih
        rw [if_pos (by rw [c]; rfl)]
        exact ih
      · have hn : nq (textL w)[j] = true := by unfold nq; simp [a, c]
        rw [if_pos hn] at ih
        rw [if_neg (fun e => c ((eqNat _ _).2 (by omega)))]
        have e : j + 1 + fi (fun c => !nq c) ((textL w).drop (j + 1)) = j + (fi (fun c => !nq c) ((textL w).drop (j + 1)) + 1) := by omega
        rw [e]
        exact ih
theorem any_false {l m : List UInt8} (h : ∀ c ∈ l, m.contains c = false) : (l.any fun c => m.contains c) = false := by
  rw [List.any_eq_false]
  intro c hc
  rw [h c hc]
  decide
theorem WhatwgFields : shibbolethlaw18_WhatwgFields.Pure := by
  intro a0 a1 _ _
  obtain ⟨l, rfl⟩ := S_surj a0
  obtain ⟨b, rfl⟩ := S_surj a1
  refine ⟨60000, ?_⟩
  unfold shibbolethlaw18_WhatwgFields.f
  refine Option.bind_eq_some_iff.2 ⟨_, short18f l, Option.bind_eq_some_iff.2 ⟨_, short18f b, ?_⟩⟩
  have hw : (l.take 3000).length ≤ 3000 := by rw [List.length_take]; omega
  have hb : (b.take 3000).length ≤ 3000 := by rw [List.length_take]; omega
  generalize l.take 3000 = w at *
  generalize b.take 3000 = b at *
  have hle := textL_le w
  refine Option.bind_eq_some_iff.2 ⟨_, Text_eq w (by omega), Option.bind_eq_some_iff.2 ⟨_, Parse_ev w (by omega) 60000 (by omega), ?_⟩⟩
  have hf : Facts ((textL w).length - 1) (parseL w) := told_facts (textL w)
  have haw := awake18f 60000 (by omega)
  unfold out
  by_cases h : (parseL w).1 = true
  · have hlen := hf.len
    have hpos : 0 < (textL w).length := by
      rcases Nat.eq_zero_or_pos (textL w).length with e | e
      · have e2 : textL w = [] := List.eq_nil_of_length_eq_zero e
        unfold parseL at h
        rw [e2] at h
        exact absurd h (by decide)
      · exact e
    have m1 : (parseL w).2.1.length ≤ 3000 := by omega
    have m2 : (parseL w).2.2.length ≤ 3000 := by omega
    rw [if_pos h]
    refine Option.bind_eq_some_iff.2 ⟨_, shibbolethlaw18_has_ev (parseL w).2.1 [64] (by unfold Sm; omega) (by unfold Sm; simp) 60000 (by simp; omega), ?_⟩
    rw [any_false (fun c hc => by have := hf.no64 c hc; simpa using this), if_neg (by decide)]
    refine Option.bind_eq_some_iff.2 ⟨_, shibbolethlaw18_has_ev (parseL w).2.2 [63, 35] (by unfold Sm; omega) (by unfold Sm; simp) 60000 (by simp; omega), ?_⟩
    rw [any_false (fun c hc => by have := hf.path c hc; unfold nq at this; simpa using this), if_neg (by decide)]
    have hd : decide (wrap64 (((S (parseL w).2.1).size : Int) + ((S (parseL w).2.2).size : Int)) ≥ ((S (textL w)).size : Int)) = false := by
      rw [S_size, S_size, S_size, wrap_id (by omega) (by omega)]
      exact decide_eq_false (by omega)
    show shibbolethlaw18_WhatwgFields.j0 60000 (S b) (S (textL w)) (decide (wrap64 (((S (parseL w).2.1).size : Int) + ((S (parseL w).2.2).size : Int)) ≥ ((S (textL w)).size : Int))) (parseL w).1 (S (parseL w).2.1) (S (parseL w).2.2) = some true
    rw [hd, h, shibbolethlaw18_WhatwgFields.j0, if_neg (by decide)]
    have hl := fields_l0 w b hw hb h (textL w).length 59999 (Nat.le_refl _) (by omega)
    rw [List.drop_length] at hl
    have hwr : wrap64 (((S (textL w)).size : Int) - 1) = ((textL w).length : Int) - 1 := by rw [S_size]; exact wrap_id (by omega) (by omega)
    rw [hwr]
    exact hl
  · have e := hf.bad (Bool.eq_false_iff.2 h)
    rw [if_neg h, e]
    rw [if_pos (by simp)]
    exact Option.bind_eq_some_iff.2 ⟨_, haw, rfl⟩
end Go.Proofs.YtiihgddpejmehaaGreatDoor.Pure

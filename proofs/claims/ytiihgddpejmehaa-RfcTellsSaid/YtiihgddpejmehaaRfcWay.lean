/- What rfc.Parse tells is what a text may be, each way of parting it: plain lemmas over lists, no program. -/
import Derived.Test.YtiihgddpejmehaaRfc
namespace Go.Proofs.Ytiihgddpejmehaa.Rf
open Go.RowKit Go.Proofs.Ytiihgddpejmehaa.L Go.Proofs.Ytiihgddpejmehaa.Str

/-! a beginning that is all p, and what does not go on so -/
def Stops (p : UInt8 → Bool) (r : List UInt8) : Prop := ∀ c t, r = c :: t → p c = false
theorem stops_nil (p : UInt8 → Bool) : Stops p [] := fun _ _ h => absurd h (by simp)
theorem stops_cons {p : UInt8 → Bool} {c : UInt8} {t : List UInt8} (h : p c = false) : Stops p (c :: t) := fun c' t' e => by
 injection e with e1 e2
 exact e1 ▸ h
theorem tw_app {p : UInt8 → Bool} : ∀ {l r : List UInt8}, (∀ x ∈ l, p x = true) → Stops p r → (l ++ r).takeWhile p = l ∧ (l ++ r).dropWhile p = r
 | [], [], _, _ => ⟨rfl, rfl⟩
 | [], c :: t, _, h => by
  have hc := h c t rfl
  exact ⟨by rw [List.nil_append, List.takeWhile_cons, hc]; rfl, by rw [List.nil_append, List.dropWhile_cons, hc]; rfl⟩
 | a :: l, r, ha, h => by
  obtain ⟨h1, h2⟩ := tw_app (fun x hx => ha x (List.mem_cons_of_mem _ hx)) h
  have e := ha a (List.mem_cons_self ..)
  exact ⟨by rw [List.cons_append, List.takeWhile_cons, e, h1]; rfl, by rw [List.cons_append, List.dropWhile_cons, e, if_pos rfl, h2]⟩
theorem cut_some (l r : List UInt8) (c : UInt8) (h : c ∉ l) : cutL (l ++ c :: r) c = (l, r, true) := by
 have hp : ∀ x ∈ l, (!(x == c)) = true := fun x hx => by
  have : x ≠ c := fun e => h (e ▸ hx)
  simp [this]
 obtain ⟨h1, h2⟩ := tw_app (r := c :: r) hp (stops_cons (by simp))
 unfold cutL
 rw [h1, h2]
 simp
theorem cut_no (l : List UInt8) (c : UInt8) (h : c ∉ l) : cutL l c = (l, [], false) := by
 have hp : ∀ x ∈ l, (!(x == c)) = true := fun x hx => by
  have : x ≠ c := fun e => h (e ▸ hx)
  simp [this]
 obtain ⟨h1, h2⟩ := tw_app (r := []) hp (stops_nil _)
 rw [List.append_nil] at h1 h2
 unfold cutL
 rw [h1, h2]
 simp [h]

theorem cut_glue {l : List UInt8} {c : UInt8} (h : l.contains c = true) : l = (cutL l c).1 ++ c :: (cutL l c).2.1 := by
 have hm : c ∈ l := List.contains_iff_mem.1 h
 have hne : l.dropWhile (fun x => !(x == c)) ≠ [] := fun e => by
  have h5 := List.takeWhile_append_dropWhile (p := fun x => !(x == c)) (l := l)
  rw [e, List.append_nil] at h5
  have h6 : c ∈ l.takeWhile (fun x => !(x == c)) := h5.symm ▸ hm
  have h7 := List.all_eq_true.1 (List.all_takeWhile (p := fun x => !(x == c)) (l := l)) c h6
  simp at h7
 obtain ⟨d, t, hd⟩ : ∃ d t, l.dropWhile (fun x => !(x == c)) = d :: t := by
  cases hq : l.dropWhile (fun x => !(x == c)) with
  | nil => exact absurd hq hne
  | cons d t => exact ⟨d, t, rfl⟩
 have hc : d = c := by
  have h8 := List.head_dropWhile_not (fun x => !(x == c)) hne
  simp only [hd, List.head_cons] at h8
  simpa using h8
 show l = l.takeWhile (fun x => !(x == c)) ++ c :: (l.dropWhile (fun x => !(x == c))).drop 1
 conv => lhs; rw [← List.takeWhile_append_dropWhile (p := fun x => !(x == c)) (l := l)]
 rw [hd, hc]
 rfl

/-! names -/
theorem byte_imp2 {p q : UInt8 → Bool} (h : ((List.range 256).all fun n => !(p (UInt8.ofNat n)) || q (UInt8.ofNat n)) = true) (c : UInt8) (hc : p c = true) : q c = true := by
 have h5 := all_bytes (p := fun n => !(p (UInt8.ofNat n)) || q (UInt8.ofNat n)) h c
 rw [UInt8.ofNat_toNat, hc] at h5
 exact h5
theorem named_mem {l m : List UInt8} (h : namedL l m = true) : ∀ x ∈ l, plainB x = true ∨ x ∈ m ∨ x = 37 := fun x hx => by
 unfold namedL at h
 rw [Bool.and_eq_true] at h
 have := List.all_eq_true.1 h.2 x hx
 rw [Bool.or_eq_true, List.contains_iff_mem, List.mem_append, List.mem_singleton] at this
 exact this
theorem not_plain {c : UInt8} (h : plainB c = false) {l m : List UInt8} (hn : namedL l m = true) (hm : c ∉ m) (h37 : c ≠ 37) : c ∉ l := fun hx => by
 rcases named_mem hn c hx with e | e | e
 ·rw [h] at e; exact absurd e (by decide)
 ·exact hm e
 ·exact h37 e
/-- The bytes of what stands in brackets. -/
def litB (c : UInt8) : Bool := plainB c || hexB c || c == 58
theorem literal_mem {s : List UInt8} (h : literalL s = true) : ∀ x ∈ s, litB x = true := by
 unfold literalL at h
 rw [Bool.or_eq_true, Bool.and_eq_true] at h
 intro x hx
 rcases h with h | h
 ·have h2 := List.all_eq_true.1 h.2 x hx
  rw [Bool.or_eq_true] at h2
  refine byte_imp2 (p := fun x => hexB x || ([58, 46] : List UInt8).contains x) (q := litB) (by kernel_rfl) x ?_
  rw [Bool.or_eq_true]; exact h2
 ·unfold laterL at h
  simp only [Bool.and_eq_true] at h
  obtain ⟨⟨⟨h1, h2⟩, _⟩, h4⟩ := h
  have hc : s.contains 46 = true := h1
  have e : s = (cutL s 46).1 ++ 46 :: (cutL s 46).2.1 := cut_glue hc
  rw [e, List.mem_append, List.mem_cons] at hx
  rcases hx with hx | hx | hx
  ·generalize (cutL s 46).1 = v at *
   cases v with
   | nil => exact absurd hx (by simp)
   | cons c t =>
    simp only [Bool.and_eq_true] at h2
    rcases List.mem_cons.1 hx with hx | hx
    ·subst hx
     exact byte_imp2 (p := vB) (q := litB) (by kernel_rfl) _ h2.1.1
    ·refine byte_imp2 (p := fun x => hexB x || ([] : List UInt8).contains x) (q := litB) (by kernel_rfl) x (List.all_eq_true.1 h2.2 x hx)
  ·subst hx; decide
  ·exact byte_imp2 (p := fun x => plainB x || ([58] : List UInt8).contains x) (q := litB) (by kernel_rfl) x (List.all_eq_true.1 h4 x hx)

/-! the host -/
/-- May a text be a host? -/
def isHostL (s : List UInt8) : Bool :=
 if decide (s.length > 1) && s.head? == some 91 && s.getLast? == some 93 then literalL (s.drop 1).dropLast else namedL s []
/-- Nothing, or a colon and digits. -/
def portR (r : List UInt8) : Prop := r = [] ∨ ∃ t, r = 58 :: t ∧ t.all digitB = true
theorem countByte_zero {l : List UInt8} {c : UInt8} : Lib.countByte l c = 0 ↔ c ∉ l := by
 unfold Lib.countByte
 constructor
 ·intro h
  exact List.count_eq_zero.1 (by omega)
 ·intro h
  have := List.count_eq_zero.2 h
  omega
theorem countByte_cons (l : List UInt8) (c : UInt8) : Lib.countByte (c :: l) c = Lib.countByte l c + 1 := by
 unfold Lib.countByte
 rw [List.count_cons_self]
theorem digit_58 {l : List UInt8} (h : l.all digitB = true) : (58 : UInt8) ∉ l := fun hm => absurd (List.all_eq_true.1 h 58 hm) (by decide)
theorem port_iff (r : List UInt8) : portL r = true ↔ portR r := by
 cases r with
 | nil => exact ⟨fun _ => .inl rfl, fun _ => rfl⟩
 | cons c t =>
  unfold portL portR
  simp only [Bool.and_eq_true]
  constructor
  ·rintro ⟨⟨h1, h2⟩, h3⟩
   have hc : c = 58 := by simpa using h1
   subst hc
   rw [countByte_cons] at h3
   have h4 : Lib.countByte t 58 ≤ 0 := by
    have : ¬ Lib.countByte t 58 + 1 > 1 := by simpa using h3
    omega
   have h5 : Lib.countByte t 58 = 0 := by
    have : 0 ≤ Lib.countByte t 58 := by unfold Lib.countByte; omega
    omega
   have h6 := countByte_zero.1 h5
   refine .inr ⟨t, rfl, List.all_eq_true.2 fun x hx => ?_⟩
   have h7 := List.all_eq_true.1 h2 x (List.mem_cons_of_mem _ hx)
   rw [Bool.or_eq_true, List.contains_iff_mem, List.mem_singleton] at h7
   rcases h7 with h7 | h7
   ·exact h7
   ·exact absurd (h7 ▸ hx) h6
  ·rintro (h | ⟨t', h, ht⟩)
   ·exact absurd h (by simp)
   ·injection h with h1 h2
    subst h1; subst h2
    have h5 := countByte_zero.2 (digit_58 ht)
    refine ⟨⟨by decide, List.all_eq_true.2 fun x hx => ?_⟩, ?_⟩
    ·rcases List.mem_cons.1 hx with hx | hx
     ·subst hx; decide
     ·rw [List.all_eq_true.1 ht x hx]; rfl
    ·rw [countByte_cons, h5]; rfl
theorem port_64 {r : List UInt8} (h : portR r) : (64 : UInt8) ∉ r := by
 rcases h with h | ⟨t, rfl, ht⟩
 ·rw [h]; simp
 ·intro hm
  rcases List.mem_cons.1 hm with e | e
  ·exact absurd e (by decide)
  ·exact absurd (List.all_eq_true.1 ht 64 e) (by decide)
theorem port_stop {r : List UInt8} (h : portR r) : Stops (fun x => !(x == 58)) r := by
 rcases h with h | ⟨t, rfl, _⟩
 ·rw [h]; exact stops_nil _
 ·exact stops_cons (by decide)
/-- A host in brackets, or a name. -/
theorem host_cases {h : List UInt8} (hh : isHostL h = true) : (∃ m, h = 91 :: (m ++ [93]) ∧ literalL m = true) ∨ (namedL h [] = true) := by
 unfold isHostL at hh
 by_cases hc : (decide (h.length > 1) && h.head? == some 91 && h.getLast? == some 93) = true
 ·rw [if_pos hc] at hh
  simp only [Bool.and_eq_true, decide_eq_true_eq, beq_iff_eq] at hc
  obtain ⟨⟨h1, h2⟩, h3⟩ := hc
  cases h with
  | nil => exact absurd h2 (by simp)
  | cons c t =>
   have hc : c = 91 := by simpa using h2
   subst hc
   have ht : t ≠ [] := fun e => by rw [e] at h1; exact absurd h1 (by decide)
   have h4 : t.getLast ht = 93 := by
    rw [List.getLast?_cons, Option.some.injEq] at h3
    rw [List.getLast?_eq_some_getLast ht] at h3
    simpa using h3
   refine .inl ⟨t.dropLast, ?_, hh⟩
   rw [← h4, List.dropLast_concat_getLast]
 ·rw [if_neg hc] at hh
  exact .inr hh
theorem isHost_lit {m : List UInt8} (h : literalL m = true) : isHostL (91 :: (m ++ [93])) = true := by
 unfold isHostL
 rw [if_pos]
 ·simpa using h
 ·simp [List.getLast?_cons]
theorem isHost_named {h : List UInt8} (hn : namedL h [] = true) : isHostL h = true := by
 unfold isHostL
 rw [if_neg, hn]
 intro hc
 simp only [Bool.and_eq_true, decide_eq_true_eq, beq_iff_eq] at hc
 cases h with
 | nil => exact absurd hc.1.2 (by simp)
 | cons c t =>
  have h2 : c = 91 := by simpa using hc.1.2
  exact absurd (by rw [h2]; exact List.mem_cons_self ..) (not_plain (c := 91) (by decide) hn (by simp) (by decide))
theorem lit_free2 {m : List UInt8} (h : literalL m = true) {c : UInt8} (hc : litB c = false) : c ∉ m := fun hm => by
 rw [literal_mem h c hm] at hc
 exact absurd hc (by decide)
theorem host_64 {h : List UInt8} (hh : isHostL h = true) : (64 : UInt8) ∉ h := by
 rcases host_cases hh with ⟨m, rfl, hm⟩ | hn
 ·have := lit_free2 hm (c := 64) (by decide)
  simp [this]
 ·exact not_plain (c := 64) (by decide) hn (by simp) (by decide)
theorem idx_app {h r : List UInt8} {c : UInt8} (h1 : c ∉ h) (h2 : Stops (fun x => !(x == c)) r) : fi (fun x => x == c) (h ++ r) = h.length := by
 have hp : ∀ x ∈ h, (!(x == c)) = true := fun x hx => by
  have : x ≠ c := fun e => h1 (e ▸ hx)
  simp [this]
 have e := (tw_app hp h2).1
 have e2 := take_fi (fun x => x == c) (h ++ r)
 rw [e] at e2
 have hle := fi_le (fun x => x == c) (h ++ r)
 have := congrArg List.length e2
 rw [List.length_take] at this
 omega
theorem hostB_of {u h r : List UInt8} (hh : isHostL h = true) (hr : portR r) : hostB u (h ++ r) = (h, namedL u [58]) := by
 have hp := (port_iff r).2 hr
 unfold hostB
 rcases host_cases hh with ⟨m, rfl, hm⟩ | hn
 ·have e1 : (91 :: (m ++ [93])) ++ r = (91 :: m) ++ (93 :: r) := by simp
  have h93 : (93 : UInt8) ∉ 91 :: m := by
   have := lit_free2 hm (c := 93) (by decide)
   simp [this]
  have hi : fi (fun x => x == 93) ((91 :: m) ++ (93 :: r)) = m.length + 1 := idx_app h93 (stops_cons (by decide))
  rw [e1, if_pos (by simp), hi]
  have ht : ((91 :: m ++ 93 :: r).take (m.length + 1)).drop 1 = m := by
   rw [List.take_left' (by simp)]
   rfl
  rw [if_pos ⟨by simp, by rw [ht]; exact hm⟩]
  unfold hostAt
  have hl : (91 :: (m ++ [93])).length = m.length + 1 + 1 := by simp
  rw [← e1, List.drop_left' hl, List.take_left' hl, hp, if_pos rfl]
 ·have h58 : (58 : UInt8) ∉ h := not_plain (c := 58) (by decide) hn (by simp) (by decide)
  have h91 : (91 : UInt8) ∉ h := not_plain (c := 91) (by decide) hn (by simp) (by decide)
  have hi := idx_app h58 (port_stop hr)
  rw [if_neg, hi, List.take_left' rfl, if_pos hn]
  ·unfold hostAt
   rw [List.drop_left' rfl, List.take_left' rfl, hp, if_pos rfl]
  ·intro hpre
   obtain ⟨t, ht⟩ := List.isPrefixOf_iff_prefix.1 hpre
   cases h with
   | nil =>
    rcases hr with e | ⟨t2, e, _⟩
    ·rw [e] at ht; exact absurd ht (by simp)
    ·rw [e] at ht; simp at ht
   | cons c t2 =>
    simp only [List.cons_append, List.nil_append, List.cons.injEq] at ht
    exact h91 (by rw [ht.1]; exact List.mem_cons_self ..)
/-- An authority, parted. -/
def HostWay (s h : List UInt8) : Prop := ∃ r, portR r ∧ isHostL h = true ∧ (s = h ++ r ∨ ∃ u, namedL u [58] = true ∧ s = u ++ 64 :: (h ++ r))
theorem hostL_of {s h : List UInt8} (w : HostWay s h) : hostL s = (h, true) := by
 obtain ⟨r, hr, hh, hs⟩ := w
 unfold hostL
 have e0 : namedL [] [58] = true := rfl
 rcases hs with rfl | ⟨u, hu, rfl⟩
 ·have : (64 : UInt8) ∉ h ++ r := by
   rw [List.mem_append]
   exact fun e => e.elim (host_64 hh) (port_64 hr)
  rw [if_neg (by simpa using this), hostB_of hh hr, e0]
 ·have h64 := not_plain (c := 64) (by decide) hu (by decide) (by decide)
  rw [if_pos (by simp), cut_some _ _ _ h64]
  show hostB u (h ++ r) = _
  rw [hostB_of hh hr, hu]
theorem hostAt_of {u h : List UInt8} {n : Nat} (e : (hostAt u h n).2 = true) : (hostAt u h n).1 = h.take n ∧ namedL u [58] = true ∧ portR (h.drop n) := by
 unfold hostAt at *
 by_cases hp : portL (h.drop n) = true
 ·rw [if_pos hp] at e ⊢
  exact ⟨rfl, e, (port_iff _).1 hp⟩
 ·rw [if_neg hp] at e
  exact absurd (show false = true from e) (by decide)
theorem hostB_to {u h : List UInt8} (e : (hostB u h).2 = true) : ∃ r, portR r ∧ isHostL (hostB u h).1 = true ∧ namedL u [58] = true ∧ h = (hostB u h).1 ++ r := by
 unfold hostB at *
 by_cases hb : ([91] : List UInt8).isPrefixOf h = true
 ·rw [if_pos hb] at e ⊢
  by_cases hc : h.contains 93 = true ∧ literalL ((h.take (fi (fun x => x == 93) h)).drop 1) = true
  ·rw [if_pos hc] at e ⊢
   obtain ⟨h1, h2, h3⟩ := hostAt_of e
   refine ⟨_, h3, ?_, h2, ?_⟩
   ·rw [h1]
    obtain ⟨t, ht⟩ := List.isPrefixOf_iff_prefix.1 hb
    have hlt := fi_contains hc.1
    have hg : h[fi (fun x => x == 93) h] = 93 := by
     have := List.findIdx_getElem (p := fun x => x == (93 : UInt8)) (xs := h) (w := hlt)
     simpa using this
    have h1' : 1 ≤ fi (fun x => x == 93) h := by
     rw [← ht]
     show 1 ≤ List.findIdx (fun x => x == 93) (91 :: t)
     rw [List.findIdx_cons]
     simp
    have e2 : h.take (fi (fun x => x == 93) h + 1) = 91 :: ((h.take (fi (fun x => x == 93) h)).drop 1 ++ [93]) := by
     rw [List.take_succ_eq_append_getElem hlt, hg]
     obtain ⟨m, hm⟩ : ∃ m, fi (fun x => x == 93) h = m + 1 := ⟨fi (fun x => x == 93) h - 1, by omega⟩
     rw [hm, ← ht]
     rfl
    rw [e2]
    exact isHost_lit hc.2
   ·rw [h1]
    exact (List.take_append_drop _ _).symm
  ·rw [if_neg hc] at e
   exact absurd (show false = true from e) (by decide)
 ·rw [if_neg hb] at e ⊢
  by_cases hn : namedL (h.take (fi (fun x => x == 58) h)) [] = true
  ·rw [if_pos hn] at e ⊢
   obtain ⟨h1, h2, h3⟩ := hostAt_of e
   exact ⟨_, h3, by rw [h1]; exact isHost_named hn, h2, by rw [h1]; exact (List.take_append_drop _ _).symm⟩
  ·rw [if_neg hn] at e
   exact absurd (show false = true from e) (by decide)
theorem hostL_to {s : List UInt8} (e : (hostL s).2 = true) : HostWay s (hostL s).1 := by
 unfold hostL at *
 by_cases hc : s.contains 64 = true
 ·rw [if_pos hc] at e ⊢
  obtain ⟨r, h1, h2, h3, h4⟩ := hostB_to e
  refine ⟨r, h1, h2, .inr ⟨(cutL s 64).1, h3, ?_⟩⟩
  rw [← h4]
  exact cut_glue hc
 ·rw [if_neg hc] at e ⊢
  obtain ⟨r, h1, h2, _, h4⟩ := hostB_to e
  exact ⟨r, h1, h2, .inl h4⟩

/-! all of it -/
def opn (p : List UInt8) (r : List UInt8) : Prop := r = [] ∨ ∃ c t, r = c :: t ∧ c ∈ p
/-- Nothing, or a mark and plain bytes behind it. -/
def Mark (m : UInt8) (q x : List UInt8) : Prop := (q = [] ∧ x = []) ∨ (q = m :: x ∧ namedL x [58, 64, 47, 63] = true)
def relL (c : List UInt8) : Bool := !(c.takeWhile fun x => !([47] : List UInt8).contains x).contains 58
def HeadWay (s h p : List UInt8) : Prop := ∃ a rest, ((a = [] ∧ s = rest) ∨ (schemeOk a = true ∧ s = a ++ 58 :: rest)) ∧ namedL p [58, 64, 47] = true ∧
 ((([47, 47] : List UInt8).isPrefixOf rest = false ∧ (a ≠ [] ∨ relL rest = true) ∧ h = [] ∧ p = rest) ∨ (∃ b, rest = 47 :: 47 :: (b ++ p) ∧ opn [47] p ∧ HostWay b h))
/-- What a text may be. -/
def Way (w h p : List UInt8) : Prop := ∃ s q x f y, HeadWay s h p ∧ Mark 63 q x ∧ Mark 35 f y ∧ w = s ++ q ++ f
theorem no_in {p : UInt8 → Bool} {l : List UInt8} {c : UInt8} (h : ∀ x ∈ l, p x = true) (hc : p c = false) : c ∉ l := fun hm => by
 rw [h c hm] at hc
 exact absurd hc (by decide)
theorem scheme_no1 {a : List UInt8} (h : schemeOk a = true) : a ≠ [] ∧ ∀ x ∈ a, no1 x = true := by
 cases a with
 | nil => exact absurd h (by decide)
 | cons c t =>
  refine ⟨by simp, fun x hx => ?_⟩
  unfold schemeOk at h
  rw [Bool.and_eq_true] at h
  exact byte_imp2 (p := fun x => (letterB x || digitB x) || ([43, 45, 46] : List UInt8).contains x) (q := no1) (by kernel_rfl) x (List.all_eq_true.1 h.2 x hx)
theorem named_no {l m : List UInt8} (h : namedL l m = true) (hm : ∀ x ∈ m, no2 x = true) : ∀ x ∈ l, no2 x = true := fun x hx => by
 rcases named_mem h x hx with e | e | e
 ·exact byte_imp2 (p := plainB) (q := no2) (by kernel_rfl) x e
 ·exact hm x e
 ·subst e; decide
theorem hostWay_no2 {b h : List UInt8} (w : HostWay b h) : ∀ x ∈ b, no2 x = true := by
 obtain ⟨r, hr, hh, hs⟩ := w
 have h1 : ∀ x ∈ h, no2 x = true := by
  rcases host_cases hh with ⟨m, rfl, hm⟩ | hn
  ·intro x hx
   simp only [List.mem_cons, List.mem_append, List.not_mem_nil, or_false] at hx
   rcases hx with e | e | e
   ·subst e; decide
   ·exact byte_imp2 (p := litB) (q := no2) (by kernel_rfl) x (literal_mem hm x e)
   ·subst e; decide
  ·exact named_no hn (by simp)
 have h2 : ∀ x ∈ r, no2 x = true := by
  rcases hr with rfl | ⟨t, rfl, ht⟩
  ·simp
  ·intro x hx
   rcases List.mem_cons.1 hx with e | e
   ·subst e; decide
   ·exact byte_imp2 (p := digitB) (q := no2) (by kernel_rfl) x (List.all_eq_true.1 ht x e)
 have h3 : ∀ x ∈ h ++ r, no2 x = true := fun x hx => (List.mem_append.1 hx).elim (h1 x) (h2 x)
 rcases hs with rfl | ⟨u, hu, rfl⟩
 ·exact h3
 ·intro x hx
  rcases List.mem_append.1 hx with e | e
  ·exact named_no hu (by decide) x e
  ·rcases List.mem_cons.1 e with e | e
   ·subst e; decide
   ·exact h3 x e
theorem mark_opn {m : UInt8} {q x : List UInt8} (h : Mark m q x) : opn [m] q := by
 rcases h with ⟨h, _⟩ | ⟨h, _⟩
 ·exact .inl h
 ·exact .inr ⟨m, x, h, by simp⟩
theorem opn_app {p : List UInt8} {a b : List UInt8} (ha : opn p a) (hb : opn p b) : opn p (a ++ b) := by
 rcases ha with rfl | ⟨c, t, rfl, hc⟩
 ·exact hb
 ·exact .inr ⟨c, t ++ b, rfl, hc⟩
theorem opn_mono {p q : List UInt8} {a : List UInt8} (h : opn p a) (hs : ∀ x ∈ p, x ∈ q) : opn q a := by
 rcases h with rfl | ⟨c, t, rfl, hc⟩
 ·exact .inl rfl
 ·exact .inr ⟨c, t, rfl, hs c hc⟩
theorem opn_stops {p : List UInt8} {a : List UInt8} {f : UInt8 → Bool} (h : opn p a) (hf : ∀ x ∈ p, f x = false) : Stops f a := by
 rcases h with rfl | ⟨c, t, rfl, hc⟩
 ·exact stops_nil _
 ·exact stops_cons (hf c hc)
/-- The path, the query, the fragment. -/
theorem tail_of {p q x f y : List UInt8} (hp : (63 : UInt8) ∉ p ∧ (35 : UInt8) ∉ p) (hq : Mark 63 q x) (hf : Mark 35 f y) :
  (cutL (cutL (p ++ q ++ f) 35).1 63).1 = p ∧ (cutL (cutL (p ++ q ++ f) 35).1 63).2.1 = x ∧ (cutL (p ++ q ++ f) 35).2.1 = y := by
 have h35 : (35 : UInt8) ∉ p ++ q := by
  rcases hq with ⟨rfl, _⟩ | ⟨rfl, hx⟩
  ·simpa using hp.2
  ·have := not_plain (c := 35) (by decide) hx (by decide) (by decide)
   simp [hp.2, this]
 have e1 : (cutL (p ++ q ++ f) 35).1 = p ++ q ∧ (cutL (p ++ q ++ f) 35).2.1 = y := by
  rcases hf with ⟨rfl, rfl⟩ | ⟨rfl, _⟩
  ·rw [List.append_nil, cut_no _ _ h35]
   exact ⟨rfl, rfl⟩
  ·rw [cut_some _ _ _ h35]
   exact ⟨rfl, rfl⟩
 rw [e1.1, e1.2]
 rcases hq with ⟨rfl, rfl⟩ | ⟨rfl, _⟩
 ·rw [List.append_nil, cut_no _ _ hp.1]
  exact ⟨rfl, rfl, rfl⟩
 ·rw [cut_some _ _ _ hp.1]
  exact ⟨rfl, rfl, rfl⟩
theorem dw_app {p : UInt8 → Bool} {l y : List UInt8} : (l.dropWhile p = [] ∧ (l ++ y).takeWhile p = l ++ y.takeWhile p ∧ (l ++ y).dropWhile p = y.dropWhile p) ∨ (l.dropWhile p ≠ [] ∧ (l ++ y).takeWhile p = l.takeWhile p ∧ (l ++ y).dropWhile p = l.dropWhile p ++ y) := by
 induction l with
 | nil => exact .inl ⟨rfl, rfl, rfl⟩
 | cons c t ih =>
  by_cases hc : p c = true
  ·simp only [List.cons_append, List.takeWhile_cons, List.dropWhile_cons, hc, if_true]
   rcases ih with ⟨h1, h2, h3⟩ | ⟨h1, h2, h3⟩
   ·exact .inl ⟨h1, by rw [h2], h3⟩
   ·exact .inr ⟨h1, by rw [h2], h3⟩
  ·right
   simp only [List.cons_append, List.takeWhile_cons, List.dropWhile_cons, hc]
   exact ⟨by simp, rfl, rfl⟩
/-- No scheme is seen where none is. -/
theorem scheme_none {c z : List UInt8} (hr : relL c = true) (hz : opn [63, 35] z) : schemeL (c ++ z) = ([], c ++ z, false) := by
 unfold schemeL
 rw [if_neg]
 rintro ⟨_, h2⟩
 obtain ⟨t, ht⟩ := List.isPrefixOf_iff_prefix.1 h2
 rcases dw_app (p := no1) (l := c) (y := z) with ⟨_, _, h3⟩ | ⟨h1, _, h3⟩
 ·rw [h3] at ht
  rcases hz with rfl | ⟨d, u, rfl, hd⟩
  ·exact absurd ht (by simp)
  ·have hn : no1 d = false := by
    simp only [List.mem_cons, List.not_mem_nil, or_false] at hd
    rcases hd with e | e <;> (subst e; decide)
   rw [List.dropWhile_cons, hn] at ht
   simp only [List.cons_append, List.nil_append, if_neg (show ¬ (false = true) by decide), List.cons.injEq] at ht
   rw [← ht.1] at hd
   exact absurd hd (by decide)
 ·rw [h3] at ht
  cases hd : c.dropWhile no1 with
  | nil => exact h1 hd
  | cons d u =>
   rw [hd] at ht
   simp only [List.cons_append, List.nil_append, List.cons.injEq] at ht
   have e : c = c.takeWhile no1 ++ 58 :: u := by
    conv => lhs; rw [← List.takeWhile_append_dropWhile (p := no1) (l := c), hd, ← ht.1]
   have hall : ∀ x ∈ c.takeWhile no1 ++ [58], (!([47] : List UInt8).contains x) = true := by
    intro x hx
    rcases List.mem_append.1 hx with e | e
    ·exact byte_imp2 (p := no1) (q := fun x => !([47] : List UInt8).contains x) (by kernel_rfl) x (List.all_eq_true.1 (List.all_takeWhile (p := no1) (l := c)) x e)
    ·rw [List.mem_singleton] at e
     subst e; decide
   have hm : (58 : UInt8) ∈ c.takeWhile fun x => !([47] : List UInt8).contains x := by
    have e2 : c = (c.takeWhile no1 ++ [58]) ++ u := by rw [List.append_assoc]; exact e
    rw [e2, List.takeWhile_append_of_pos hall]
    simp
   unfold relL at hr
   have : (c.takeWhile fun x => !([47] : List UInt8).contains x).contains 58 = true := List.contains_iff_mem.2 hm
   rw [this] at hr
   exact absurd hr (by decide)
theorem no2_of {p : List UInt8} (h : namedL p [58, 64, 47] = true) : (63 : UInt8) ∉ p ∧ (35 : UInt8) ∉ p :=
 ⟨not_plain (c := 63) (by decide) h (by decide) (by decide), not_plain (c := 35) (by decide) h (by decide) (by decide)⟩
theorem pre_app {c z : List UInt8} (h : ([47, 47] : List UInt8).isPrefixOf c = false) (hz : opn [63, 35] z) : ([47, 47] : List UInt8).isPrefixOf (c ++ z) = false := by
 match c with
 | [] =>
  rcases hz with rfl | ⟨d, u, rfl, hd⟩
  ·rfl
  ·simp only [List.mem_cons, List.not_mem_nil, or_false] at hd
   rcases hd with e | e <;> (subst e; rfl)
 | [a] =>
  rcases hz with rfl | ⟨d, u, rfl, hd⟩
  ·exact h
  ·simp only [List.mem_cons, List.not_mem_nil, or_false] at hd
   rcases hd with e | e <;> (subst e; simp [List.isPrefixOf])
 | a :: b :: t => simpa [List.isPrefixOf] using h
theorem Way_tell {w h p : List UInt8} (hw : Way w h p) : tellL (splitL w) = (true, h, p) := by
 obtain ⟨s, q, x, f, y, ⟨a, rest, ha, hp, hc⟩, hq, hf, rfl⟩ := hw
 have hz : opn [63, 35] (q ++ f) := opn_app (opn_mono (mark_opn hq) (by decide)) (opn_mono (mark_opn hf) (by decide))
 have hqn : namedL x [58, 64, 47, 63] = true := by
  rcases hq with ⟨_, rfl⟩ | ⟨_, e⟩
  ·rfl
  ·exact e
 have hfn : namedL y [58, 64, 47, 63] = true := by
  rcases hf with ⟨_, rfl⟩ | ⟨_, e⟩
  ·rfl
  ·exact e
 obtain ⟨t1, t2, t3⟩ := tail_of (no2_of hp) hq hf
 -- the scheme
 have hs : schemeL (s ++ q ++ f) = (a, rest ++ (q ++ f), !a.isEmpty) ∧ (a.isEmpty = false → schemeOk a = true) := by
  rcases ha with ⟨rfl, rfl⟩ | ⟨hok, rfl⟩
  ·refine ⟨?_, fun h => absurd h (by decide)⟩
   rw [List.append_assoc]
   rcases hc with ⟨_, hr, _, _⟩ | ⟨b, rfl, _, _⟩
   ·rcases hr with hr | hr
    ·exact absurd rfl hr
    ·exact scheme_none hr hz
   ·unfold schemeL
    rw [if_neg]
    ·rfl
    ·intro e
     exact e.1 rfl
  ·obtain ⟨hne, hn⟩ := scheme_no1 hok
   refine ⟨?_, fun _ => hok⟩
   have e : a ++ 58 :: rest ++ q ++ f = a ++ (58 :: (rest ++ (q ++ f))) := by simp
   obtain ⟨h1, h2⟩ := tw_app (r := 58 :: (rest ++ (q ++ f))) hn (stops_cons (by decide))
   unfold schemeL
   rw [e, h1, h2, if_pos ⟨hne, by simp⟩]
   have : a.isEmpty = false := List.isEmpty_eq_false_iff.2 hne
   rw [this]
   rfl
 have hh0 : (splitL (s ++ q ++ f)).h0 = !a.isEmpty := by unfold splitL; rw [hs.1]
 have hta : (splitL (s ++ q ++ f)).a = a := by unfold splitL; rw [hs.1]
 have hso : (!(!a.isEmpty) || schemeOk a) = true := by
  cases e : a.isEmpty with
  | true => rfl
  | false => rw [hs.2 e]; rfl
 rcases hc with ⟨hpre, hr, rfl, rfl⟩ | ⟨b, rfl, hop, hb⟩
 ·have hau : authL (p ++ (q ++ f)) = ([], p ++ (q ++ f), false) := by
   unfold authL
   rw [if_neg (by rw [pre_app hpre hz]; decide)]
  have ht : tailL (s ++ q ++ f) = p ++ q ++ f := by
   unfold tailL
   rw [hs.1]
   show (authL (p ++ (q ++ f))).2.1 = _
   rw [hau, List.append_assoc]
  have hh1 : (splitL (s ++ q ++ f)).h1 = false := by
   unfold splitL
   rw [hs.1]
   show (authL (p ++ (q ++ f))).2.2 = _
   rw [hau]
  have hcc : (splitL (s ++ q ++ f)).c = p := by unfold splitL; rw [ht]; exact t1
  have hdd : (splitL (s ++ q ++ f)).d = x := by unfold splitL; rw [ht]; exact t2
  have hee : (splitL (s ++ q ++ f)).e = y := by unfold splitL; rw [ht]; exact t3
  have hlone : (!(!a.isEmpty) && !false && (p.takeWhile fun x => !([47] : List UInt8).contains x).contains 58) = false := by
   rcases hr with hr | hr
   ·rw [List.isEmpty_eq_false_iff.2 hr]; rfl
   ·unfold relL at hr
    rw [Bool.not_eq_true'] at hr
    rw [hr, Bool.and_false]
  unfold tellL hostOf lone restOk
  rw [hh0, hh1, hta, hcc, hdd, hee, if_neg (by decide : ¬ (false = true)), hp, hqn, hfn, if_pos ⟨hso, rfl, hlone, rfl⟩]
 ·have h2 := hostWay_no2 hb
  have hst : Stops no2 (p ++ (q ++ f)) := opn_stops (opn_app (opn_mono hop (by decide)) (opn_mono hz (by decide)) : opn [47, 63, 35] _) (by decide)
  obtain ⟨w1, w2⟩ := tw_app h2 hst
  have hau : authL (47 :: 47 :: (b ++ p) ++ (q ++ f)) = (b, p ++ (q ++ f), true) := by
   unfold authL
   rw [if_pos (by simp [List.isPrefixOf])]
   show (((b ++ p) ++ (q ++ f)).takeWhile no2, ((b ++ p) ++ (q ++ f)).dropWhile no2, true) = _
   rw [List.append_assoc, w1, w2]
  have ht : tailL (s ++ q ++ f) = p ++ q ++ f := by
   unfold tailL
   rw [hs.1]
   show (authL (47 :: 47 :: (b ++ p) ++ (q ++ f))).2.1 = _
   rw [hau, List.append_assoc]
  have hh1 : (splitL (s ++ q ++ f)).h1 = true := by
   unfold splitL
   rw [hs.1]
   show (authL (47 :: 47 :: (b ++ p) ++ (q ++ f))).2.2 = _
   rw [hau]
  have hbb : (splitL (s ++ q ++ f)).b = b := by
   unfold splitL
   rw [hs.1]
   show (authL (47 :: 47 :: (b ++ p) ++ (q ++ f))).1 = _
   rw [hau]
  have hcc : (splitL (s ++ q ++ f)).c = p := by unfold splitL; rw [ht]; exact t1
  have hdd : (splitL (s ++ q ++ f)).d = x := by unfold splitL; rw [ht]; exact t2
  have hee : (splitL (s ++ q ++ f)).e = y := by unfold splitL; rw [ht]; exact t3
  unfold tellL hostOf lone restOk
  rw [hh0, hh1, hta, hbb, hcc, hdd, hee, if_pos rfl, hostL_of hb, hp, hqn, hfn, if_pos ⟨hso, rfl, by rw [Bool.not_true, Bool.and_false, Bool.false_and], rfl⟩]
theorem mark_to (m : UInt8) {l : List UInt8} (hn : namedL (cutL l m).2.1 [58, 64, 47, 63] = true) : ∃ q, Mark m q (cutL l m).2.1 ∧ l = (cutL l m).1 ++ q := by
 by_cases hc : l.contains m = true
 ·exact ⟨m :: (cutL l m).2.1, .inr ⟨rfl, hn⟩, cut_glue hc⟩
 ·have hm : m ∉ l := by simpa using hc
  have e := cut_no l m hm
  rw [e]
  exact ⟨[], .inl ⟨rfl, rfl⟩, by rw [List.append_nil]⟩
theorem tell_Way {w h p : List UInt8} (ht : tellL (splitL w) = (true, h, p)) : Way w h p := by
 unfold tellL at ht
 by_cases hc : (!(splitL w).h0 || schemeOk (splitL w).a) = true ∧ (hostOf (splitL w)).2 = true ∧ lone (splitL w) = false ∧ restOk (splitL w) = true
 ·rw [if_pos hc] at ht
  simp only [Prod.mk.injEq, true_and] at ht
  obtain ⟨hh, hp⟩ := ht
  obtain ⟨c1, c2, c3, c4⟩ := hc
  unfold restOk at c4
  simp only [Bool.and_eq_true] at c4
  obtain ⟨⟨n1, n2⟩, n3⟩ := c4
  obtain ⟨f, hf, ef⟩ := mark_to 35 (l := tailL w) n3
  obtain ⟨q, hq, eq⟩ := mark_to 63 (l := (cutL (tailL w) 35).1) n2
  have ey : tailL w = p ++ q ++ f := by
   have e9 : p = (cutL (cutL (tailL w) 35).1 63).1 := hp.symm
   rw [e9, ← eq]; exact ef
  rw [hp] at n1
  -- the authority
  have hrest : ∃ rest, (schemeL w).2.1 = rest ++ (q ++ f) ∧ ((([47, 47] : List UInt8).isPrefixOf rest = false ∧ (splitL w).h1 = false ∧ h = [] ∧ p = rest) ∨ (∃ b, rest = 47 :: 47 :: (b ++ p) ∧ opn [47] p ∧ HostWay b h)) := by
   by_cases hpre : ([47, 47] : List UInt8).isPrefixOf (schemeL w).2.1 = true
   ·have ea : authL (schemeL w).2.1 = (((schemeL w).2.1.drop 2).takeWhile no2, ((schemeL w).2.1.drop 2).dropWhile no2, true) := by unfold authL; rw [if_pos hpre]
    have h1 : (splitL w).h1 = true := by unfold splitL; rw [ea]
    have hb : (splitL w).b = ((schemeL w).2.1.drop 2).takeWhile no2 := by unfold splitL; rw [ea]
    have hy : tailL w = ((schemeL w).2.1.drop 2).dropWhile no2 := by unfold tailL; rw [ea]
    obtain ⟨t, hpt⟩ := List.isPrefixOf_iff_prefix.1 hpre
    have ed : (schemeL w).2.1.drop 2 = t := by rw [← hpt]; rfl
    rw [ed] at hb hy
    refine ⟨47 :: 47 :: (t.takeWhile no2 ++ p), ?_, .inr ⟨t.takeWhile no2, rfl, ?_, ?_⟩⟩
    ·have e3 : t = t.takeWhile no2 ++ (p ++ (q ++ f)) := by
      conv => lhs; rw [← List.takeWhile_append_dropWhile (p := no2) (l := t)]
      rw [← hy, ey, List.append_assoc]
     rw [← hpt]
     conv => lhs; rw [e3]
     simp
    ·cases p with
     | nil => exact .inl rfl
     | cons c u =>
      refine .inr ⟨c, u, rfl, ?_⟩
      have hnd : t.dropWhile no2 ≠ [] := by rw [← hy, ey]; simp
      have h8 := List.head_dropWhile_not no2 hnd
      have h9 : (t.dropWhile no2).head hnd = c := by
       have : t.dropWhile no2 = c :: (u ++ q ++ f) := by rw [← hy, ey]; rfl
       simp [this]
      rw [h9] at h8
      have := no2_of n1
      have h10 := byte_imp2 (p := fun c => !no2 c) (q := fun c => c == 47 || c == 63 || c == 35) (by kernel_rfl) c (by rw [h8]; rfl)
      simp only [Bool.or_eq_true, beq_iff_eq] at h10
      rcases h10 with (e | e) | e
      ·subst e; decide
      ·subst e; exact absurd (List.mem_cons_self ..) this.1
      ·subst e; exact absurd (List.mem_cons_self ..) this.2
    ·have e5 : hostOf (splitL w) = hostL (t.takeWhile no2) := by unfold hostOf; rw [if_pos h1, hb]
     rw [e5] at c2 hh
     rw [← hh]
     exact hostL_to c2
   ·have ea : authL (schemeL w).2.1 = ([], (schemeL w).2.1, false) := by unfold authL; rw [if_neg hpre]
    have h1 : (splitL w).h1 = false := by unfold splitL; rw [ea]
    have hy : tailL w = (schemeL w).2.1 := by unfold tailL; rw [ea]
    refine ⟨p, by rw [← hy, ey, List.append_assoc], .inl ⟨?_, h1, ?_, rfl⟩⟩
    ·rw [← Bool.not_eq_true]
     intro hq2
     apply hpre
     rw [← hy, ey]
     obtain ⟨t, ht⟩ := List.isPrefixOf_iff_prefix.1 hq2
     exact List.isPrefixOf_iff_prefix.2 ⟨t ++ q ++ f, by rw [← ht]; simp⟩
    ·rw [← hh]
     unfold hostOf
     rw [h1]
     rfl
  obtain ⟨rest, e1, e2⟩ := hrest
  by_cases hs : w.takeWhile no1 ≠ [] ∧ ([58] : List UInt8).isPrefixOf (w.dropWhile no1) = true
  ·have es : schemeL w = (w.takeWhile no1, (w.dropWhile no1).drop 1, true) := by unfold schemeL; rw [if_pos hs]
   have h0 : (splitL w).h0 = true := by unfold splitL; rw [es]
   have ha : (splitL w).a = w.takeWhile no1 := by unfold splitL; rw [es]
   rw [h0, ha] at c1
   rw [es] at e1
   obtain ⟨t, ht⟩ := List.isPrefixOf_iff_prefix.1 hs.2
   have e3 : t = rest ++ (q ++ f) := by rw [← e1]; show t = (w.dropWhile no1).drop 1; rw [← ht]; rfl
   refine ⟨w.takeWhile no1 ++ 58 :: rest, q, _, f, _, ⟨w.takeWhile no1, rest, .inr ⟨c1, rfl⟩, n1, ?_⟩, hq, hf, ?_⟩
   ·rcases e2 with ⟨a1, a2, a3, a4⟩ | e2
    ·exact .inl ⟨a1, .inl hs.1, a3, a4⟩
    ·exact .inr e2
   ·conv => lhs; rw [← List.takeWhile_append_dropWhile (p := no1) (l := w), ← ht, e3]
    simp
  ·have es : schemeL w = ([], w, false) := by unfold schemeL; rw [if_neg hs]
   have h0 : (splitL w).h0 = false := by unfold splitL; rw [es]
   rw [es] at e1
   refine ⟨rest, q, _, f, _, ⟨[], rest, .inl ⟨rfl, rfl⟩, n1, ?_⟩, hq, hf, ?_⟩
   ·rcases e2 with ⟨a1, a2, a3, a4⟩ | e2
    ·refine .inl ⟨a1, .inr ?_, a3, a4⟩
     unfold lone at c3
     rw [h0, a2] at c3
     have hcc : (splitL w).c = rest := hp.trans a4
     rw [hcc] at c3
     unfold relL
     rw [show ((rest.takeWhile fun x => !([47] : List UInt8).contains x).contains 58) = false from by simpa using c3]
     rfl
    ·exact .inr e2
   ·rw [List.append_assoc]
    exact e1
 ·rw [if_neg hc] at ht
  exact absurd ht (by simp)
/-- What the parser tells is what the text may be. -/
theorem tell_iff (w h p : List UInt8) : tellL (splitL w) = (true, h, p) ↔ Way w h p := ⟨tell_Way, Way_tell⟩
end Go.Proofs.Ytiihgddpejmehaa.Rf
-- shrunk

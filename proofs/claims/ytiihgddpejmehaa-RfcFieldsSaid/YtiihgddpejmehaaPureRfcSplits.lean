/- RfcSplits answers true for every text: the five parts of its first 3000 bytes, side by side with their marks, are these bytes, and none has a byte that would part it (no conditions but the row's size bound). -/
import Derived.Test.YtiihgddpejmehaaRfcS
import Derived.Test.YtiihgddpejmehaaZA10
import Derived.Test.YtiihgddpejmehaaZA11
namespace Go.Proofs.Ytiihgddpejmehaa.Pure
open Go.RowKit Go.Proofs.Ytiihgddpejmehaa.ZA Go.Proofs.YtiihgddpejmehaaW.PrintWords Go.Proofs.YtiihgddpejmehaaW.PrintLast Go.Proofs.Ytiihgddpejmehaa.L Go.Proofs.Ytiihgddpejmehaa.Str Go.Proofs.Ytiihgddpejmehaa.Rf

theorem awake19s (k : Nat) (hk : 100 ≤ k) : shibbolethlaw19_awake.f k = some true := at_rounds (g := fun k => shibbolethlaw19_awake.f k) shibbolethlaw19_awake.mono hk (by kernel_rfl)
theorem shibbolethlaw19_has_l1 (l m : List UInt8) (hl : Sm l) (hm : Sm m) (i : Nat) (hi : i < l.length) : ∀ (d j k : Nat), j + d = m.length →
    shibbolethlaw19_has.l1 (k + d + 1) (S l) (S m) (i : Int) (j : Int) = if (m.drop j).contains l[i] = true then some true else shibbolethlaw19_has.l0 k (S l) (S m) ((i + 1 : Nat) : Int)
  | 0, j, k, h => by
    rw [shibbolethlaw19_has.l1, if_neg (by rw [S_size]; omega), wrap_succ i (by unfold Sm at hl; omega), List.drop_of_length_le (by omega)]
    rfl
  | d + 1, j, k, h => by
    have hlt : j < m.length := by omega
    have hd : m.drop j = m[j] :: m.drop (j + 1) := List.drop_eq_getElem_cons hlt
    rw [show k + (d + 1) + 1 = (k + d + 1) + 1 by omega, shibbolethlaw19_has.l1, if_pos (by rw [S_size]; omega), if_pos (by omega), if_pos (by rw [S_size]; omega), if_pos (by omega), bt_S l i hi, bt_S m j hlt, wrap_succ j (by unfold Sm at hm; omega), shibbolethlaw19_has_l1 l m hl hm i hi d (j + 1) k (by omega), hd, List.contains_cons]
    by_cases hc : l[i] = m[j]
    · rw [if_pos (by rw [hc]), hc, beq_self_eq_true, Bool.true_or, if_pos rfl]
    · have : (l[i] == m[j]) = false := beq_eq_false_iff_ne.2 hc
      rw [if_neg (fun h => hc (UInt8.toNat_inj.1 (by omega))), this, Bool.false_or]
theorem shibbolethlaw19_has_l0 (l m : List UInt8) (hl : Sm l) (hm : Sm m) : ∀ (d i k : Nat), i + d = l.length → d * (m.length + 2) < k → shibbolethlaw19_has.l0 k (S l) (S m) (i : Int) = some ((l.drop i).any fun c => m.contains c)
  | 0, i, k, h, hk => by
    obtain ⟨k, rfl⟩ : ∃ m, k = m + 1 := ⟨k - 1, by omega⟩
    rw [shibbolethlaw19_has.l0, if_neg (by rw [S_size]; omega), List.drop_of_length_le (by omega)]
    rfl
  | d + 1, i, k, h, hk => by
    have hlt : i < l.length := by omega
    have hd : l.drop i = l[i] :: l.drop (i + 1) := List.drop_eq_getElem_cons hlt
    rw [Nat.succ_mul] at hk
    obtain ⟨k, rfl⟩ : ∃ n, k = (n + m.length + 1) + 1 := ⟨k - m.length - 2, by omega⟩
    have h1 := shibbolethlaw19_has_l1 l m hl hm i hlt m.length 0 k (by omega)
    rw [show ((0 : Nat) : Int) = 0 from rfl, List.drop_zero] at h1
    rw [shibbolethlaw19_has.l0, if_pos (by rw [S_size]; omega), h1, shibbolethlaw19_has_l0 l m hl hm d (i + 1) k (by omega) (by omega), hd, List.any_cons]
    by_cases hc : m.contains l[i] = true
    · rw [if_pos hc, hc, Bool.true_or]
    · rw [if_neg hc, Bool.eq_false_iff.2 hc, Bool.false_or]
theorem shibbolethlaw19_has_ev (l m : List UInt8) (hl : Sm l) (hm : Sm m) (k : Nat) (hk : l.length * (m.length + 2) < k) : shibbolethlaw19_has.f k (S l) (S m) = some (l.any fun c => m.contains c) := by
  have := shibbolethlaw19_has_l0 l m hl hm l.length 0 k (by omega) hk
  rwa [List.drop_zero] at this


theorem Short_ev (w : List UInt8) : shibbolethlaw19_Short.f (S w) = some (S (w.take 3000)) := by
  unfold shibbolethlaw19_Short.f
  by_cases h : w.length > 3000
  · rw [if_pos (by rw [S_size]; omega), if_pos (by omega), if_pos (by rw [S_size]; omega), S_upto]
  · rw [if_neg (by rw [S_size]; omega), List.take_of_length_le (by omega)]
/-! the plain law -/
theorem cutL_glue (l : List UInt8) (c : UInt8) : (cutL l c).1 ++ (if (cutL l c).2.2 = true then c :: (cutL l c).2.1 else []) = l := by
  by_cases h : l.contains c = true
  · have hlt := fi_contains h
    have h5 := @List.findIdx_getElem _ (fun x : UInt8 => x == c) l hlt
    have h6 : l[fi (fun x => x == c) l] = c := eq_of_beq h5
    show l.takeWhile _ ++ (if l.contains c = true then _ else _) = l
    rw [if_pos h]
    show l.takeWhile (fun x => !(x == c)) ++ c :: (l.dropWhile (fun x => !(x == c))).drop 1 = l
    rw [← take_fi, ← drop_fi, List.drop_drop]
    have hd : l.drop (fi (fun x => x == c) l) = c :: l.drop (fi (fun x => x == c) l + 1) := by rw [List.drop_eq_getElem_cons hlt, h6]
    rw [← hd, List.take_append_drop]
  · show l.takeWhile (fun x => !(x == c)) ++ (if l.contains c = true then _ else _) = l
    rw [if_neg h, List.append_nil, ← take_fi, fi_none h, List.take_length]
theorem cutL_no (l : List UInt8) (c : UInt8) (h : (cutL l c).2.2 = false) : (cutL l c).2.1 = [] := by
  have h2 : ¬ l.contains c = true := by
    have : l.contains c = false := h
    rw [this]; decide
  show (l.dropWhile (fun x => !(x == c))).drop 1 = []
  rw [← drop_fi, fi_none h2, List.drop_length]
  rfl
theorem cutL_none (l : List UInt8) (c : UInt8) : c ∉ (cutL l c).1 := by
  intro h
  have := List.all_eq_true.1 (List.all_takeWhile (l := l) (p := fun x => !(x == c))) c h
  simp at this
theorem prefix_drop {p l : List UInt8} (h : p.isPrefixOf l = true) : p ++ l.drop p.length = l := by
  obtain ⟨t, rfl⟩ := List.isPrefixOf_iff_prefix.1 h
  rw [List.drop_left]
theorem scheme_glue (w : List UInt8) : (if (schemeL w).2.2 = true then (schemeL w).1 ++ [58] else []) ++ (schemeL w).2.1 = w := by
  unfold schemeL
  by_cases h : w.takeWhile no1 ≠ [] ∧ ([58] : List UInt8).isPrefixOf (w.dropWhile no1) = true
  · rw [if_pos h, if_pos rfl]
    have := prefix_drop h.2
    show (w.takeWhile no1 ++ [58]) ++ (w.dropWhile no1).drop 1 = w
    rw [List.append_assoc]
    show w.takeWhile no1 ++ ([58] ++ (w.dropWhile no1).drop ([58] : List UInt8).length) = w
    rw [this, List.takeWhile_append_dropWhile]
  · rw [if_neg h]
    rfl
theorem scheme_there (w : List UInt8) : (schemeL w).2.2 = ((schemeL w).1 != []) := by
  unfold schemeL
  by_cases h : w.takeWhile no1 ≠ [] ∧ ([58] : List UInt8).isPrefixOf (w.dropWhile no1) = true
  · rw [if_pos h]
    exact (bne_iff_ne.2 h.1).symm
  · rw [if_neg h]
    rfl
theorem scheme_bytes (w : List UInt8) : ∀ x ∈ (schemeL w).1, no1 x = true := by
  unfold schemeL
  intro x hx
  by_cases h : w.takeWhile no1 ≠ [] ∧ ([58] : List UInt8).isPrefixOf (w.dropWhile no1) = true
  · rw [if_pos h] at hx
    exact List.all_eq_true.1 List.all_takeWhile x hx
  · rw [if_neg h] at hx
    exact absurd hx (by simp)
theorem auth_glue (w : List UInt8) : (if (authL w).2.2 = true then 47 :: 47 :: (authL w).1 else []) ++ (authL w).2.1 = w := by
  unfold authL
  by_cases h : ([47, 47] : List UInt8).isPrefixOf w = true
  · rw [if_pos h, if_pos rfl]
    have := prefix_drop h
    show 47 :: 47 :: ((w.drop 2).takeWhile no2 ++ (w.drop 2).dropWhile no2) = w
    rw [List.takeWhile_append_dropWhile]
    exact this
  · rw [if_neg h]
    rfl
theorem auth_no (w : List UInt8) (h : (authL w).2.2 = false) : (authL w).1 = [] ∧ (authL w).2.1 = w ∧ ([47, 47] : List UInt8).isPrefixOf w = false := by
  unfold authL at *
  by_cases hp : ([47, 47] : List UInt8).isPrefixOf w = true
  · rw [if_pos hp] at h
    exact absurd (show true = false from h) (by decide)
  · rw [if_neg hp]
    exact ⟨rfl, rfl, Bool.eq_false_iff.2 hp⟩
theorem auth_bytes (w : List UInt8) : ∀ x ∈ (authL w).1, no2 x = true := by
  unfold authL
  intro x hx
  by_cases hp : ([47, 47] : List UInt8).isPrefixOf w = true
  · rw [if_pos hp] at hx
    exact List.all_eq_true.1 List.all_takeWhile x hx
  · rw [if_neg hp] at hx
    exact absurd hx (by simp)
theorem auth_rest (w : List UInt8) (h : (authL w).2.2 = true) : ∀ c t, (authL w).2.1 = c :: t → no2 c = false := by
  unfold authL at *
  by_cases hp : ([47, 47] : List UInt8).isPrefixOf w = true
  · rw [if_pos hp]
    intro c t e
    have := List.head?_dropWhile_not no2 (w.drop 2)
    replace e : (w.drop 2).dropWhile no2 = c :: t := e
    rw [e] at this
    simpa using this
  · rw [if_neg hp] at h
    exact absurd (show false = true from h) (by decide)

/-- What the five parts of a text are to each other. -/
structure Fits (w : List UInt8) (p : Parts) : Prop where
  glue : (if p.h0 = true then p.a ++ [58] else []) ++ (if p.h1 = true then 47 :: 47 :: p.b else []) ++ p.c ++ (if p.h2 = true then 63 :: p.d else []) ++ (if p.h3 = true then 35 :: p.e else []) = w
  f0 : p.h0 = (p.a != [])
  f1 : p.h1 = false → p.b = []
  f2 : p.h2 = false → p.d = []
  f3 : p.h3 = false → p.e = []
  na : (p.a.any fun c => ([58, 47, 63, 35] : List UInt8).contains c) = false
  nb : (p.b.any fun c => ([47, 63, 35] : List UInt8).contains c) = false
  nc : (p.c.any fun c => ([63, 35] : List UInt8).contains c) = false
  nd : (p.d.any fun c => ([35] : List UInt8).contains c) = false
  c1 : p.h1 = true → p.c = [] ∨ ∃ t, p.c = 47 :: t
  c2 : p.h1 = false → p.c.take 2 ≠ [47, 47]
theorem any_not {l m : List UInt8} (h : ∀ x ∈ l, x ∉ m) : (l.any fun c => m.contains c) = false := by
  rw [List.any_eq_false]
  intro x hx h2
  exact h x hx (by simpa using h2)
theorem cutL_sub1 {l : List UInt8} {c x : UInt8} (h : x ∈ (cutL l c).1) : x ∈ l := (List.takeWhile_prefix _).subset h
theorem cutL_sub2 {l : List UInt8} {c x : UInt8} (h : x ∈ (cutL l c).2.1) : x ∈ l := by
  have h2 : x ∈ (l.dropWhile (fun x => !(x == c))) := List.mem_of_mem_drop h
  exact (List.dropWhile_suffix _).subset h2
theorem fits (w : List UInt8) : Fits w (splitL w) := by
  have g0 := scheme_glue w
  have g1 := auth_glue (schemeL w).2.1
  have g3 := cutL_glue (tailL w) 35
  have g2 := cutL_glue (cutL (tailL w) 35).1 63
  refine ⟨?_, scheme_there w, fun h => (auth_no _ h).1, fun h => cutL_no _ _ h, fun h => cutL_no _ _ h, any_not fun x hx => ?_, any_not fun x hx => ?_, any_not fun x hx => ?_, any_not fun x hx => ?_, fun h => ?_, fun h => ?_⟩
  · show (if (schemeL w).2.2 = true then (schemeL w).1 ++ [58] else []) ++ (if (authL (schemeL w).2.1).2.2 = true then 47 :: 47 :: (authL (schemeL w).2.1).1 else []) ++ (cutL (cutL (tailL w) 35).1 63).1 ++ (if (cutL (cutL (tailL w) 35).1 63).2.2 = true then 63 :: (cutL (cutL (tailL w) 35).1 63).2.1 else []) ++ (if (cutL (tailL w) 35).2.2 = true then 35 :: (cutL (tailL w) 35).2.1 else []) = w
    rw [List.append_assoc _ _ (if (cutL (cutL (tailL w) 35).1 63).2.2 = true then _ else _), g2, List.append_assoc _ _ (if (cutL (tailL w) 35).2.2 = true then _ else _), g3, List.append_assoc, show tailL w = (authL (schemeL w).2.1).2.1 from rfl, g1, g0]
  · have := scheme_bytes w x hx
    intro h
    rw [no1, List.contains_iff_mem.2 h] at this
    exact absurd this (by decide)
  · have := auth_bytes _ x hx
    intro h
    rw [no2, List.contains_iff_mem.2 h] at this
    exact absurd this (by decide)
  · intro h
    rcases List.mem_cons.1 h with rfl | h
    · exact cutL_none _ _ hx
    · rcases List.mem_cons.1 h with rfl | h
      · exact cutL_none _ _ (cutL_sub1 hx)
      · exact absurd h (by simp)
  · intro h
    rcases List.mem_cons.1 h with rfl | h
    · exact cutL_none _ _ (cutL_sub2 hx)
    · exact absurd h (by simp)
  · have hr := auth_rest _ h
    have n1 := cutL_none (cutL (tailL w) 35).1 63
    have n2 : (35 : UInt8) ∉ (cutL (cutL (tailL w) 35).1 63).1 := fun h => cutL_none _ _ (cutL_sub1 h)
    show (cutL (cutL (tailL w) 35).1 63).1 = [] ∨ ∃ t, (cutL (cutL (tailL w) 35).1 63).1 = 47 :: t
    rcases hc : (cutL (cutL (tailL w) 35).1 63).1 with _ | ⟨x, t⟩
    · exact .inl rfl
    · right
      rw [hc] at g2 n1 n2
      rw [← g2] at g3
      have := hr x _ g3.symm
      have hx : ([47, 63, 35] : List UInt8).contains x = true := by
        unfold no2 at this
        cases hq : ([47, 63, 35] : List UInt8).contains x with
        | true => rfl
        | false =>
          rw [hq] at this
          exact absurd this (by decide)
      simp only [List.contains_iff_mem, List.mem_cons, List.not_mem_nil, or_false] at hx
      rcases hx with rfl | rfl | rfl
      · exact ⟨t, rfl⟩
      · exact absurd (List.mem_cons_self ..) n1
      · exact absurd (List.mem_cons_self ..) n2
  · obtain ⟨_, e, hp⟩ := auth_no _ h
    show (cutL (cutL (tailL w) 35).1 63).1.take 2 ≠ [47, 47]
    intro h2
    have hpre : ([47, 47] : List UInt8) <+: (authL (schemeL w).2.1).2.1 := by
      rw [← h2]
      refine (List.take_prefix _ _).trans ?_
      exact (List.takeWhile_prefix _).trans (List.takeWhile_prefix _)
    rw [e] at hpre
    rw [List.isPrefixOf_iff_prefix.2 hpre] at hp
    exact absurd hp (by decide)
theorem j4_ev (a b c d : List UInt8) (h0 h1 h2 h3 : Bool) (hsz : a.length + b.length + c.length + d.length ≤ 3000) (na : (a.any fun c => ([58, 47, 63, 35] : List UInt8).contains c) = false) (nb : (b.any fun c => ([47, 63, 35] : List UInt8).contains c) = false) (nc : (c.any fun c => ([63, 35] : List UInt8).contains c) = false)
    (nd : (d.any fun c => ([35] : List UInt8).contains c) = false) (c1 : h1 = true → c = [] ∨ ∃ t, c = 47 :: t) (c2 : h1 = false → c.take 2 ≠ [47, 47]) (k : Nat) (hk : 20000 < k) :
    shibbolethlaw19_RfcSplits.j4 (k + 1) (S a) (S b) (S c) (S d) false h0 h1 h2 h3 = some true := by
  have ea := shibbolethlaw19_has_ev a [58, 47, 63, 35] (by unfold Sm; omega) (by decide) k (by simp only [List.length_cons, List.length_nil]; omega)
  have eb := shibbolethlaw19_has_ev b [47, 63, 35] (by unfold Sm; omega) (by decide) k (by simp only [List.length_cons, List.length_nil]; omega)
  have ec := shibbolethlaw19_has_ev c [63, 35] (by unfold Sm; omega) (by decide) k (by simp only [List.length_cons, List.length_nil]; omega)
  have ed := shibbolethlaw19_has_ev d [35] (by unfold Sm; omega) (by decide) k (by simp only [List.length_cons, List.length_nil]; omega)
  rw [na] at ea
  rw [nb] at eb
  rw [nc] at ec
  rw [nd] at ed
  rw [shibbolethlaw19_RfcSplits.j4, if_neg (by decide)]
  refine Option.bind_eq_some_iff.2 ⟨_, ea, ?_⟩
  rw [if_neg (by decide)]
  refine Option.bind_eq_some_iff.2 ⟨_, eb, ?_⟩
  rw [if_neg (by decide)]
  refine Option.bind_eq_some_iff.2 ⟨_, ec, ?_⟩
  rw [if_neg (by decide)]
  refine Option.bind_eq_some_iff.2 ⟨_, ed, ?_⟩
  rw [if_neg (by decide)]
  cases h1 with
  | true =>
    rw [if_pos rfl]
    rcases c1 rfl with rfl | ⟨t, rfl⟩
    · rw [if_pos (S_toList [])]
      refine Option.bind_eq_some_iff.2 ⟨_, awake19s k (by omega), ?_⟩
      rfl
    · have hbt : bt (S (47 :: t)) 0 = 47 := bt_S (47 :: t) 0 (by simp)
      rw [if_neg (by rw [S_toList]; simp), if_pos (by rw [S_size, List.length_cons]; omega), if_pos hbt]
      refine Option.bind_eq_some_iff.2 ⟨_, awake19s k (by omega), ?_⟩
      rfl
  | false =>
    rw [if_neg (by decide)]
    by_cases hl : c.length < 2
    · rw [if_pos (by rw [S_size]; omega)]
      refine Option.bind_eq_some_iff.2 ⟨_, awake19s k (by omega), ?_⟩
      rfl
    · rw [if_neg (by rw [S_size]; omega), if_pos (by decide), if_pos (by rw [S_size]; omega), S_upto, S_toList, if_neg (c2 rfl)]
      refine Option.bind_eq_some_iff.2 ⟨_, awake19s k (by omega), ?_⟩
      rfl
theorem j3_ev (w : List UInt8) (p : Parts) (h : Fits w p) (hsz : p.a.length + p.b.length + p.c.length + p.d.length ≤ 3000) (k : Nat) (hk : 20000 < k) :
    shibbolethlaw19_RfcSplits.j3 (k + 2) (S w) (S p.a) (S p.b) (S p.c) (S p.d) (S p.e) (S w) p.h0 p.h1 p.h2 p.h3 = some true := by
  have h4 := j4_ev p.a p.b p.c p.d p.h0 p.h1 p.h2 p.h3 hsz h.na h.nb h.nc h.nd h.c1 h.c2 k hk
  have hf0 : (p.h0 != ((S p.a).toList != ([] : List UInt8))) = false := by
    rw [S_toList, h.f0, bne_self_eq_false]
  have hd : p.h2 = false → (S p.d).toList = ([] : List UInt8) := fun e => by rw [S_toList, h.f2 e]
  have hb : p.h1 = false → (S p.b).toList = ([] : List UInt8) := fun e => by rw [S_toList, h.f1 e]
  have he : p.h3 = false → ((S p.e).toList != ([] : List UInt8)) = false := fun e => by rw [S_toList, h.f3 e]; rfl
  rw [shibbolethlaw19_RfcSplits.j3, if_pos rfl, hf0, if_neg (by decide)]
  generalize p.h1 = h1 at *
  generalize p.h2 = h2 at *
  generalize p.h3 = h3 at *
  have last : (if h3 = true then shibbolethlaw19_RfcSplits.j4 (k + 1) (S p.a) (S p.b) (S p.c) (S p.d) false p.h0 h1 h2 h3 else shibbolethlaw19_RfcSplits.j4 (k + 1) (S p.a) (S p.b) (S p.c) (S p.d) ((S p.e).toList != ([] : List UInt8)) p.h0 h1 h2 h3) = some true := by
    by_cases e : h3 = true
    · rw [if_pos e]; exact h4
    · rw [if_neg e, he (Bool.eq_false_iff.2 e)]; exact h4
  have mid : (if h2 = true then (if h3 = true then shibbolethlaw19_RfcSplits.j4 (k + 1) (S p.a) (S p.b) (S p.c) (S p.d) false p.h0 h1 h2 h3 else shibbolethlaw19_RfcSplits.j4 (k + 1) (S p.a) (S p.b) (S p.c) (S p.d) ((S p.e).toList != ([] : List UInt8)) p.h0 h1 h2 h3) else (if (S p.d).toList = ([] : List UInt8) then (if h3 = true then shibbolethlaw19_RfcSplits.j4 (k + 1) (S p.a) (S p.b) (S p.c) (S p.d) false p.h0 h1 h2 h3 else shibbolethlaw19_RfcSplits.j4 (k + 1) (S p.a) (S p.b) (S p.c) (S p.d) ((S p.e).toList != ([] : List UInt8)) p.h0 h1 h2 h3) else shibbolethlaw19_RfcSplits.j4 (k + 1) (S p.a) (S p.b) (S p.c) (S p.d) true p.h0 h1 h2 h3)) = some true := by
    by_cases e : h2 = true
    · rw [if_pos e]; exact last
    · rw [if_neg e, if_pos (hd (Bool.eq_false_iff.2 e))]; exact last
  by_cases e : h1 = true
  · rw [if_pos e]; exact mid
  · rw [if_neg e, if_pos (hb (Bool.eq_false_iff.2 e))]; exact mid
theorem j2_ev (w x : List UInt8) (p : Parts) (h : Fits w p) (hsz : p.a.length + p.b.length + p.c.length + p.d.length ≤ 3000) (hx : x ++ (if p.h3 = true then 35 :: p.e else []) = w) (hw : w.length ≤ 3000) (k : Nat) (hk : 20000 < k) :
    shibbolethlaw19_RfcSplits.j2 (k + 3) (S w) (S p.a) (S p.b) (S p.c) (S p.d) (S p.e) (S x) p.h0 p.h1 p.h2 p.h3 = some true := by
  have hl := congrArg List.length hx
  rw [List.length_append] at hl
  rw [shibbolethlaw19_RfcSplits.j2]
  by_cases e : p.h3 = true
  · rw [if_pos e] at hx hl ⊢
    rw [List.length_cons] at hl
    have e1 : (S x ++ (⟨#[35]⟩ : ByteArray)) = S (x ++ [35]) := S_append x [35]
    rw [if_pos (by rw [S_size]; omega), e1, if_pos (by rw [S_size, S_size, List.length_append, List.length_singleton]; omega), S_append, List.append_assoc]
    have : x ++ ([35] ++ p.e) = w := hx
    rw [this]
    exact j3_ev w p h hsz k hk
  · rw [if_neg e] at hx ⊢
    rw [List.append_nil] at hx
    rw [hx]
    exact j3_ev w p h hsz k hk
theorem j1_ev (w x : List UInt8) (p : Parts) (h : Fits w p) (hsz : p.a.length + p.b.length + p.c.length + p.d.length ≤ 3000) (hx : x ++ p.c ++ (if p.h2 = true then 63 :: p.d else []) ++ (if p.h3 = true then 35 :: p.e else []) = w) (hw : w.length ≤ 3000) (k : Nat) (hk : 20000 < k) :
    shibbolethlaw19_RfcSplits.j1 (k + 4) (S w) (S p.a) (S p.b) (S p.c) (S p.d) (S p.e) (S x) p.h0 p.h1 p.h2 p.h3 = some true := by
  have hl := congrArg List.length hx
  simp only [List.length_append] at hl
  rw [shibbolethlaw19_RfcSplits.j1, if_pos (by rw [S_size, S_size]; omega), S_append]
  by_cases e : p.h2 = true
  · rw [if_pos e] at hx hl ⊢
    rw [List.length_cons] at hl
    have e1 : (S (x ++ p.c) ++ (⟨#[63]⟩ : ByteArray)) = S (x ++ p.c ++ [63]) := S_append (x ++ p.c) [63]
    rw [if_pos (by rw [S_size, List.length_append]; omega), e1, if_pos (by rw [S_size, S_size, List.length_append, List.length_append, List.length_singleton]; omega), S_append]
    refine j2_ev w _ p h hsz ?_ hw k hk
    rw [← hx, List.append_assoc (x ++ p.c)]
    rfl
  · rw [if_neg e] at hx ⊢
    rw [List.append_nil] at hx
    exact j2_ev w _ p h hsz hx hw k hk
theorem j0_ev (w x : List UInt8) (p : Parts) (h : Fits w p) (hsz : p.a.length + p.b.length + p.c.length + p.d.length ≤ 3000) (hx : x ++ (if p.h1 = true then 47 :: 47 :: p.b else []) ++ p.c ++ (if p.h2 = true then 63 :: p.d else []) ++ (if p.h3 = true then 35 :: p.e else []) = w) (hw : w.length ≤ 3000) (k : Nat) (hk : 20000 < k) :
    shibbolethlaw19_RfcSplits.j0 (k + 5) (S w) (S p.a) (S p.b) (S p.c) (S p.d) (S p.e) (S x) p.h0 p.h1 p.h2 p.h3 = some true := by
  have hl := congrArg List.length hx
  simp only [List.length_append] at hl
  rw [shibbolethlaw19_RfcSplits.j0]
  by_cases e : p.h1 = true
  · rw [if_pos e] at hx hl ⊢
    rw [List.length_cons, List.length_cons] at hl
    have e1 : (S x ++ (⟨#[47, 47]⟩ : ByteArray)) = S (x ++ [47, 47]) := S_append x [47, 47]
    have e2 : ([47, 47] : List UInt8).length = 2 := rfl
    rw [if_pos (by rw [S_size]; omega), e1, if_pos (by rw [S_size, S_size, List.length_append, e2]; omega), S_append]
    refine j1_ev w _ p h hsz ?_ hw k hk
    rw [← hx, List.append_assoc x]
    rfl
  · rw [if_neg e] at hx ⊢
    rw [List.append_nil] at hx
    exact j1_ev w _ p h hsz hx hw k hk
theorem RfcSplits : shibbolethlaw19_RfcSplits.Pure := by
  intro a _
  obtain ⟨w0, rfl⟩ := S_surj a
  refine ⟨30000 + 5, ?_⟩
  unfold shibbolethlaw19_RfcSplits.f
  refine Option.bind_eq_some_iff.2 ⟨_, Short_ev w0, ?_⟩
  have hw : (w0.take 3000).length ≤ 3000 := List.length_take_le _ _
  generalize w0.take 3000 = w at *
  refine Option.bind_eq_some_iff.2 ⟨_, Split_ev w (by unfold Sm; omega) _ (by omega), ?_⟩
  have h := fits w
  generalize splitL w = p at *
  have hl := congrArg List.length h.glue
  simp only [List.length_append] at hl
  have hb : p.b.length ≤ (if p.h1 = true then 47 :: 47 :: p.b else []).length := by
    by_cases e : p.h1 = true
    · rw [if_pos e]; simp only [List.length_cons]; omega
    · rw [h.f1 (Bool.eq_false_iff.2 e)]; exact Nat.zero_le _
  have hd : p.d.length ≤ (if p.h2 = true then 63 :: p.d else []).length := by
    by_cases e : p.h2 = true
    · rw [if_pos e]; simp only [List.length_cons]; omega
    · rw [h.f2 (Bool.eq_false_iff.2 e)]; exact Nat.zero_le _
  show (if p.h0 = true then _ else _) = _
  by_cases e : p.h0 = true
  · have hg := h.glue
    rw [if_pos e] at hl hg ⊢
    rw [List.length_append, List.length_singleton] at hl
    have e1 : (S p.a ++ (⟨#[58]⟩ : ByteArray)) = S (p.a ++ [58]) := S_append p.a [58]
    show (if (S p.a).size + 1 ≤ _ then _ else _) = _
    rw [if_pos (by rw [S_size]; omega)]
    show shibbolethlaw19_RfcSplits.j0 (30000 + 5) (S w) (S p.a) (S p.b) (S p.c) (S p.d) (S p.e) (S p.a ++ (⟨#[58]⟩ : ByteArray)) p.h0 p.h1 p.h2 p.h3 = some true
    rw [e1]
    exact j0_ev w _ p h (by omega) hg hw 30000 (by omega)
  · have hg := h.glue
    have ha : p.a = [] := by
      have := h.f0
      rw [Bool.eq_false_iff.2 e] at this
      simpa using this.symm
    rw [if_neg e] at hl hg ⊢
    show shibbolethlaw19_RfcSplits.j0 (30000 + 5) (S w) (S p.a) (S p.b) (S p.c) (S p.d) (S p.e) (S []) p.h0 p.h1 p.h2 p.h3 = some true
    exact j0_ev w [] p h (by rw [ha]; simp only [List.length_nil] at *; omega) hg hw 30000 (by omega)
end Go.Proofs.Ytiihgddpejmehaa.Pure

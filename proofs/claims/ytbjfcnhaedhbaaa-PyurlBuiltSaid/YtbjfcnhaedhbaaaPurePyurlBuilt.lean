/- PyurlBuilt answers true for every six texts: of texts of at most 60 bytes, brought to what may stand there and put together as userinfo, host, port, path, query and fragment, pyurl.Parse tells just this host and this path (no conditions but the row's size bound). -/
import Derived.Test.YtbjfcnhaedhbaaaPy
import Derived.Test.YtbjfcnhaedhbaaaZA5
import Derived.Test.YtbjfcnhaedhbaaaZA6
namespace Go.Proofs.Ytbjfcnhaedhbaaa.Pure
open Go.RowKit Go.Proofs.Ytbjfcnhaedhbaaa.ZA Go.Proofs.YtbjfcnhaedhbaaaW.PrintWords Go.Proofs.YtbjfcnhaedhbaaaW.PrintLast Go.Proofs.Ytbjfcnhaedhbaaa.L Go.Proofs.Ytbjfcnhaedhbaaa.Str Go.Proofs.Ytbjfcnhaedhbaaa.Py

theorem awake21b (k : Nat) (hk : 100 ≤ k) : shibbolethlaw21_awake.f k = some true := at_rounds (g := fun k => shibbolethlaw21_awake.f k) shibbolethlaw21_awake.mono hk (by kernel_rfl)
/-! a text without some bytes -/
def woL (l m : List UInt8) : List UInt8 := l.filter fun c => !m.contains c
theorem without_l1 (l m : List UInt8) (hl : Sm l) (hm : Sm m) (i : Nat) (hi : i < l.length) (acc : List UInt8) (ha : acc.length ≤ i) : ∀ (d j k : Nat) (b : Bool), j + d = m.length →
    shibbolethlaw21_without.l1 (k + d + 1) (S l) (S m) (ints acc) (i : Int) b (j : Int) =
      (if (b || (m.drop j).contains l[i]) = true then shibbolethlaw21_without.l0 k (S l) (S m) (ints acc) ((i + 1 : Nat) : Int) else shibbolethlaw21_without.l0 k (S l) (S m) (ints (acc ++ [l[i]])) ((i + 1 : Nat) : Int))
  | 0, j, k, b, h => by
    simp only [shibbolethlaw21_without.l1]
    rw [if_neg (by rw [S_size]; omega), List.drop_of_length_le (by omega), wrap_succ i (by unfold Sm at hl; omega)]
    have hc : ([] : List UInt8).contains l[i] = false := rfl
    rw [hc, Bool.or_false]
    by_cases hb : b = true
    · rw [if_pos hb, if_pos hb]
    · rw [if_neg hb, if_neg hb, if_pos (by omega), if_pos (by rw [S_size]; omega), if_pos (by simp only [ints, List.length_map]; unfold Sm at hl; omega), bt_S l i hi]
      have e : ints acc ++ [(l[i].toNat : Int)] = ints (acc ++ [l[i]]) := by simp [ints]
      rw [e]
  | d + 1, j, k, b, h => by
    have hlt : j < m.length := by omega
    have hd : m.drop j = m[j] :: m.drop (j + 1) := List.drop_eq_getElem_cons hlt
    rw [show k + (d + 1) + 1 = (k + d + 1) + 1 by omega, shibbolethlaw21_without.l1]
    rw [if_pos (by rw [S_size]; omega), wrap_succ j (by unfold Sm at hm; omega), hd, List.contains_cons]
    by_cases hb : b = true
    · subst hb
      rw [if_pos rfl, without_l1 l m hl hm i hi acc ha d (j + 1) k true (by omega)]
      simp only [Bool.true_or]
    · have hbf : b = false := by simpa using hb
      subst hbf
      have e : ((l[i].toNat : Int) == (m[j].toNat : Int)) = (l[i] == m[j]) := by
        rw [Bool.eq_iff_iff, beq_iff_eq, beq_iff_eq]
        exact ⟨fun h => UInt8.toNat_inj.1 (by omega), fun h => by rw [h]⟩
      rw [if_neg (by decide), if_pos (by omega), if_pos (by rw [S_size]; omega), if_pos (by omega), bt_S l i hi, bt_S m j hlt, e, without_l1 l m hl hm i hi acc ha d (j + 1) k _ (by omega)]
      simp only [Bool.false_or]
theorem without_l0 (l m : List UInt8) (hl : Sm l) (hm : Sm m) : ∀ (d i k : Nat) (acc : List UInt8), i + d = l.length → acc.length ≤ i → d * (m.length + 2) < k →
    shibbolethlaw21_without.l0 k (S l) (S m) (ints acc) (i : Int) = some (S (acc ++ woL (l.drop i) m))
  | 0, i, k, acc, h, ha, hk => by
    obtain ⟨k, rfl⟩ : ∃ m, k = m + 1 := ⟨k - 1, by omega⟩
    simp only [shibbolethlaw21_without.l0]
    rw [if_neg (by rw [S_size]; omega), strOf_ints, List.drop_of_length_le (by omega)]
    simp [woL]
  | d + 1, i, k, acc, h, ha, hk => by
    have hlt : i < l.length := by omega
    have hd : l.drop i = l[i] :: l.drop (i + 1) := List.drop_eq_getElem_cons hlt
    rw [Nat.succ_mul] at hk
    obtain ⟨k, rfl⟩ : ∃ n, k = (n + m.length + 1) + 1 := ⟨k - m.length - 2, by omega⟩
    rw [shibbolethlaw21_without.l0, if_pos (by rw [S_size]; omega)]
    have h1 := without_l1 l m hl hm i hlt acc ha m.length 0 k false (by omega)
    rw [show ((0 : Nat) : Int) = 0 from rfl, List.drop_zero] at h1
    rw [h1, Bool.false_or]
    have hf : woL (l.drop i) m = (if m.contains l[i] = true then [] else [l[i]]) ++ woL (l.drop (i + 1)) m := by
      rw [hd]
      unfold woL
      by_cases hc : m.contains l[i] = true
      · rw [if_pos hc, List.filter_cons_of_neg (by rw [hc]; decide)]; rfl
      · have hcf : m.contains l[i] = false := Bool.eq_false_iff.2 hc
        rw [if_neg hc, List.filter_cons_of_pos (by rw [hcf]; rfl)]; rfl
    rw [hf]
    by_cases hc : m.contains l[i] = true
    · rw [if_pos hc, if_pos hc, without_l0 l m hl hm d (i + 1) k acc (by omega) (by omega) (by omega)]
      rfl
    · rw [if_neg hc, if_neg hc, without_l0 l m hl hm d (i + 1) k (acc ++ [l[i]]) (by omega) (by simp; omega) (by omega), List.append_assoc]
theorem without_ev (l m : List UInt8) (hl : l.length ≤ 60) (hm : m.length ≤ 10) (k : Nat) (hk : 1000 < k) : shibbolethlaw21_without.f k (S l) (S m) = some (S (woL l m)) := by
  have := without_l0 l m (by unfold Sm; omega) (by unfold Sm; omega) l.length 0 k [] (by omega) (by simp) (by
    have : l.length * (m.length + 2) ≤ 60 * 12 := Nat.mul_le_mul hl (by omega)
    omega)
  rw [List.drop_zero] at this
  exact this
theorem wo_len (l m : List UInt8) : (woL l m).length ≤ l.length := List.length_filter_le _ _
theorem wo_not {l m : List UInt8} {x : UInt8} (h : x ∈ woL l m) : x ∉ m := by
  unfold woL at h
  have := (List.mem_filter.1 h).2
  simpa using this

/-! the plain law -/
theorem tw_stop {p : UInt8 → Bool} {a t : List UInt8} {b : UInt8} (ha : ∀ x ∈ a, p x = true) (hb : p b = false) : (a ++ b :: t).takeWhile p = a ∧ (a ++ b :: t).dropWhile p = b :: t := by
  constructor
  · rw [List.takeWhile_append_of_pos ha]; simp [hb]
  · rw [List.dropWhile_append_of_pos ha]; simp [hb]
theorem behindLast_at {c : UInt8} {a b : List UInt8} (h : c ∉ b) : behindLast c (a ++ c :: b) = b := by
  unfold behindLast
  have e : (a ++ c :: b).reverse = b.reverse ++ c :: a.reverse := by simp
  rw [e, (tw_stop (p := fun x => !(x == c)) (a := b.reverse) (t := a.reverse) (b := c) (fun x hx => by
    have hx2 : x ∈ b := List.mem_reverse.1 hx
    have : x ≠ c := fun e => h (e ▸ hx2)
    simp [this]) (by simp)).1, List.reverse_reverse]
theorem cutL_at {c : UInt8} {a b : List UInt8} (h : c ∉ a) : cutL (a ++ c :: b) c = (a, b, true) := by
  have hs := tw_stop (p := fun x => !(x == c)) (a := a) (t := b) (b := c) (fun x hx => by
    have : x ≠ c := fun e => h (e ▸ hx)
    simp [this]) (by simp)
  unfold cutL
  rw [hs.1, hs.2]
  simp
theorem filter_keep {l : List UInt8} (h : ∀ x ∈ l, keepB x = true) : l.filter keepB = l := List.filter_eq_self.2 h
theorem keep_of {x : UInt8} (h9 : x ≠ 9) (h10 : x ≠ 10) (h13 : x ≠ 13) : keepB x = true := by simp [keepB, h9, h10, h13]
theorem host_named (u h q : List UInt8) (hh : ∀ x ∈ h, x ≠ 64 ∧ x ≠ 91 ∧ x ≠ 93 ∧ x ≠ 58) (hq : ∀ x ∈ q, x ≠ 64 ∧ x ≠ 91 ∧ x ≠ 93) : hostL (u ++ 64 :: (h ++ 58 :: q)) = (h, true) := by
  have hb : behindLast 64 (u ++ 64 :: (h ++ 58 :: q)) = h ++ 58 :: q := behindLast_at (by
    simp only [List.mem_append, List.mem_cons]
    rintro (h1 | h1 | h1)
    · exact (hh _ h1).1 rfl
    · exact absurd h1 (by decide)
    · exact (hq _ h1).1 rfl)
  unfold hostL
  rw [hb]
  have h91 : (h ++ 58 :: q).contains 91 = false := by
    rw [Bool.eq_false_iff, ne_eq, List.contains_iff_mem]
    simp only [List.mem_append, List.mem_cons]
    rintro (h1 | h1 | h1)
    · exact (hh _ h1).2.1 rfl
    · exact absurd h1 (by decide)
    · exact (hq _ h1).2.1 rfl
  have h93 : (h ++ 58 :: q).contains 93 = false := by
    rw [Bool.eq_false_iff, ne_eq, List.contains_iff_mem]
    simp only [List.mem_append, List.mem_cons]
    rintro (h1 | h1 | h1)
    · exact (hh _ h1).2.2.1 rfl
    · exact absurd h1 (by decide)
    · exact (hq _ h1).2.2 rfl
  rw [if_neg (by rw [h91]; decide), h93, cutL_at (fun h1 => (hh _ h1).2.2.2 rfl)]
  rfl
theorem host_numbered (u h q : List UInt8) (hh : ∀ x ∈ h, x ≠ 64 ∧ x ≠ 91 ∧ x ≠ 93) (hq : ∀ x ∈ q, x ≠ 64) : hostL (u ++ 64 :: 91 :: (h ++ 93 :: q)) = (h, true) := by
  have hb : behindLast 64 (u ++ 64 :: 91 :: (h ++ 93 :: q)) = 91 :: (h ++ 93 :: q) := behindLast_at (by
    simp only [List.mem_append, List.mem_cons]
    rintro (h1 | h1 | h1 | h1)
    · exact absurd h1 (by decide)
    · exact (hh _ h1).1 rfl
    · exact absurd h1 (by decide)
    · exact hq _ h1 rfl)
  unfold hostL
  rw [hb]
  have h91 : (91 :: (h ++ 93 :: q) : List UInt8).contains 91 = true := by simp
  have hc : cutL (91 :: (h ++ 93 :: q)) 91 = ([], h ++ 93 :: q, true) := cutL_at (a := []) (by simp)
  rw [if_pos h91, hc, cutL_at (fun h1 => (hh _ h1).2.2 rfl)]
theorem tell_built (a r p : List UInt8) (H : List UInt8) (ha : ∀ x ∈ a, noSQF x = true) (hp : ∀ x ∈ p, noQF x = true) (hr : r = [] ∨ ∃ c t, r = c :: t ∧ noQF c = false) (hH : hostL a = (H, true)) :
    tellL (47 :: 47 :: (a ++ 47 :: (p ++ r))) = (true, H, 47 :: p) := by
  have h1 : ([47, 47] : List UInt8).isPrefixOf (47 :: 47 :: (a ++ 47 :: (p ++ r))) = true := by simp
  have hs := tw_stop (p := noSQF) (a := a) (t := p ++ r) (b := 47) ha (by decide)
  have hd : (47 :: 47 :: (a ++ 47 :: (p ++ r)) : List UInt8).drop 2 = a ++ 47 :: (p ++ r) := rfl
  unfold tellL
  rw [if_pos h1, hd, hs.1, hs.2, hH, if_pos rfl]
  have hq : (47 :: (p ++ r) : List UInt8).takeWhile noQF = 47 :: p := by
    rcases hr with rfl | ⟨c, t, rfl, hc⟩
    · rw [List.append_nil, List.takeWhile_cons, if_pos (by decide)]
      congr 1
      have := List.takeWhile_append_of_pos (l₂ := []) hp
      simpa using this
    · have := (tw_stop (p := noQF) (a := 47 :: p) (t := t) (b := c) (fun x hx => by
        rcases List.mem_cons.1 hx with rfl | hx
        · decide
        · exact hp x hx) hc).1
      exact this
  rw [hq]
theorem rest_slash (t : List UInt8) : restL (47 :: t) = 47 :: t := by
  unfold restL
  rw [if_neg]
  rintro ⟨_, h⟩
  have : (47 :: t : List UInt8).takeWhile (fun x => !(x == 58)) = 47 :: t.takeWhile (fun x => !(x == 58)) := by rw [List.takeWhile_cons, if_pos (by decide)]
  rw [this] at h
  have hf : letterB 47 = false := by decide
  simp [isScheme, hf] at h
theorem rest_scheme (t : List UInt8) : restL (97 :: 49 :: 43 :: 58 :: t) = t := by
  have h1 : (97 :: 49 :: 43 :: 58 :: t : List UInt8).takeWhile (fun x => !(x == 58)) = [97, 49, 43] := (tw_stop (a := [97, 49, 43]) (b := 58) (t := t) (by decide) (by decide)).1
  have h2 : (97 :: 49 :: 43 :: 58 :: t : List UInt8).dropWhile (fun x => !(x == 58)) = 58 :: t := (tw_stop (a := [97, 49, 43]) (b := 58) (t := t) (by decide) (by decide)).2
  unfold restL
  rw [h1, h2, if_pos ⟨by simp, by decide⟩]
  rfl
theorem bare_slash (t : List UInt8) : bareL (47 :: t) = 47 :: t.filter keepB := by
  unfold bareL
  rw [List.dropWhile_cons, if_neg (by decide), List.filter_cons_of_pos (by decide)]
theorem bare_scheme (t : List UInt8) : bareL (97 :: 49 :: 43 :: 58 :: t) = 97 :: 49 :: 43 :: 58 :: t.filter keepB := by
  unfold bareL
  rw [List.dropWhile_cons, if_neg (by decide), List.filter_cons_of_pos (by decide), List.filter_cons_of_pos (by decide), List.filter_cons_of_pos (by decide), List.filter_cons_of_pos (by decide)]

def keeps (l : List UInt8) : List UInt8 := l.filter keepB
theorem keeps_mem {l : List UInt8} {x : UInt8} (h : x ∈ keeps l) : x ∈ l := (List.mem_filter.1 h).1
theorem nsq {x : UInt8} (h1 : x ≠ 47) (h2 : x ≠ 63) (h3 : x ≠ 35) : noSQF x = true := by simp [noSQF, h1, h2, h3]
theorem nq {x : UInt8} (h2 : x ≠ 63) (h3 : x ≠ 35) : noQF x = true := by simp [noQF, h2, h3]
/-- What may stand where. -/
structure Stands (U H Q P : List UInt8) : Prop where
  u : ∀ x ∈ U, x ≠ 47 ∧ x ≠ 63 ∧ x ≠ 35
  h : ∀ x ∈ H, x ≠ 9 ∧ x ≠ 10 ∧ x ≠ 13 ∧ x ≠ 47 ∧ x ≠ 63 ∧ x ≠ 35 ∧ x ≠ 64 ∧ x ≠ 91 ∧ x ≠ 93
  q : ∀ x ∈ Q, x ≠ 47 ∧ x ≠ 63 ∧ x ≠ 35 ∧ x ≠ 64
  p : ∀ x ∈ P, x ≠ 9 ∧ x ≠ 10 ∧ x ≠ 13 ∧ x ≠ 63 ∧ x ≠ 35
theorem tell_named {U H Q P : List UInt8} (s : Stands U H Q P) (hc : ∀ x ∈ H, x ≠ 58) (hq : ∀ x ∈ Q, x ≠ 91 ∧ x ≠ 93) (r : List UInt8) :
    tellL (47 :: keeps (47 :: (U ++ 64 :: (H ++ 58 :: (Q ++ 47 :: (P ++ 63 :: r)))))) = (true, H, 47 :: P) := by
  have eH : H.filter keepB = H := filter_keep fun x hx => keep_of (s.h x hx).1 (s.h x hx).2.1 (s.h x hx).2.2.1
  have eP : P.filter keepB = P := filter_keep fun x hx => keep_of (s.p x hx).1 (s.p x hx).2.1 (s.p x hx).2.2.1
  have e : keeps (47 :: (U ++ 64 :: (H ++ 58 :: (Q ++ 47 :: (P ++ 63 :: r))))) = 47 :: ((keeps U ++ 64 :: (H ++ 58 :: keeps Q)) ++ 47 :: (P ++ 63 :: keeps r)) := by
    unfold keeps
    have k47 : keepB 47 = true := by decide
    have k58 : keepB 58 = true := by decide
    have k63 : keepB 63 = true := by decide
    have k64 : keepB 64 = true := by decide
    simp only [List.filter_append, List.filter_cons, k47, k58, k63, k64, if_true, eH, eP, List.append_assoc, List.cons_append]
  rw [e]
  have hU : ∀ x ∈ keeps U, x ≠ 47 ∧ x ≠ 63 ∧ x ≠ 35 := fun x hx => s.u x (keeps_mem hx)
  have hQ : ∀ x ∈ keeps Q, (x ≠ 47 ∧ x ≠ 63 ∧ x ≠ 35 ∧ x ≠ 64) ∧ x ≠ 91 ∧ x ≠ 93 := fun x hx => ⟨s.q x (keeps_mem hx), hq x (keeps_mem hx)⟩
  refine tell_built _ _ _ _ ?_ (fun x hx => nq (s.p x hx).2.2.2.1 (s.p x hx).2.2.2.2) (Or.inr ⟨63, _, rfl, by decide⟩) (host_named _ _ _ (fun x hx => ⟨(s.h x hx).2.2.2.2.2.2.1, (s.h x hx).2.2.2.2.2.2.2.1, (s.h x hx).2.2.2.2.2.2.2.2, hc x hx⟩) (fun x hx => ⟨(hQ x hx).1.2.2.2, (hQ x hx).2.1, (hQ x hx).2.2⟩))
  intro x hx
  simp only [List.mem_append, List.mem_cons] at hx
  rcases hx with hx | hx | hx | hx | hx
  · exact nsq (hU x hx).1 (hU x hx).2.1 (hU x hx).2.2
  · subst hx; decide
  · exact nsq (s.h x hx).2.2.2.1 (s.h x hx).2.2.2.2.1 (s.h x hx).2.2.2.2.2.1
  · subst hx; decide
  · exact nsq (hQ x hx).1.1 (hQ x hx).1.2.1 (hQ x hx).1.2.2.1
theorem tell_numbered {U H Q P : List UInt8} (s : Stands U H Q P) :
    tellL (47 :: keeps (47 :: (U ++ 64 :: 91 :: (H ++ 93 :: (Q ++ 47 :: P))))) = (true, H, 47 :: P) := by
  have eH : H.filter keepB = H := filter_keep fun x hx => keep_of (s.h x hx).1 (s.h x hx).2.1 (s.h x hx).2.2.1
  have eP : P.filter keepB = P := filter_keep fun x hx => keep_of (s.p x hx).1 (s.p x hx).2.1 (s.p x hx).2.2.1
  have e : keeps (47 :: (U ++ 64 :: 91 :: (H ++ 93 :: (Q ++ 47 :: P)))) = 47 :: ((keeps U ++ 64 :: 91 :: (H ++ 93 :: keeps Q)) ++ 47 :: (P ++ [])) := by
    unfold keeps
    have k47 : keepB 47 = true := by decide
    have k91 : keepB 91 = true := by decide
    have k93 : keepB 93 = true := by decide
    have k64 : keepB 64 = true := by decide
    simp only [List.filter_append, List.filter_cons, k47, k91, k93, k64, if_true, eH, eP, List.append_assoc, List.cons_append, List.append_nil]
  rw [e]
  have hU : ∀ x ∈ keeps U, x ≠ 47 ∧ x ≠ 63 ∧ x ≠ 35 := fun x hx => s.u x (keeps_mem hx)
  have hQ : ∀ x ∈ keeps Q, x ≠ 47 ∧ x ≠ 63 ∧ x ≠ 35 ∧ x ≠ 64 := fun x hx => s.q x (keeps_mem hx)
  refine tell_built _ _ _ _ ?_ (fun x hx => nq (s.p x hx).2.2.2.1 (s.p x hx).2.2.2.2) (Or.inl rfl) (host_numbered _ _ _ (fun x hx => ⟨(s.h x hx).2.2.2.2.2.2.1, (s.h x hx).2.2.2.2.2.2.2.1, (s.h x hx).2.2.2.2.2.2.2.2⟩) (fun x hx => (hQ x hx).2.2.2))
  intro x hx
  simp only [List.mem_append, List.mem_cons] at hx
  rcases hx with hx | hx | hx | hx | hx | hx
  · exact nsq (hU x hx).1 (hU x hx).2.1 (hU x hx).2.2
  · subst hx; decide
  · subst hx; decide
  · exact nsq (s.h x hx).2.2.2.1 (s.h x hx).2.2.2.2.1 (s.h x hx).2.2.2.2.2.1
  · subst hx; decide
  · exact nsq (hQ x hx).1 (hQ x hx).2.1 (hQ x hx).2.2.1
theorem parse_slash (t : List UInt8) : parseL (47 :: t) = tellL (47 :: keeps t) := by
  unfold parseL keeps
  rw [bare_slash, rest_slash]
theorem parse_scheme (t : List UInt8) : parseL (97 :: 49 :: 43 :: 58 :: t) = tellL (keeps t) := by
  unfold parseL keeps
  rw [bare_scheme, rest_scheme]
theorem told_same (H P : List UInt8) : ((toB (true, H, P)).1 && ((toB (true, H, P)).2.1.toList == (S H).toList && ((toB (true, H, P)).2.2.toList == (S P).toList))) = true := by
  simp [toB]
theorem parse_ev_of {w : List UInt8} {x : Bool × List UInt8 × List UInt8} (e : parseL w = x) (hw : w.length ≤ 1000) (k : Nat) (hk : 3000 < k) : pyurl_Parse.f k (S w) = some (toB x) := by
  rw [← e]; exact Parse_ev w (by unfold Sm; omega) k (by omega)
theorem built_j0 (u h q p r x : List UInt8) (hu : u.length ≤ 60) (hh : h.length ≤ 60) (hq : q.length ≤ 60) (hp : p.length ≤ 60) (hr : r.length ≤ 60) (hx : x.length ≤ 60) (k : Nat) (hk : 3000 < k) :
    shibbolethlaw21_PyurlBuilt.j0 (k + 1) (S u) (S h) (S q) (S p) (S r) (S x) false = some true := by
  rw [shibbolethlaw21_PyurlBuilt.j0, if_neg (by decide)]
  have w197 := without_ev h [9, 10, 13, 47, 63, 35, 64, 91, 93, 58] hh (by decide) k (by omega)
  have w198 := without_ev p [9, 10, 13, 63, 35] hp (by decide) k (by omega)
  have w199 := without_ev u [47, 63, 35] hu (by decide) k (by omega)
  have w200 := without_ev q [47, 63, 35, 64, 91, 93] hq (by decide) k (by omega)
  have w201 := without_ev r [35] hr (by decide) k (by omega)
  have w203 := without_ev h [9, 10, 13, 47, 63, 35, 64, 91, 93] hh (by decide) k (by omega)
  have w205 := without_ev q [47, 63, 35, 64] hq (by decide) k (by omega)
  have m197 : ∀ x ∈ woL h [9, 10, 13, 47, 63, 35, 64, 91, 93, 58], (x ≠ 9 ∧ x ≠ 10 ∧ x ≠ 13 ∧ x ≠ 47 ∧ x ≠ 63 ∧ x ≠ 35 ∧ x ≠ 64 ∧ x ≠ 91 ∧ x ≠ 93) ∧ x ≠ 58 := fun x hx => by simpa [and_assoc] using wo_not hx
  have m198 : ∀ x ∈ woL p [9, 10, 13, 63, 35], x ≠ 9 ∧ x ≠ 10 ∧ x ≠ 13 ∧ x ≠ 63 ∧ x ≠ 35 := fun x hx => by simpa using wo_not hx
  have m199 : ∀ x ∈ woL u [47, 63, 35], x ≠ 47 ∧ x ≠ 63 ∧ x ≠ 35 := fun x hx => by simpa using wo_not hx
  have m200 : ∀ x ∈ woL q [47, 63, 35, 64, 91, 93], (x ≠ 47 ∧ x ≠ 63 ∧ x ≠ 35 ∧ x ≠ 64) ∧ x ≠ 91 ∧ x ≠ 93 := fun x hx => by simpa [and_assoc] using wo_not hx
  have m203 : ∀ x ∈ woL h [9, 10, 13, 47, 63, 35, 64, 91, 93], x ≠ 9 ∧ x ≠ 10 ∧ x ≠ 13 ∧ x ≠ 47 ∧ x ≠ 63 ∧ x ≠ 35 ∧ x ≠ 64 ∧ x ≠ 91 ∧ x ≠ 93 := fun x hx => by simpa using wo_not hx
  have m205 : ∀ x ∈ woL q [47, 63, 35, 64], x ≠ 47 ∧ x ≠ 63 ∧ x ≠ 35 ∧ x ≠ 64 := fun x hx => by simpa using wo_not hx
  have l197 := wo_len h [9, 10, 13, 47, 63, 35, 64, 91, 93, 58]
  have l198 := wo_len p [9, 10, 13, 63, 35]
  have l199 := wo_len u [47, 63, 35]
  have l200 := wo_len q [47, 63, 35, 64, 91, 93]
  have l201 := wo_len r [35]
  have l203 := wo_len h [9, 10, 13, 47, 63, 35, 64, 91, 93]
  have l205 := wo_len q [47, 63, 35, 64]
  generalize woL h [9, 10, 13, 47, 63, 35, 64, 91, 93, 58] = H at *
  generalize woL p [9, 10, 13, 63, 35] = P at *
  generalize woL u [47, 63, 35] = U at *
  generalize woL q [47, 63, 35, 64, 91, 93] = Q at *
  generalize woL r [35] = R at *
  generalize woL h [9, 10, 13, 47, 63, 35, 64, 91, 93] = H2 at *
  generalize woL q [47, 63, 35, 64] = Q2 at *
  have s1 : Stands U H Q P := ⟨m199, fun x hx => (m197 x hx).1, fun x hx => (m200 x hx).1, m198⟩
  have s2 : Stands U H2 Q2 P := ⟨m199, m203, m205, m198⟩
  have t1 := tell_named s1 (fun x hx => (m197 x hx).2) (fun x hx => (m200 x hx).2) (R ++ 35 :: x)
  have t2 := tell_numbered s2
  have p1 := parse_slash (47 :: (U ++ 64 :: (H ++ 58 :: (Q ++ 47 :: (P ++ 63 :: (R ++ 35 :: x))))))
  rw [t1] at p1
  have p2 := parse_scheme (47 :: 47 :: (U ++ 64 :: (H ++ 58 :: (Q ++ 47 :: (P ++ 63 :: (R ++ 35 :: x))))))
  have k2 : keeps (47 :: 47 :: (U ++ 64 :: (H ++ 58 :: (Q ++ 47 :: (P ++ 63 :: (R ++ 35 :: x)))))) = 47 :: keeps (47 :: (U ++ 64 :: (H ++ 58 :: (Q ++ 47 :: (P ++ 63 :: (R ++ 35 :: x)))))) := by
    unfold keeps
    rw [List.filter_cons_of_pos (by decide)]
  rw [k2, t1] at p2
  have p3 := parse_slash (47 :: (U ++ 64 :: 91 :: (H2 ++ 93 :: (Q2 ++ 47 :: P))))
  rw [t2] at p3
  clear t1 t2 k2 s1 s2 m197 m198 m199 m200 m203 m205
  have e1 := parse_ev_of p1 (by simp only [List.length_append, List.length_cons]; omega) k hk
  have e2 := parse_ev_of p2 (by simp only [List.length_append, List.length_cons]; omega) k hk
  have e3 := parse_ev_of p3 (by simp only [List.length_append, List.length_cons]; omega) k hk
  clear p1 p2 p3
  refine Option.bind_eq_some_iff.2 ⟨_, w197, ?_⟩
  refine Option.bind_eq_some_iff.2 ⟨_, w198, ?_⟩
  rw [if_pos (by rw [S_size]; omega)]
  refine Option.bind_eq_some_iff.2 ⟨_, w199, ?_⟩
  simp only [lit, S_append, List.append_assoc, List.cons_append, List.nil_append]
  rw [if_pos (by simp only [S_size]; omega), if_pos (by simp only [S_size, List.length_cons]; omega), if_pos (by simp only [S_size, List.length_append, List.length_cons, List.length_nil]; omega), if_pos (by simp only [S_size, List.length_append, List.length_cons]; omega)]
  refine Option.bind_eq_some_iff.2 ⟨_, w200, ?_⟩
  simp only [S_append, List.append_assoc, List.cons_append, List.nil_append]
  rw [if_pos (by simp only [S_size, List.length_append, List.length_cons, List.length_nil]; omega), if_pos (by simp only [S_size, List.length_append, List.length_cons]; omega), if_pos (by simp only [S_size, List.length_append, List.length_cons]; omega)]
  refine Option.bind_eq_some_iff.2 ⟨_, w201, ?_⟩
  simp only [S_append, List.append_assoc, List.cons_append, List.nil_append]
  rw [if_pos (by simp only [S_size, List.length_append, List.length_cons, List.length_nil]; omega), if_pos (by simp only [S_size, List.length_append, List.length_cons]; omega), if_pos (by simp only [S_size, List.length_append, List.length_cons, List.length_nil]; omega)]
  refine Option.bind_eq_some_iff.2 ⟨_, w203, ?_⟩
  refine Option.bind_eq_some_iff.2 ⟨_, w199, ?_⟩
  simp only [S_append, List.append_assoc, List.cons_append, List.nil_append]
  rw [if_pos (by simp only [S_size]; omega), if_pos (by simp only [S_size, List.length_cons]; omega), if_pos (by simp only [S_size, List.length_append, List.length_cons, List.length_nil]; omega), if_pos (by simp only [S_size, List.length_append, List.length_cons]; omega)]
  refine Option.bind_eq_some_iff.2 ⟨_, w205, ?_⟩
  simp only [S_append, List.append_assoc, List.cons_append, List.nil_append]
  rw [if_pos (by simp only [S_size, List.length_append, List.length_cons, List.length_nil]; omega), if_pos (by simp only [S_size, List.length_append, List.length_cons]; omega)]
  refine Option.bind_eq_some_iff.2 ⟨_, e1, ?_⟩
  rw [if_pos (told_same _ _), if_pos (by simp only [S_size, List.length_append, List.length_cons]; omega)]
  refine Option.bind_eq_some_iff.2 ⟨_, e2, ?_⟩
  rw [if_pos (told_same _ _)]
  refine Option.bind_eq_some_iff.2 ⟨_, e3, ?_⟩
  rw [if_pos (told_same _ _)]
  refine Option.bind_eq_some_iff.2 ⟨_, awake21b k (by omega), ?_⟩
  rfl
theorem built_far (a b c d e f : ByteArray) : shibbolethlaw21_PyurlBuilt.j0 (4000 + 1) a b c d e f true = some true := by
  rw [shibbolethlaw21_PyurlBuilt.j0, if_pos rfl]
  refine Option.bind_eq_some_iff.2 ⟨_, awake21b 4000 (by omega), ?_⟩
  rfl
theorem PyurlBuilt : shibbolethlaw21_PyurlBuilt.Pure := by
  intro a b c d e f _ _ _ _ _ _
  refine ⟨4000 + 1, ?_⟩
  unfold shibbolethlaw21_PyurlBuilt.f
  by_cases h0 : (a.size : Int) > 60
  · rw [if_pos h0]; exact built_far ..
  rw [if_neg h0]
  by_cases h1 : (b.size : Int) > 60
  · rw [if_pos h1]; exact built_far ..
  rw [if_neg h1]
  by_cases h2 : (c.size : Int) > 60
  · rw [if_pos h2]; exact built_far ..
  rw [if_neg h2]
  by_cases h3 : (d.size : Int) > 60
  · rw [if_pos h3]; exact built_far ..
  rw [if_neg h3]
  by_cases h4 : (e.size : Int) > 60
  · rw [if_pos h4]; exact built_far ..
  rw [if_neg h4]
  by_cases h5 : (f.size : Int) > 60
  · rw [decide_eq_true h5]; exact built_far ..
  rw [decide_eq_false h5]
  obtain ⟨a, rfl⟩ := S_surj a
  obtain ⟨b, rfl⟩ := S_surj b
  obtain ⟨c, rfl⟩ := S_surj c
  obtain ⟨d, rfl⟩ := S_surj d
  obtain ⟨e, rfl⟩ := S_surj e
  obtain ⟨f, rfl⟩ := S_surj f
  rw [S_size] at h0 h1 h2 h3 h4 h5
  exact built_j0 a b c d e f (by omega) (by omega) (by omega) (by omega) (by omega) (by omega) 4000 (by omega)
end Go.Proofs.Ytbjfcnhaedhbaaa.Pure

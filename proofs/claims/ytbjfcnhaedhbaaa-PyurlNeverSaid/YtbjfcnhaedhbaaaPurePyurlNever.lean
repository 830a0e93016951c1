/- PyurlNever answers true for every text, place and byte number: of a text of at most 300 bytes without brackets pyurl.Parse refuses nothing, what is told has no tab, line feed or carriage return, and such a byte put anywhere changes nothing (no conditions but the row's size bound). -/
import Derived.OpenShut
import Derived.Test.YtbjfcnhaedhbaaaPy
import Derived.Test.YtbjfcnhaedhbaaaZA8
namespace Go.Proofs.Ytbjfcnhaedhbaaa.Pure
open Go.RowKit Go.Proofs.Ytbjfcnhaedhbaaa.ZA Go.Proofs.YtbjfcnhaedhbaaaW.PrintWords Go.Proofs.YtbjfcnhaedhbaaaW.PrintLast Go.Proofs.Ytbjfcnhaedhbaaa.L Go.Proofs.Ytbjfcnhaedhbaaa.Str Go.Proofs.Ytbjfcnhaedhbaaa.Py

theorem awake21n (k : Nat) (hk : 100 ≤ k) : shibbolethlaw21_awake.f k = some true := at_rounds (g := fun k => shibbolethlaw21_awake.f k) shibbolethlaw21_awake.mono hk (by kernel_rfl)
/-! the plain law -/
theorem bareL_insert (a b : List UInt8) (c : UInt8) (hc : c = 9 ∨ c = 10 ∨ c = 13) : bareL (a ++ [c] ++ b) = bareL (a ++ b) := by
  have hk : keepB c = false := by rcases hc with rfl | rfl | rfl <;> rfl
  have h32 : decide (c.toNat ≤ 32) = true := by rcases hc with rfl | rfl | rfl <;> rfl
  unfold bareL
  induction a with
  | nil => simp [h32]
  | cons x a ih =>
    by_cases hx : x.toNat ≤ 32
    · simpa [hx] using ih
    · simp [hx, List.filter_cons, List.filter_append, hk]
theorem mem_cutL (l : List UInt8) (c x : UInt8) : (x ∈ (cutL l c).1 → x ∈ l) ∧ (x ∈ (cutL l c).2.1 → x ∈ l) := by
  unfold cutL
  exact ⟨fun h => (List.takeWhile_sublist _).mem h, fun h => (List.dropWhile_sublist _).mem (List.mem_of_mem_drop h)⟩
theorem mem_behindLast (c x : UInt8) (l : List UInt8) (h : x ∈ behindLast c l) : x ∈ l := by
  unfold behindLast at h
  exact List.mem_reverse.1 ((List.takeWhile_sublist _).mem (List.mem_reverse.1 h))
theorem mem_hostL (a : List UInt8) (x : UInt8) (h : x ∈ (hostL a).1) : x ∈ a := by
  unfold hostL at h
  split at h
  · exact mem_behindLast _ _ _ ((mem_cutL _ _ _).2 ((mem_cutL _ _ _).1 h))
  · exact mem_behindLast _ _ _ ((mem_cutL _ _ _).1 h)
theorem mem_tellL (r : List UInt8) (x : UInt8) (h : x ∈ (tellL r).2.1 ∨ x ∈ (tellL r).2.2) : x ∈ r := by
  unfold tellL at h
  split at h
  · split at h
    · rcases h with h | h
      · exact List.mem_of_mem_drop ((List.takeWhile_sublist _).mem (mem_hostL _ _ h))
      · exact List.mem_of_mem_drop ((List.dropWhile_sublist _).mem ((List.takeWhile_sublist _).mem h))
    · simp at h
  · rcases h with h | h
    · simp at h
    · exact (List.takeWhile_sublist _).mem h
theorem mem_restL (b : List UInt8) (x : UInt8) (h : x ∈ restL b) : x ∈ b := by
  unfold restL at h
  split at h
  · exact (List.dropWhile_sublist _).mem (List.mem_of_mem_drop h)
  · exact h
theorem mem_bareL (l : List UInt8) (x : UInt8) (h : x ∈ bareL l) : x ∈ l ∧ keepB x = true := by
  unfold bareL at h
  rw [List.mem_filter] at h
  exact ⟨(List.dropWhile_sublist _).mem h.1, h.2⟩
theorem told_kept (w : List UInt8) (x : UInt8) (h : x ∈ (parseL w).2.1 ∨ x ∈ (parseL w).2.2) : keepB x = true := (mem_bareL _ _ (mem_restL _ _ (mem_tellL _ _ h))).2
theorem host_refused (a : List UInt8) (h : (hostL a).2 = false) : 91 ∈ a ∨ 93 ∈ a := by
  unfold hostL at h
  split at h
  · rename_i h91; exact .inl (mem_behindLast _ _ _ (by simpa using h91))
  · refine .inr (mem_behindLast 64 _ _ ?_)
    simpa using h
theorem tell_refused (r : List UInt8) (h : (tellL r).1 = false) : tellL r = (false, [], []) ∧ (91 ∈ r ∨ 93 ∈ r) := by
  unfold tellL at h ⊢
  split
  · rename_i hp
    rw [if_pos hp] at h
    split
    · rename_i ho; rw [if_pos ho] at h; exact absurd h (by simp)
    · rename_i ho
      refine ⟨rfl, ?_⟩
      have := host_refused _ (by simpa using ho)
      rcases this with h1 | h1
      · exact .inl (List.mem_of_mem_drop ((List.takeWhile_sublist _).mem h1))
      · exact .inr (List.mem_of_mem_drop ((List.takeWhile_sublist _).mem h1))
  · rename_i hp; rw [if_neg hp] at h; exact absurd h (by simp)
theorem parse_refused (w : List UInt8) (h : (parseL w).1 = false) : parseL w = (false, [], []) ∧ (91 ∈ w ∨ 93 ∈ w) := by
  obtain ⟨h1, h2⟩ := tell_refused _ h
  refine ⟨h1, ?_⟩
  rcases h2 with h2 | h2
  · exact .inl (mem_bareL _ _ (mem_restL _ _ h2)).1
  · exact .inr (mem_bareL _ _ (mem_restL _ _ h2)).1
def isBr (c : UInt8) : Bool := c == 91 || c == 93

/-! the loops -/
theorem never_l0 (w : List UInt8) (hw : Sm w) (x1 x2 : Int) (ok : Bool) (H P : ByteArray) (h1 : (w.any isBr) = false → ok = true) (h2 : ok = false → H.toList = [] ∧ P.toList = []) :
    ∀ (d i k : Nat) (b : Bool), i + d = w.length → (b || (w.drop i).any isBr) = w.any isBr →
    shibbolethlaw21_PyurlNever.l0 (k + d + 1) (S w) x1 x2 b (i : Int) ok H P = shibbolethlaw21_PyurlNever.j1 k (S w) x1 x2 false ok H P
  | 0, i, k, b, h, hb => by
    rw [List.drop_of_length_le (by omega)] at hb
    simp at hb
    simp only [shibbolethlaw21_PyurlNever.l0]
    rw [if_neg (by rw [S_size]; omega)]
    by_cases hok : ok = true
    · subst hok
      simp
    · have hof : ok = false := by simpa using hok
      obtain ⟨e1, e2⟩ := h2 hof
      have hbt : b = true := by
        rw [hb]
        cases hany : w.any isBr with
        | true => rfl
        | false => exact absurd (h1 hany) hok
      subst hbt
      subst hof
      simp [e1, e2]
  | d + 1, i, k, b, h, hb => by
    have hlt : i < w.length := by omega
    have hd : w.drop i = w[i] :: w.drop (i + 1) := List.drop_eq_getElem_cons hlt
    have ih := fun b hb => never_l0 w hw x1 x2 ok H P h1 h2 d (i + 1) k b (by omega) hb
    rw [hd, List.any_cons] at hb
    rw [show k + (d + 1) + 1 = (k + d + 1) + 1 by omega, shibbolethlaw21_PyurlNever.l0]
    rw [if_pos (by rw [S_size]; omega), bt_S w i hlt, wrap_succ i (by unfold Sm at hw; omega)]
    have e91 : ((w[i].toNat : Int) = 91) ↔ w[i] = 91 := ⟨fun h => UInt8.toNat_inj.1 (by have : (91 : UInt8).toNat = 91 := rfl; omega), fun h => by rw [h]; rfl⟩
    have e93 : ((w[i].toNat : Int) == 93) = (w[i] == 93) := by
      rw [Bool.eq_iff_iff, beq_iff_eq, beq_iff_eq]
      exact ⟨fun h => UInt8.toNat_inj.1 (by have : (93 : UInt8).toNat = 93 := rfl; omega), fun h => by rw [h]; rfl⟩
    by_cases hbt : b = true
    · subst hbt
      rw [if_pos rfl]
      exact ih true (by simpa using hb)
    · have hbf : b = false := by simpa using hbt
      subst hbf
      rw [if_neg (by decide), if_pos (by omega)]
      by_cases h91 : w[i] = 91
      · rw [if_pos (e91.2 h91)]
        refine ih true ?_
        rw [← hb, h91]
        rfl
      · rw [if_neg (mt e91.1 h91), e93]
        refine ih _ ?_
        have : isBr w[i] = (w[i] == 93) := by unfold isBr; have : (w[i] == 91) = false := by rw [beq_eq_false_iff_ne]; exact h91
                                              rw [this, Bool.false_or]
        rw [← hb, this, Bool.false_or]
theorem never_l1 (t : List UInt8) (ht : t.length ≤ 140737488355000) (hk : ∀ x ∈ t, keepB x = true) (x0 : ByteArray) (x1 x2 : Int) (ok : Bool) (H P : ByteArray) : ∀ (d i k : Nat), i + d = t.length →
    shibbolethlaw21_PyurlNever.l1 (k + d) x0 x1 x2 (S t) (i : Int) ok H P = shibbolethlaw21_PyurlNever.l1 k x0 x1 x2 (S t) (t.length : Int) ok H P
  | 0, i, k, h => by rw [Nat.add_zero, show i = t.length by omega]
  | d + 1, i, k, h => by
    have hlt : i < t.length := by omega
    have kt := keep_tests t[i]
    have hb := hk t[i] (List.getElem_mem _)
    have hn : ¬ ((t[i].toNat : Int) = 9 ∨ (t[i].toNat : Int) = 10 ∨ (t[i].toNat : Int) = 13) := fun h => by rw [kt.1 h] at hb; exact absurd hb (by decide)
    rw [show k + (d + 1) = (k + d) + 1 by omega, shibbolethlaw21_PyurlNever.l1]
    rw [if_pos (by rw [S_size]; omega), if_pos (by omega), bt_S t i hlt, if_neg (fun h => hn (.inl h)), if_neg (fun h => hn (.inr (.inl h))), if_neg (fun h => hn (.inr (.inr h))), wrap_succ i (by omega)]
    exact never_l1 t ht hk x0 x1 x2 ok H P d (i + 1) k (by omega)
theorem pick (n : Nat) (h : n < 3) : ∃ c : UInt8, (c = 9 ∨ c = 10 ∨ c = 13) ∧ rdOf ByteArray.empty [(⟨#[9]⟩ : ByteArray), (⟨#[10]⟩ : ByteArray), (⟨#[13]⟩ : ByteArray)] (n : Int) = S [c] := by
  rcases (show n = 0 ∨ n = 1 ∨ n = 2 by omega) with rfl | rfl | rfl
  · exact ⟨9, .inl rfl, rfl⟩
  · exact ⟨10, .inr (.inl rfl), rfl⟩
  · exact ⟨13, .inr (.inr rfl), rfl⟩
theorem told_len (w : List UInt8) : (parseL w).2.1.length + (parseL w).2.2.length ≤ 2 * w.length := by
  have hb := bareL_len w
  have h1 := restL_len (bareL w)
  have hh : ∀ a : List UInt8, (hostL a).1.length ≤ a.length := by
    intro a
    have hbl : (behindLast 64 a).length ≤ a.length := by rw [← behindLast_eq]; simp
    unfold hostL
    split
    · have q1 := (cutL_len (behindLast 64 a) 91).2
      have q2 := (cutL_len (cutL (behindLast 64 a) 91).2.1 93).1
      show (cutL (cutL (behindLast 64 a) 91).2.1 93).1.length ≤ _
      omega
    · have q1 := (cutL_len (behindLast 64 a) 58).1
      show (cutL (behindLast 64 a) 58).1.length ≤ _
      omega
  unfold parseL
  generalize restL (bareL w) = r at *
  unfold tellL
  split
  · split
    · have q1 := hh ((r.drop 2).takeWhile noSQF)
      have q2 : ((r.drop 2).takeWhile noSQF).length ≤ r.length := Nat.le_trans (List.takeWhile_prefix _).length_le (by simp)
      have q3 : (((r.drop 2).dropWhile noSQF).takeWhile noQF).length ≤ r.length := Nat.le_trans (List.takeWhile_prefix _).length_le (Nat.le_trans (List.dropWhile_suffix _).length_le (by simp))
      show (hostL ((r.drop 2).takeWhile noSQF)).1.length + (((r.drop 2).dropWhile noSQF).takeWhile noQF).length ≤ 2 * w.length
      omega
    · simp
  · have q3 : (r.takeWhile noQF).length ≤ r.length := (List.takeWhile_prefix _).length_le
    show 0 + (r.takeWhile noQF).length ≤ 2 * w.length
    omega
theorem tmod3 (x2 : Int) (c1 : 0 ≤ x2) : Int.tmod x2 3 = ((x2.toNat % 3 : Nat) : Int) := by rw [Int.tmod_eq_emod_of_nonneg c1]; omega
theorem tmodn (x1 : Int) (b1 : 0 ≤ x1) (n : Nat) : Int.tmod x1 (n : Int) = ((x1.toNat % n : Nat) : Int) := by
  rw [Int.tmod_eq_emod_of_nonneg b1]
  obtain ⟨m, rfl⟩ : ∃ m : Nat, x1 = m := ⟨x1.toNat, by omega⟩
  rw [Int.toNat_natCast]
  exact (Int.natCast_emod _ _).symm
theorem never_end (w : List UInt8) (hlen : ¬ (w.length : Int) > 300) (x1 x2 : Int) (b1 : 0 ≤ x1) (b2 : x1 ≤ 65535) (c1 : 0 ≤ x2) (ok : Bool) (H P : List UInt8) (hpl : parseL w = (ok, H, P))
    (hkept : ∀ x, x ∈ H ++ P → keepB x = true) (hlenH : H.length + P.length ≤ 2 * w.length) :
    shibbolethlaw21_PyurlNever.l1 (19 * w.length + 1998) (S w) x1 x2 (S (H ++ P)) 0 ok (S H) (S P) = some true := by
  have l1 := never_l1 (H ++ P) (by simp; omega) hkept (S w) x1 x2 ok (S H) (S P) (H ++ P).length 0 (19 * w.length + 1998 - (H ++ P).length) (by omega)
  rw [show ((0 : Nat) : Int) = 0 from rfl, show 19 * w.length + 1998 - (H ++ P).length + (H ++ P).length = 19 * w.length + 1998 by simp; omega] at l1
  rw [l1]
  obtain ⟨K, hK⟩ : ∃ K, 19 * w.length + 1998 - (H ++ P).length = K + 1 := ⟨19 * w.length + 1998 - (H ++ P).length - 1, by simp; omega⟩
  have hKge : 2 * w.length + 500 < K := by simp at hK; omega
  rw [hK, shibbolethlaw21_PyurlNever.l1]
  rw [if_neg (by rw [S_size]; omega)]
  refine Option.bind_eq_some_iff.2 ⟨_, rfl, ?_⟩
  have m1 := tmod3 x2 c1
  have m2 : wrap64 ((w.length : Int) + 1) = ((w.length + 1 : Nat) : Int) := wrap_succ _ (by omega)
  have m3 : wrap64 x1 = x1 := wrap_id (by omega) (by omega)
  have m4 := tmodn x1 b1 (w.length + 1)
  rw [S_size, m1, m2, m3, m4]
  clear m1 m2 m3 m4
  have hk := Nat.mod_lt x1.toNat (Nat.succ_pos w.length)
  obtain ⟨c, hc, hrd⟩ := pick (x2.toNat % 3) (Nat.mod_lt _ (by decide))
  rw [hrd]
  have h3 : x2.toNat % 3 < 3 := Nat.mod_lt _ (by decide)
  generalize x2.toNat % 3 = j at *
  generalize x1.toNat % (w.length + 1) = k at *
  rw [if_pos (by omega), if_pos (by simp; omega), if_neg (by omega), if_pos (by omega), if_pos (by omega), Int.toNat_natCast]
  rw [if_pos (by rw [S_upto, S_size, S_size]; simp; omega), S_upto, S_append, ← S_size w, S_from, if_pos (by rw [S_size, S_size]; simp; omega), S_append]
  have hsm : Sm (w.take k ++ [c] ++ w.drop k) := by unfold Sm; simp; omega
  have hpar : parseL (w.take k ++ [c] ++ w.drop k) = (ok, H, P) := by
    rw [← hpl]
    unfold parseL
    rw [bareL_insert _ _ _ hc, List.take_append_drop]
  have hpe := Py.Parse_ev _ hsm K (by simp; omega)
  rw [hpar] at hpe
  refine Option.bind_eq_some_iff.2 ⟨_, hpe, ?_⟩
  rw [if_pos (by simp [toB]), awake21n K (by omega)]
  rfl
theorem PyurlNever : shibbolethlaw21_PyurlNever.Pure := by
  intro a x1 x2 h hx1 hx2
  obtain ⟨w, rfl⟩ := S_surj a
  have hw : Sm w := h
  obtain ⟨b1, b2⟩ := bounds_u16 hx1
  obtain ⟨c1, _⟩ := bounds_u8 hx2
  have haw := fun k hk => awake21n k hk
  have hp := fun k hk => Py.Parse_ev w hw k hk
  refine ⟨20 * w.length + 2000, ?_⟩
  unfold shibbolethlaw21_PyurlNever.f
  by_cases hlen : ((S w).size : Int) > 300
  · rw [if_pos hlen, haw _ (by omega)]
    rfl
  · rw [if_neg hlen]
    rw [S_size] at hlen
    obtain ⟨ok, H, P, hpl⟩ : ∃ ok H P, parseL w = (ok, H, P) := ⟨_, _, _, rfl⟩
    have hp2 : ∀ k, 2 * w.length + 2 < k → pyurl_Parse.f k (S w) = some (ok, S H, S P) := fun k hk => by rw [hp k hk, hpl]; rfl
    have hr : ok = false → H = [] ∧ P = [] ∧ (91 ∈ w ∨ 93 ∈ w) := by
      intro hf
      subst hf
      obtain ⟨e, m⟩ := parse_refused w (by rw [hpl])
      rw [hpl] at e
      injection e with _ e
      injection e with e1 e2
      exact ⟨e1, e2, m⟩
    have hkept : ∀ x, x ∈ H ++ P → keepB x = true := by
      intro x hx
      have := told_kept w x
      rw [hpl] at this
      exact this (List.mem_append.1 hx)
    have hlenH : H.length + P.length ≤ 2 * w.length := by
      have := told_len w
      rw [hpl] at this
      exact this
    refine Option.bind_eq_some_iff.2 ⟨_, hp2 _ (by omega), ?_⟩
    clear hp2 hp
    have l0 := never_l0 w hw x1 x2 ok (S H) (S P)
      (fun hn => by
        cases hf : ok with
        | true => rfl
        | false =>
          rw [List.any_eq_false] at hn
          rcases (hr hf).2.2 with h1 | h1
          · exact absurd rfl (hn 91 h1)
          · exact absurd rfl (hn 93 h1))
      (fun hf => by rw [S_toList, S_toList]; exact ⟨(hr hf).1, (hr hf).2.1⟩)
      w.length 0 (19 * w.length + 1999) false (by omega) (by rw [List.drop_zero]; rfl)
    rw [show ((0 : Nat) : Int) = 0 from rfl] at l0
    rw [show 20 * w.length + 2000 = 19 * w.length + 1999 + w.length + 1 by omega, l0]
    rw [show 19 * w.length + 1999 = (19 * w.length + 1998) + 1 by omega, shibbolethlaw21_PyurlNever.j1]
    rw [if_neg (by decide), if_pos (by simp only [S_size]; omega), S_append]
    exact never_end w hlen x1 x2 b1 b2 c1 ok H P hpl hkept hlenH
end Go.Proofs.Ytbjfcnhaedhbaaa.Pure

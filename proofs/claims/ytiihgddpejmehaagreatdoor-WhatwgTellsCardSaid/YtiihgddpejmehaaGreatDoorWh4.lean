/- What the document's answer of layer 18 tells, in the same lists' words: hosts, and the whole. -/
import Derived.Test.YtiihgddpejmehaaGreatDoorWh3
import Derived.Test.YtiihgddpejmehaaGreatDoorZA10
import Derived.Test.YtiihgddpejmehaaGreatDoorZA11
import Derived.Test.YtiihgddpejmehaaGreatDoorZA12
import Derived.Test.YtiihgddpejmehaaGreatDoorZA13
namespace Go.Proofs.YtiihgddpejmehaaGreatDoor.Wh
open Go.RowKit Go.Proofs.YtiihgddpejmehaaGreatDoorW.PrintWords Go.Proofs.YtiihgddpejmehaaGreatDoor.L Go.Proofs.YtiihgddpejmehaaGreatDoor.Str Go.Proofs.YtiihgddpejmehaaGreatDoor.ZA

/-! small letters -/
def lowB (c : UInt8) : UInt8 := if 65 ≤ c.toNat ∧ c.toNat ≤ 90 then c + 32 else c
theorem decL_high (b : UInt8) (t : List UInt8) (hb : ¬ b.toNat < 128) : 128 ≤ (Lib.decodeL (b :: t)).1 := by
  rw [Lib.decodeL_N]
  have h0 : ((b :: t).getD 0 0) = b := rfl
  rw [h0]
  rcases Lib.decodeN_shape (b :: t).length b.toNat ((b :: t).getD 1 0).toNat ((b :: t).getD 2 0).toNat ((b :: t).getD 3 0).toNat with ⟨c, e⟩ | ⟨c1, c2, c3, cv, e⟩ | ⟨c1, c2, c3, c4, cv, cs, e⟩ | ⟨c1, c2, c3, c4, c5, cv, cw, e⟩ | e
  · exact absurd c hb
  all_goals (rw [e]; dsimp only; omega)
theorem enc_low (n : Nat) (h : n < 128) : Lib.encodeRune (n : Int) = [UInt8.ofNat n] := by
  unfold Lib.encodeRune
  rw [Lib.encodeRuneZ_one (by omega) (by omega)]
  simp
theorem enc_high (r : Int) (h : 128 ≤ r) : ∃ c ∈ Lib.encodeRune r, ¬ c.toNat < 128 := by
  have key : ∃ x ∈ Lib.encodeRuneZ r, 128 ≤ x := by
    unfold Lib.encodeRuneZ
    rw [if_neg (by omega)]
    split
    · exact ⟨_, List.mem_cons_self .., by omega⟩
    · split
      · exact ⟨_, List.mem_cons_self .., by omega⟩
      · split
        · exact ⟨_, List.mem_cons_self .., by omega⟩
        · exact ⟨_, List.mem_cons_self .., by omega⟩
  obtain ⟨x, hx, h1⟩ := key
  have h2 := (Lib.encodeRuneZ_byte r x hx).2
  refine ⟨x.toNat.toUInt8, List.mem_map.2 ⟨x, hx, rfl⟩, ?_⟩
  have : (x.toNat.toUInt8).toNat = x.toNat % 256 := by simp
  omega
theorem lowB_nat (b : UInt8) (hb : b.toNat < 128) : whatwg_Special.fold (b.toNat : Int) = ((lowB b).toNat : Int) ∧ (lowB b).toNat < 128 := by
  unfold whatwg_Special.fold lowB
  by_cases h : 65 ≤ b.toNat ∧ b.toNat ≤ 90
  · have h2 : (b + 32).toNat = b.toNat + 32 := by rw [UInt8.toNat_add]; show (b.toNat + 32) % 256 = _; omega
    rw [if_pos (by omega), if_pos h, h2]
    exact ⟨by omega, by omega⟩
  · rw [if_neg (by omega), if_neg h]
    exact ⟨rfl, hb⟩
theorem mapD_cons (b : UInt8) (t : List UInt8) (hb : b.toNat < 128) : Lib.mapD whatwg_Special.fold (b :: t) = lowB b :: Lib.mapD whatwg_Special.fold t := by
  obtain ⟨h1, h2⟩ := lowB_nat b hb
  rw [Lib.mapD_step whatwg_Special.fold _ (by simp), Lib.decodeL_ascii b t hb]
  dsimp only
  rw [h1, if_pos (by omega), enc_low _ h2, UInt8.ofNat_toNat]
  rfl
theorem mapD_ascii : ∀ l : List UInt8, (∀ c ∈ l, c.toNat < 128) → Lib.mapD whatwg_Special.fold l = l.map lowB
  | [], _ => rfl
  | b :: t, h => by
    rw [mapD_cons b t (h b (List.mem_cons_self ..)), mapD_ascii t (fun c hc => h c (List.mem_cons_of_mem _ hc)), List.map_cons]
theorem mapD_high : ∀ (n : Nat) (l : List UInt8), l.length ≤ n → (∃ c ∈ l, ¬ c.toNat < 128) → ∃ c ∈ Lib.mapD whatwg_Special.fold l, ¬ c.toNat < 128
  | _, [], _, h => by obtain ⟨c, hc, _⟩ := h; cases hc
  | 0, b :: t, hn, _ => by simp at hn
  | n + 1, b :: t, hn, h => by
    by_cases hb : b.toNat < 128
    · obtain ⟨c, hc, h1⟩ := h
      have hct : c ∈ t := by
        rcases List.mem_cons.1 hc with e | e
        · rw [e] at h1; exact absurd hb h1
        · exact e
      obtain ⟨d, hd, h2⟩ := mapD_high n t (by simp at hn; omega) ⟨c, hct, h1⟩
      rw [mapD_cons b t hb]
      exact ⟨d, List.mem_cons_of_mem _ hd, h2⟩
    · have hr := decL_high b t hb
      have hf : whatwg_Special.fold ((Lib.decodeL (b :: t)).1 : Int) = ((Lib.decodeL (b :: t)).1 : Int) := by unfold whatwg_Special.fold; rw [if_neg (by omega)]
      obtain ⟨c, hc, h1⟩ := enc_high ((Lib.decodeL (b :: t)).1 : Int) (by omega)
      rw [Lib.mapD_step whatwg_Special.fold _ (by simp), hf, if_pos (by omega)]
      exact ⟨c, List.mem_append_left _ hc, h1⟩
theorem specs_low : ∀ m ∈ specs, ∀ c ∈ m, c.toNat < 128 := by decide
theorem lowB_high (c : UInt8) (h : ¬ c.toNat < 128) : ¬ (lowB c).toNat < 128 := by unfold lowB; rw [if_neg (by omega)]; exact h
theorem specL_map (l : List UInt8) : specL l = specs.contains (l.map lowB) := by
  unfold specL
  by_cases h : ∀ c ∈ l, c.toNat < 128
  · rw [mapD_ascii l h]
  · have hx : ∃ c ∈ l, ¬ c.toNat < 128 := by simpa using h
    have key : ∀ m, (∃ c ∈ m, ¬ c.toNat < 128) → specs.contains m = false := by
      rintro m ⟨c, hc, h1⟩
      rw [Bool.eq_false_iff]
      intro h2
      exact h1 (specs_low m (by simpa using h2) c hc)
    obtain ⟨c, hc, h1⟩ := hx
    rw [key _ (mapD_high l.length l (Nat.le_refl _) ⟨c, hc, h1⟩), key _ ⟨lowB c, List.mem_map.2 ⟨c, hc, rfl⟩, lowB_high c h1⟩]
theorem one_byte (c : UInt8) : strOfNums ([(c.toNat : Int)] : List Int) = S [c] := by
  have : UInt8.ofNat c.toNat = c := by simp
  show S [UInt8.ofNat c.toNat] = S [c]
  rw [this]
theorem rLower_l0 (s : List UInt8) (hs : Sm s) : ∀ (d i k : Nat) (o : List UInt8), i + d = s.length → o.length = i → d < k → shibbolethref18_Lower.l0 k (S s) (S o) (i : Int) = some (S (o ++ (s.drop i).map lowB))
  | 0, i, k, o, h, ho, hk => by
    obtain ⟨k, rfl⟩ : ∃ m, k = m + 1 := ⟨k - 1, by omega⟩
    rw [shibbolethref18_Lower.l0, if_neg (by rw [S_size]; omega), List.drop_of_length_le (by omega)]
    simp
  | d + 1, i, k, o, h, ho, hk => by
    obtain ⟨k, rfl⟩ : ∃ m, k = m + 1 := ⟨k - 1, by omega⟩
    have hlt : i < s.length := by omega
    have hsz := hs
    unfold Sm at hsz
    have ih := rLower_l0 s hs d (i + 1) k (o ++ [lowB s[i]]) (by omega) (by simp; omega) (by omega)
    have hd : s.drop i = s[i] :: s.drop (i + 1) := List.drop_eq_getElem_cons hlt
    have hsz2 : (S o).size + (S [lowB s[i]]).size ≤ 9223372036854775807 := by rw [S_size, S_size, List.length_singleton]; omega
    have hfin : shibbolethref18_Lower.l0 k (S s) (S o ++ S [lowB s[i]]) (wrap64 ((i : Int) + 1)) = some (S (o ++ (s.drop i).map lowB)) := by
      rw [S_append, wrap_succ i (by omega), ih, hd, List.map_cons, List.append_assoc]
      rfl
    rw [shibbolethref18_Lower.l0, if_pos (by rw [S_size]; omega), if_pos (by omega), bt_S s i hlt]
    by_cases h1 : (s[i].toNat : Int) ≥ 65
    · rw [if_pos h1]
      by_cases h2 : (s[i].toNat : Int) ≤ 90
      · have e : lowB s[i] = s[i] + 32 := by unfold lowB; rw [if_pos ⟨by omega, by omega⟩]
        have e2 : strOfNums ([((s[i].toNat : Int) + 32) % 256] : List Int) = S [lowB s[i]] := by
          have h3 : (s[i] + 32).toNat = s[i].toNat + 32 := by rw [UInt8.toNat_add]; show (s[i].toNat + 32) % 256 = _; omega
          have h4 : ((s[i].toNat : Int) + 32) % 256 = (((s[i] + 32).toNat : Nat) : Int) := by omega
          rw [h4, one_byte, e]
        rw [if_pos h2]
        refine Option.bind_eq_some_iff.2 ⟨_, rfl, ?_⟩
        rw [e2, if_pos hsz2]
        exact hfin
      · have e : lowB s[i] = s[i] := by unfold lowB; rw [if_neg (by omega)]
        rw [if_neg h2]
        refine Option.bind_eq_some_iff.2 ⟨_, rfl, ?_⟩
        rw [one_byte]
        rw [e] at hfin hsz2
        rw [if_pos hsz2]
        exact hfin
    · have e : lowB s[i] = s[i] := by unfold lowB; rw [if_neg (by omega)]
      rw [if_neg h1]
      refine Option.bind_eq_some_iff.2 ⟨_, rfl, ?_⟩
      rw [one_byte]
      rw [e] at hfin hsz2
      rw [if_pos hsz2]
      exact hfin
theorem rSpecial_ev (s : List UInt8) (hs : Sm s) (k : Nat) (hk : s.length < k) : shibbolethref18_Special.f k (S s) = some (specL s) := by
  unfold shibbolethref18_Special.f
  have hL : shibbolethref18_Lower.f k (S s) = some (S (s.map lowB)) := rLower_l0 s hs s.length 0 k [] (by omega) rfl hk
  refine Option.bind_eq_some_iff.2 ⟨_, hL, ?_⟩
  rw [specL_map, S_toList]
  generalize s.map lowB = m
  unfold specs
  by_cases h1 : m = [102, 116, 112]
  · rw [if_pos h1, h1]; rfl
  rw [if_neg h1]
  by_cases h2 : m = [104, 116, 116, 112]
  · rw [if_pos h2, h2]; rfl
  rw [if_neg h2]
  by_cases h3 : m = [104, 116, 116, 112, 115]
  · rw [if_pos h3, h3]; rfl
  rw [if_neg h3]
  by_cases h4 : m = [119, 115]
  · rw [if_pos h4, h4]; rfl
  rw [if_neg h4]
  by_cases h5 : m = [119, 115, 115]
  · rw [h5]; rfl
  have e5 : (m == [119, 115, 115]) = false := beq_eq_false_iff_ne.2 h5
  rw [e5]
  simp [h1, h2, h3, h4, h5]

/-! a host -/
/-- What stands between two places. -/
abbrev mid (s : List UInt8) (a b : Nat) : List UInt8 := (s.take b).drop a
theorem mid_len (s : List UInt8) (a b : Nat) (hb : b ≤ s.length) : (mid s a b).length = b - a := by
  rw [List.length_drop, List.length_take]; omega
theorem mid_get (s : List UInt8) (a b j : Nat) (hb : b ≤ s.length) (hj : a + j < b) : (mid s a b)[j]'(by rw [mid_len s a b hb]; omega) = s[a + j]'(by omega) := by
  rw [List.getElem_drop, List.getElem_take]
theorem mid_drop (s : List UInt8) (a b j : Nat) : (mid s a b).drop j = mid s (a + j) b := by rw [List.drop_drop]
theorem mid_cons (s : List UInt8) (a b : Nat) (hb : b ≤ s.length) (h : a < b) : mid s a b = s[a]'(by omega) :: mid s (a + 1) b := by
  have h1 : a < (s.take b).length := by rw [List.length_take]; omega
  show (s.take b).drop a = _ :: (s.take b).drop (a + 1)
  rw [List.drop_eq_getElem_cons h1, List.getElem_take]
theorem mid_ext (s : List UInt8) (a b n : Nat) (hn : a + n ≤ b) : (S s).extract a (a + n) = S ((mid s a b).take n) := by
  rw [S_extract]
  congr 1
  show _ = ((s.take b).drop a).take n
  rw [List.drop_take, List.take_take]
  congr 1
  omega
def bracketN (t : List UInt8) (f : Nat) : Int :=
  match t.dropWhile hexC with
  | [] => -1
  | c :: _ => if c == 93 && !(t.takeWhile hexC).isEmpty then ((f + 1 + (t.takeWhile hexC).length + 1 : Nat) : Int) else -1
theorem rBracket_l0 (s : List UInt8) (hs : Sm s) (f z : Nat) (hz : z ≤ s.length) (hf : f < z) : ∀ (d j k : Nat), f + 1 + j + d = z → d + 50 < k → ((mid s (f + 1) z).take j).all hexC = true →
    shibbolethref18_Bracket.l0 k (S s) (f : Int) (z : Int) ((f + 1 + j : Nat) : Int) = some (bracketN (mid s (f + 1) z) f)
  | 0, j, k, h, hk, hj => by
    obtain ⟨k, rfl⟩ : ∃ m, k = m + 1 := ⟨k - 1, by omega⟩
    have hl := mid_len s (f + 1) z hz
    have e : (mid s (f + 1) z).dropWhile hexC = [] := by
      rw [List.take_of_length_le (by omega)] at hj
      have := List.dropWhile_append_of_pos (l₂ := []) (List.all_eq_true.1 hj)
      simpa using this
    have hsz := hs
    unfold Sm at hsz
    have hB : bracketN (mid s (f + 1) z) f = -1 := by unfold bracketN; rw [e]
    rw [shibbolethref18_Bracket.l0, if_neg (by omega), hB, wrap_succ f (by omega)]
    by_cases hz : ((f + 1 + j : Nat) : Int) = ((f + 1 : Nat) : Int)
    · rw [if_pos hz]
    · rw [if_neg hz, if_pos (by omega)]
  | d + 1, j, k, h, hk, hj => by
    obtain ⟨k, rfl⟩ : ∃ m, k = m + 1 := ⟨k - 1, by omega⟩
    have hl := mid_len s (f + 1) z hz
    have hlt : f + 1 + j < s.length := by omega
    have hjt : j < (mid s (f + 1) z).length := by omega
    have hg : (mid s (f + 1) z)[j] = s[f + 1 + j] := mid_get s (f + 1) z j hz (by omega)
    have hsz := hs
    unfold Sm at hsz
    have h58 : (58 : UInt8).toNat = 58 := rfl
    have h46 : (46 : UInt8).toNat = 46 := rfl
    have h93 : (93 : UInt8).toNat = 93 := rfl
    have hd : (mid s (f + 1) z).drop j = s[f + 1 + j] :: (mid s (f + 1) z).drop (j + 1) := by rw [List.drop_eq_getElem_cons hjt, hg]
    have es : mid s (f + 1) z = (mid s (f + 1) z).take j ++ s[f + 1 + j] :: (mid s (f + 1) z).drop (j + 1) := by rw [← hd, List.take_append_drop]
    obtain ⟨v, hv, hvx⟩ := rValue_ev s[f + 1 + j] k (by omega)
    rw [shibbolethref18_Bracket.l0, if_pos (by omega), if_pos (by omega), if_pos (by rw [S_size]; omega), bt_S s (f + 1 + j) hlt, wrap_succ (f + 1 + j) (by omega), wrap_succ f (by omega)]
    refine Option.bind_eq_some_iff.2 ⟨_, hv, ?_⟩
    by_cases hc : hexC s[f + 1 + j] = true
    · have ih := rBracket_l0 s hs f z hz hf d (j + 1) k (by omega) (by omega) (by rw [List.take_succ_eq_append_getElem hjt, List.all_append, hj, List.all_cons, hg, hc]; rfl)
      have e : ((f + 1 + j + 1 : Nat) : Int) = ((f + 1 + (j + 1) : Nat) : Int) := by omega
      rw [e, ih]
      by_cases h1 : hexB s[f + 1 + j] = true
      · rw [if_pos (hvx.2 h1)]
      · rw [if_neg (fun h => h1 (hvx.1 h))]
        unfold hexC at hc
        rw [Bool.eq_false_iff.2 h1, Bool.false_or, Bool.or_eq_true, beq_iff_eq, beq_iff_eq] at hc
        rcases hc with hc | hc
        · rw [if_pos (by rw [hc]; rfl)]
        · rw [hc, if_neg (by decide), if_pos (by decide)]
    · have hcf : hexC s[f + 1 + j] = false := Bool.eq_false_iff.2 hc
      have h1 : ¬ v ≥ 0 := fun h => hc (by unfold hexC; rw [hvx.1 h]; rfl)
      have n58 : ¬ (s[f + 1 + j].toNat : Int) = 58 := fun h => hc (by rw [(eqNat s[f + 1 + j] 58).2 (by omega)]; decide)
      have n46 : ¬ (s[f + 1 + j].toNat : Int) = 46 := fun h => hc (by rw [(eqNat s[f + 1 + j] 46).2 (by omega)]; decide)
      have e1 : (mid s (f + 1) z).takeWhile hexC = (mid s (f + 1) z).take j := by
        conv => lhs; rw [es]
        rw [List.takeWhile_append_of_pos (List.all_eq_true.1 hj), List.takeWhile_cons, if_neg hc, List.append_nil]
      have e2 : (mid s (f + 1) z).dropWhile hexC = s[f + 1 + j] :: (mid s (f + 1) z).drop (j + 1) := by
        conv => lhs; rw [es]
        rw [List.dropWhile_append_of_pos (List.all_eq_true.1 hj), List.dropWhile_cons, if_neg hc]
      have hB : bracketN (mid s (f + 1) z) f = if s[f + 1 + j] == 93 && !((mid s (f + 1) z).take j).isEmpty then ((f + 1 + j + 1 : Nat) : Int) else -1 := by
        unfold bracketN
        rw [e2, e1]
        have : ((mid s (f + 1) z).take j).length = j := by rw [List.length_take]; omega
        rw [this]
      rw [if_neg h1, if_neg n58, if_neg n46, hB]
      cases j with
      | zero => rw [if_pos (by omega)]; simp
      | succ j =>
        have hne : ((mid s (f + 1) z).take (j + 1)).isEmpty = false := by
          cases hm : mid s (f + 1) z with
          | nil => rw [hm] at hjt; simp at hjt
          | cons _ _ => rfl
        rw [if_neg (by omega), if_neg (by omega), hne]
        by_cases h9 : s[f + 1 + (j + 1)] = 93
        · rw [if_pos (by rw [h9]; rfl), if_pos (by rw [h9]; rfl)]
        · have : (s[f + 1 + (j + 1)] == 93) = false := beq_eq_false_iff_ne.2 h9
          rw [if_neg (fun h => h9 ((eqNat _ _).2 (by omega))), this]
          rfl
theorem rPort_l0 (s : List UInt8) (hs : Sm s) (e z : Nat) (hz : z ≤ s.length) (he : e < z) : ∀ (d i k : Nat), i + d = z → d < k → e < i →
    shibbolethref18_Port.l0 k (S s) (e : Int) (z : Int) (i : Int) = some (s[e]'(by omega) == 58 && (mid s i z).all digitB)
  | 0, i, k, h, hk, hi => by
    obtain ⟨k, rfl⟩ : ∃ m, k = m + 1 := ⟨k - 1, by omega⟩
    have hem : mid s i z = [] := List.drop_of_length_le (by rw [List.length_take]; omega)
    have hlt : e < s.length := by omega
    have h58 : (58 : UInt8).toNat = 58 := rfl
    rw [shibbolethref18_Port.l0, if_neg (by omega), if_pos (by omega), if_pos (by rw [S_size]; omega), bt_S s e hlt, hem]
    congr 1
    rw [List.all_nil, Bool.and_true]
    by_cases hc : s[e] = 58
    · rw [hc]; rfl
    · have h1 : (s[e] == 58) = false := beq_eq_false_iff_ne.2 hc
      rw [h1, beq_eq_false_iff_ne]
      exact fun h => hc ((eqNat _ _).2 (by omega))
  | d + 1, i, k, h, hk, hi => by
    obtain ⟨k, rfl⟩ : ∃ m, k = m + 1 := ⟨k - 1, by omega⟩
    have hlt : i < s.length := by omega
    have hsz := hs
    unfold Sm at hsz
    rw [shibbolethref18_Port.l0, if_pos (by omega), if_pos (by omega), if_pos (by rw [S_size]; omega), bt_S s i hlt, wrap_succ i (by omega), mid_cons s i z hz (by omega), List.all_cons]
    refine Option.bind_eq_some_iff.2 ⟨_, rDigit_eq _, ?_⟩
    by_cases hD : digitB s[i] = true
    · rw [if_pos hD, rPort_l0 s hs e z hz he d (i + 1) k (by omega) (by omega) (by omega), hD, Bool.true_and]
    · rw [if_neg hD, Bool.eq_false_iff.2 hD, Bool.false_and, Bool.and_false]
theorem rPort_ev (s : List UInt8) (hs : Sm s) (e z : Nat) (hz : z ≤ s.length) (he : e ≤ z) (k : Nat) (hk : s.length < k) : shibbolethref18_Port.f k (S s) (e : Int) (z : Int) = some (portL (mid s e z)) := by
  unfold shibbolethref18_Port.f
  have hsz := hs
  unfold Sm at hsz
  by_cases h : e = z
  · subst h
    have hem : mid s e e = [] := List.drop_of_length_le (by rw [List.length_take]; omega)
    rw [if_pos rfl, hem]; rfl
  · rw [if_neg (by omega), wrap_succ e (by omega), rPort_l0 s hs e z hz (by omega) (z - (e + 1)) (e + 1) k (by omega) (by omega) (by omega), mid_cons s e z hz (by omega)]
    rfl
def hostN (p : List UInt8) : List UInt8 × Bool := if (splitL p).2.2 = true ∧ portL (splitL p).2.1 = true then ((splitL p).1, true) else ([], false)
def bar11 : List UInt8 := [35, 47, 60, 62, 63, 64, 91, 92, 93, 94, 124]
theorem bar_iff (c : UInt8) (h : c ≠ 58) : barB c = (decide (c.toNat ≤ 32) || (c == 127) || bar11.contains c) := by
  have h2 := all_bytes (p := fun n => (UInt8.ofNat n == 58) || (barB (UInt8.ofNat n) == (decide ((UInt8.ofNat n).toNat ≤ 32) || (UInt8.ofNat n == 127) || bar11.contains (UInt8.ofNat n)))) (by kernel_rfl) c
  rw [UInt8.ofNat_toNat] at h2
  have h3 : (c == 58) = false := beq_eq_false_iff_ne.2 h
  rw [h3, Bool.false_or] at h2
  exact eq_of_beq h2
theorem nb_not58 (c : UInt8) (h : nb c = true) : c ≠ 58 := by rintro rfl; revert h; decide
theorem rHost_l1 (s : List UInt8) (hs : Sm s) (f z : Nat) (hz : z ≤ s.length) (hf : f < z) : ∀ (d j k : Nat), f + j + d = z → d * 2 + s.length + 60 < k → ((mid s f z).take j).all nb = true →
    shibbolethref18_host.l1 k (S s) (f : Int) (z : Int) ((f + j : Nat) : Int) = some (if (namedL (mid s f z)).2.2 = true ∧ portL (namedL (mid s f z)).2.1 = true then (S (namedL (mid s f z)).1, true) else (S [], false)) := by
  intro d
  induction d with
  | zero =>
    intro j k h hk hj
    obtain ⟨k, rfl⟩ : ∃ m, k = m + 2 := ⟨k - 2, by omega⟩
    have hl := mid_len s f z hz
    have hjl : (mid s f z).take j = mid s f z := List.take_of_length_le (by omega)
    rw [hjl] at hj
    have hno : ∀ c ∈ mid s f z, (fun x : UInt8 => !(x == 58)) c = true := fun c hc => by simpa using nb_not58 c (List.all_eq_true.1 hj c hc)
    have e1 : headL (mid s f z) = mid s f z := by
      unfold headL
      have := List.takeWhile_append_of_pos (l₂ := []) hno
      simpa using this
    have e2 : (mid s f z).dropWhile (fun x => !(x == 58)) = [] := by
      have := List.dropWhile_append_of_pos (l₂ := []) hno
      simpa using this
    have hN : namedL (mid s f z) = (mid s f z, [], true) := by
      unfold namedL
      rw [e1, if_pos hj, e2]
      cases hm : mid s f z with
      | nil => rw [hm] at hl; simp at hl; omega
      | cons _ _ => rfl
    have hx := mid_ext s f z j (by omega)
    rw [hjl] at hx
    have hz2 : z = f + j := by omega
    rw [shibbolethref18_host.l1, if_neg (by omega), shibbolethref18_host.j2, if_neg (by decide), if_neg (by omega)]
    have hp := rPort_ev s hs (f + j) z hz (by omega) k (by omega)
    have hem : mid s (f + j) z = [] := List.drop_of_length_le (by rw [List.length_take]; omega)
    rw [hem] at hp
    refine Option.bind_eq_some_iff.2 ⟨_, hp, ?_⟩
    have hpn : portL [] = true := rfl
    rw [if_pos hpn, if_pos (by omega), if_pos (by omega), if_pos (by rw [S_size]; omega), Int.toNat_natCast, Int.toNat_natCast, hx, hN, if_pos ⟨rfl, hpn⟩]
  | succ d ih =>
    intro j k h hk hj
    obtain ⟨k, rfl⟩ : ∃ m, k = m + 2 := ⟨k - 2, by omega⟩
    have hl := mid_len s f z hz
    have hlt : f + j < s.length := by omega
    have hjt : j < (mid s f z).length := by omega
    have hg : (mid s f z)[j] = s[f + j] := mid_get s f z j hz (by omega)
    have hsz := hs
    unfold Sm at hsz
    have h58 : (58 : UInt8).toNat = 58 := rfl
    have h127 : (127 : UInt8).toNat = 127 := rfl
    have hno : ∀ c ∈ (mid s f z).take j, (fun x : UInt8 => !(x == 58)) c = true := fun c hc => by simpa using nb_not58 c (List.all_eq_true.1 hj c hc)
    have hd : (mid s f z).drop j = s[f + j] :: (mid s f z).drop (j + 1) := by rw [List.drop_eq_getElem_cons hjt, hg]
    have es : mid s f z = (mid s f z).take j ++ s[f + j] :: (mid s f z).drop (j + 1) := by rw [← hd, List.take_append_drop]
    rw [shibbolethref18_host.l1, if_pos (by omega), if_pos (by omega), if_pos (by rw [S_size]; omega), bt_S s (f + j) hlt, shibbolethref18_host.j2]
    by_cases hc : s[f + j] = 58
    · have e0 : ((s[f + j].toNat : Int) != 58) = false := by rw [hc]; rfl
      have e1 : headL (mid s f z) = (mid s f z).take j := by
        unfold headL
        conv => lhs; rw [es]
        rw [List.takeWhile_append_of_pos hno, List.takeWhile_cons, if_neg (by rw [hc]; decide), List.append_nil]
      have e2 : (mid s f z).dropWhile (fun x => !(x == 58)) = mid s (f + j) z := by
        conv => lhs; rw [es]
        rw [List.dropWhile_append_of_pos hno, List.dropWhile_cons, if_neg (by rw [hc]; decide), ← hd, mid_drop]
      have hN : namedL (mid s f z) = ((mid s f z).take j, mid s (f + j) z, !((mid s f z).take j).isEmpty) := by
        unfold namedL
        rw [e1, if_pos hj, e2]
      rw [e0, if_neg (by decide), hN]
      cases j with
      | zero => rw [if_pos (by omega), if_neg (by simp)]; rfl
      | succ j =>
        have hne : ((mid s f z).take (j + 1)).isEmpty = false := by
          cases hm : mid s f z with
          | nil => rw [hm] at hjt; simp at hjt
          | cons _ _ => rfl
        rw [if_neg (by omega), hne]
        refine Option.bind_eq_some_iff.2 ⟨_, rPort_ev s hs (f + (j + 1)) z hz (by omega) k (by omega), ?_⟩
        have hx := mid_ext s f z (j + 1) (by omega)
        by_cases hP : portL (mid s (f + (j + 1)) z) = true
        · rw [if_pos hP, if_pos (by omega), if_pos (by omega), if_pos (by rw [S_size]; omega), Int.toNat_natCast, Int.toNat_natCast, hx, if_pos ⟨rfl, hP⟩]
        · rw [if_neg hP, if_neg (fun h => hP h.2)]; rfl
    · have e0 : ((s[f + j].toNat : Int) != 58) = true := by
        have : (s[f + j].toNat : Int) ≠ 58 := fun h => hc ((eqNat _ _).2 (by omega))
        simpa using this
      have hbar := bar_iff s[f + j] hc
      have hbad : barB s[f + j] = true → (if (namedL (mid s f z)).2.2 = true ∧ portL (namedL (mid s f z)).2.1 = true then (S (namedL (mid s f z)).1, true) else (S [], false)) = ((⟨#[]⟩ : ByteArray), false) := by
        intro hb
        have hN : namedL (mid s f z) = ([], [], false) := by
          unfold namedL
          rw [if_neg]
          intro hall
          have e1 : headL (mid s f z) = (mid s f z).take j ++ s[f + j] :: ((mid s f z).drop (j + 1)).takeWhile fun x => !(x == 58) := by
            unfold headL
            conv => lhs; rw [es]
            rw [List.takeWhile_append_of_pos hno, List.takeWhile_cons, if_pos (by simpa using hc)]
          have := List.all_eq_true.1 hall s[f + j] (by rw [e1]; simp)
          unfold nb at this
          rw [hb] at this
          cases this
        rw [hN, if_neg (by simp)]
        rfl
      rw [e0, if_pos rfl, if_pos (by omega), if_pos (by rw [S_size]; omega), bt_S s (f + j) hlt]
      by_cases h32 : s[f + j].toNat ≤ 32
      · rw [if_pos (by omega), hbad (by rw [hbar, decide_eq_true h32]; rfl)]
      · rw [if_neg (by omega)]
        by_cases h7 : s[f + j] = 127
        · rw [if_pos (by rw [h7]; rfl), hbad (by rw [hbar, h7]; rfl)]
        · rw [if_neg (fun h => h7 ((eqNat _ _).2 (by omega)))]
          refine Option.bind_eq_some_iff.2 ⟨_, In_ev s[f + j] bar11 (by decide) k (by show 11 < k; omega), ?_⟩
          by_cases hI : bar11.contains s[f + j] = true
          · rw [if_pos hI, hbad (by rw [hbar, hI, Bool.or_true])]
          · have hnb : nb s[f + j] = true := by
              have h7b : (s[f + j] == 127) = false := beq_eq_false_iff_ne.2 h7
              unfold nb
              rw [hbar, decide_eq_false h32, h7b, Bool.eq_false_iff.2 hI]
              rfl
            rw [if_neg hI, wrap_succ (f + j) (by omega)]
            exact ih (j + 1) k (by omega) (by omega) (by rw [List.take_succ_eq_append_getElem hjt, List.all_append, hj, List.all_cons, hg, hnb]; rfl)
theorem rHost_l0 (s : List UInt8) (hs : Sm s) (a z : Nat) (hz : z ≤ s.length) (ha : a ≤ z) : ∀ (d i f k : Nat), i + d = z → d + 3 * s.length + 70 < k → a ≤ i → f ≤ i → (s.take i).drop f = behindLast 64 ((s.take i).drop a) →
    shibbolethref18_host.l0 k (S s) (f : Int) (z : Int) (i : Int) = some (S (hostL (mid s a z)).1, (hostL (mid s a z)).2) := by
  intro d
  induction d with
  | zero =>
    intro i f k h hk hai hfi hf
    obtain ⟨k, rfl⟩ : ∃ m, k = m + 1 := ⟨k - 1, by omega⟩
    have hit : i = z := by omega
    subst hit
    have hp : placeL (mid s a i) = mid s f i := hf.symm
    unfold hostL
    rw [hp]
    have hsz := hs
    unfold Sm at hsz
    rw [shibbolethref18_host.l0, if_neg (by omega)]
    by_cases hfe : f = i
    · have hem : mid s f i = [] := List.drop_of_length_le (by rw [List.length_take]; omega)
      rw [if_pos (by omega), hem, if_neg (by decide)]
      rfl
    · have hlt : f < s.length := by omega
      have hmc := mid_cons s f i hz (by omega)
      rw [if_neg (by omega), if_pos (by omega), if_pos (by rw [S_size]; omega), bt_S s f hlt]
      by_cases h91 : s[f] = 91
      · rw [if_pos (by rw [h91]; rfl)]
        have hsp : splitL (mid s f i) = inL (mid s (f + 1) i) := by rw [hmc, h91]; rfl
        have hB : shibbolethref18_Bracket.f k (S s) (f : Int) (i : Int) = some (bracketN (mid s (f + 1) i) f) := by
          unfold shibbolethref18_Bracket.f
          rw [wrap_succ f (by omega)]
          exact rBracket_l0 s hs f i hz (by omega) (i - (f + 1)) 0 k (by omega) (by omega) rfl
        rw [hsp]
        have hml := mid_len s (f + 1) i hz
        have htd := List.takeWhile_append_dropWhile (p := hexC) (l := mid s (f + 1) i)
        have hbad : bracketN (mid s (f + 1) i) f = -1 → inL (mid s (f + 1) i) = ([], [], false) →
            ((shibbolethref18_Bracket.f k (S s) (f : Int) (i : Int)).bind fun t308 => (if t308 ≤ (f : Int) then (some ((⟨#[]⟩ : ByteArray), false)) else ((shibbolethref18_Port.f k (S s) t308 (i : Int)).bind fun t309 => (if t309 = true then (if (f : Int) ≤ t308 then (if t308 ≤ ((S s).size : Int) then (some ((S s).extract (f : Int).toNat (t308 : Int).toNat, true)) else (none)) else (none)) else (some ((⟨#[]⟩ : ByteArray), false)))))) =
            some (S (if (inL (mid s (f + 1) i)).2.2 = true ∧ portL (inL (mid s (f + 1) i)).2.1 = true then ((inL (mid s (f + 1) i)).1, true) else ([], false)).1, (if (inL (mid s (f + 1) i)).2.2 = true ∧ portL (inL (mid s (f + 1) i)).2.1 = true then ((inL (mid s (f + 1) i)).1, true) else ([], false)).2) := by
          intro h1 h2
          rw [h1] at hB
          refine Option.bind_eq_some_iff.2 ⟨_, hB, ?_⟩
          rw [if_pos (by omega), h2, if_neg (by simp)]
          rfl
        cases hdw : (mid s (f + 1) i).dropWhile hexC with
        | nil => exact hbad (by unfold bracketN; rw [hdw]) (by unfold inL; rw [hdw])
        | cons c r =>
          by_cases hcc : (c == 93 && !((mid s (f + 1) i).takeWhile hexC).isEmpty) = true
          · have hc93 : c = 93 := by rw [Bool.and_eq_true, beq_iff_eq] at hcc; exact hcc.1
            have hI : inL (mid s (f + 1) i) = (91 :: ((mid s (f + 1) i).takeWhile hexC ++ [93]), r, true) := by unfold inL; rw [hdw]; exact if_pos hcc
            have hBn : bracketN (mid s (f + 1) i) f = ((f + 1 + ((mid s (f + 1) i).takeWhile hexC).length + 1 : Nat) : Int) := by unfold bracketN; rw [hdw]; exact if_pos hcc
            rw [hBn] at hB
            rw [hdw] at htd
            have hlen := congrArg List.length htd
            rw [List.length_append, List.length_cons, hml] at hlen
            rw [hI]
            clear hI hBn hcc hbad
            generalize (mid s (f + 1) i).takeWhile hexC = h at *
            have hr : mid s (f + 1 + (h.length + 1)) i = r := by
              rw [← mid_drop, ← htd, List.drop_append]
              simp
            have hxx : (mid s f i).take (h.length + 2) = 91 :: (h ++ [93]) := by
              rw [hmc, h91, List.take_succ_cons, ← htd, List.take_append, List.take_of_length_le (by omega), hc93]
              simp
            have hx := mid_ext s f i (h.length + 2) (by omega)
            rw [hxx] at hx
            generalize h.length = n at *
            refine Option.bind_eq_some_iff.2 ⟨_, hB, ?_⟩
            rw [if_neg (by omega)]
            refine Option.bind_eq_some_iff.2 ⟨_, rPort_ev s hs (f + 1 + n + 1) i hz (by omega) k (by omega), ?_⟩
            rw [show mid s (f + 1 + n + 1) i = r from hr]
            by_cases hP : portL r = true
            · rw [if_pos hP, if_pos (by omega), if_pos (by rw [S_size]; omega), Int.toNat_natCast, Int.toNat_natCast, show f + 1 + n + 1 = f + (n + 2) from by omega, hx, if_pos ⟨rfl, hP⟩]
            · rw [if_neg hP, if_neg (fun h => hP h.2)]; rfl
          · exact hbad (by unfold bracketN; rw [hdw]; exact if_neg hcc) (by unfold inL; rw [hdw]; exact if_neg hcc)
      · have h91n : ¬ (s[f].toNat : Int) = 91 := fun h => h91 ((eqNat s[f] 91).2 (by have : (91 : UInt8).toNat = 91 := rfl; omega))
        rw [if_neg h91n]
        have hsp : splitL (mid s f i) = namedL (mid s f i) := by
          rw [hmc]
          unfold splitL
          split
          · rename_i t e
            exact absurd (List.cons.inj e).1 h91
          · rfl
        have := rHost_l1 s hs f i hz (by omega) (i - f) 0 k (by omega) (by omega) rfl
        rw [hsp]
        refine this.trans ?_
        split <;> rfl
  | succ d ih =>
    intro i f k h hk hai hfi hf
    obtain ⟨k, rfl⟩ : ∃ m, k = m + 1 := ⟨k - 1, by omega⟩
    have hlt : i < s.length := by omega
    have hsz := hs
    unfold Sm at hsz
    have h64 : (64 : UInt8).toNat = 64 := rfl
    rw [shibbolethref18_host.l0, if_pos (by omega), if_pos (by omega), if_pos (by rw [S_size]; omega), bt_S s i hlt, wrap_succ i (by omega)]
    have e : (s.take (i + 1)).drop a = (s.take i).drop a ++ [s[i]] := drop_take_snoc s a i hlt hai
    by_cases hc : s[i] = 64
    · rw [if_pos (by rw [hc]; rfl)]
      refine ih (i + 1) (i + 1) k (by omega) (by omega) (by omega) (Nat.le_refl _) ?_
      rw [e, hc, behindLast_snoc, List.drop_of_length_le (by rw [List.length_take]; omega)]
    · rw [if_neg (fun h => hc ((eqNat _ _).2 (by omega)))]
      refine ih (i + 1) f k (by omega) (by omega) (by omega) (by omega) ?_
      rw [e, behindLast_other hc, ← hf, drop_take_snoc s f i hlt hfi]
theorem rHost_ev (s : List UInt8) (hs : Sm s) (a z : Nat) (hz : z ≤ s.length) (ha : a ≤ z) (k : Nat) (hk : 4 * s.length + 80 < k) : shibbolethref18_host.f k (S s) (a : Int) (z : Int) = some (S (hostL (mid s a z)).1, (hostL (mid s a z)).2) := by
  refine rHost_l0 s hs a z hz ha (z - a) a a k (by omega) (by omega) (Nat.le_refl _) (Nat.le_refl _) ?_
  rw [List.drop_of_length_le (by rw [List.length_take]; omega)]
  rfl

/-! the whole -/
theorem mid_fi (s : List UInt8) (a n : Nat) : mid s a (a + n) = (s.drop a).take n := by
  show (s.take (a + n)).drop a = _
  rw [List.drop_take]; congr 1; omega
theorem ext_fi (s : List UInt8) (a n : Nat) : (S s).extract a (a + n) = S ((s.drop a).take n) := by
  rw [S_extract]; congr 2; omega
theorem fi_bound (s m : List UInt8) (a : Nat) (ha : a ≤ s.length) : a + fi (fun c => m.contains c) (s.drop a) ≤ s.length := by
  have := fi_le (fun c => m.contains c) (s.drop a)
  rw [List.length_drop] at this
  omega
/-- The path from a place on. -/
theorem rPath (s : List UInt8) (hs : Sm s) (a k : Nat) (ha : a ≤ s.length) (hk : s.length + 10 < k) (b : Bool) (h : ByteArray) :
    ((shibbolethref18_First.f k (S s) (a : Int) (S [63, 35])).bind fun t => (if 0 ≤ (a : Int) then (if (a : Int) ≤ t then (if t ≤ ((S s).size : Int) then (some (b, h, (S s).extract (a : Int).toNat (t : Int).toNat)) else (none)) else (none)) else (none))) = some (b, h, S ((s.drop a).takeWhile nq)) := by
  refine Option.bind_eq_some_iff.2 ⟨_, First_ev s [63, 35] hs (by decide) a k ha (by simp only [List.length_cons, List.length_nil]; omega), ?_⟩
  have hb := fi_bound s [63, 35] a ha
  rw [if_pos (by omega), if_pos (by omega), if_pos (by rw [S_size]; omega), Int.toNat_natCast, Int.toNat_natCast, ext_fi, take_fi]
  rfl
theorem rAuth (s m : List UInt8) (hs : Sm s) (hm : m.length ≤ 10) (a k : Nat) (ha : a ≤ s.length) (hk : 4 * s.length + 90 < k) :
    ∃ e : Nat, e ≤ s.length ∧ a ≤ e ∧ s.drop e = (s.drop a).dropWhile (nm m) ∧ (a < e ↔ ¬ (s.drop a).takeWhile (nm m) = []) ∧
      shibbolethref18_First.f k (S s) (a : Int) (S m) = some (e : Int) ∧ shibbolethref18_host.f k (S s) (a : Int) (e : Int) = some (S (hostL ((s.drop a).takeWhile (nm m))).1, (hostL ((s.drop a).takeWhile (nm m))).2) := by
  have hb := fi_bound s m a ha
  refine ⟨a + fi (fun c => m.contains c) (s.drop a), hb, by omega, ?_, ?_, First_ev s m hs (by unfold Sm; omega) a k ha (by omega), ?_⟩
  · rw [← List.drop_drop, drop_fi]; rfl
  · have h1 : (s.drop a).takeWhile (nm m) = (s.drop a).take (fi (fun c => m.contains c) (s.drop a)) := (take_fi _ _).symm
    have hl : ((s.drop a).takeWhile (nm m)).length = fi (fun c => m.contains c) (s.drop a) := by
      rw [h1, List.length_take]
      have := fi_le (fun c => m.contains c) (s.drop a)
      omega
    constructor
    · intro h h0
      rw [h0, List.length_nil] at hl
      omega
    · intro h
      have : 0 < ((s.drop a).takeWhile (nm m)).length := List.length_pos_iff.2 h
      omega
  · rw [rHost_ev s hs a _ hb (by omega) k (by omega), mid_fi, take_fi]
    rfl
theorem rParse_j1 (s : List UInt8) (hs : Sm s) (a k : Nat) (ha : a ≤ s.length) (hk : 4 * s.length + 90 < k) : shibbolethref18_Parse.j1 (k + 1) (S s) (a : Int) true (S []) (S []) = some (out (restL true true [47, 92, 63, 35] (s.drop a))) := by
  obtain ⟨e, he, hae, hde, hlt, hF, hH⟩ := rAuth s [47, 92, 63, 35] hs (by decide) a k ha hk
  rw [shibbolethref18_Parse.j1]
  refine Option.bind_eq_some_iff.2 ⟨_, hF, Option.bind_eq_some_iff.2 ⟨_, hH, ?_⟩⟩
  unfold restL
  rw [if_pos rfl]
  have hp := fun b h => rPath s hs e k he (by omega) b h
  rw [hde] at hp
  by_cases hok : (hostL ((s.drop a).takeWhile (nm [47, 92, 63, 35]))).2 = true
  · rw [if_pos hok, if_pos hok]
    exact hp _ _
  · rw [if_neg hok, if_neg hok, if_pos rfl]
    rfl
theorem rParse_l0 (s : List UInt8) (hs : Sm s) : ∀ (d a k : Nat), a + d = s.length → d + 4 * s.length + 100 < k → shibbolethref18_Parse.l0 k (S s) (a : Int) true (S []) (S []) = some (out (restL true true [47, 92, 63, 35] ((s.drop a).dropWhile sl2)))
  | 0, a, k, h, hk => by
    obtain ⟨k, rfl⟩ : ∃ m, k = m + 2 := ⟨k - 2, by omega⟩
    rw [shibbolethref18_Parse.l0, if_neg (by rw [S_size]; omega), rParse_j1 s hs a k (by omega) (by omega), List.drop_of_length_le (show s.length ≤ a by omega)]
    rfl
  | d + 1, a, k, h, hk => by
    obtain ⟨k, rfl⟩ : ∃ m, k = m + 2 := ⟨k - 2, by omega⟩
    have hlt : a < s.length := by omega
    have hsz := hs
    unfold Sm at hsz
    have hd : s.drop a = s[a] :: s.drop (a + 1) := List.drop_eq_getElem_cons hlt
    have h47 : (47 : UInt8).toNat = 47 := rfl
    have h92 : (92 : UInt8).toNat = 92 := rfl
    have ih := rParse_l0 s hs d (a + 1) (k + 1) (by omega) (by omega)
    rw [shibbolethref18_Parse.l0, if_pos (by rw [S_size]; omega), if_pos (by omega), bt_S s a hlt, wrap_succ a (by omega), rParse_j1 s hs a k (by omega) (by omega), ih]
    by_cases h1 : s[a] = 47
    · rw [if_pos (by rw [h1]; rfl), hd, List.dropWhile_cons, if_pos (by rw [h1]; decide)]
    · rw [if_neg (fun h => h1 ((eqNat _ _).2 (by omega)))]
      by_cases h2 : s[a] = 92
      · rw [if_pos (by rw [h2]; rfl), hd, List.dropWhile_cons, if_pos (by rw [h2]; decide)]
      · rw [if_neg (fun h => h2 ((eqNat _ _).2 (by omega)))]
        have hns : ¬ sl2 s[a] = true := by unfold sl2; simp [h1, h2]
        have e : (s.drop a).dropWhile sl2 = s.drop a := by rw [hd, List.dropWhile_cons, if_neg hns]
        rw [e]
theorem rParse_j2 (s : List UInt8) (hs : Sm s) (a k : Nat) (hk : 4 * s.length + 90 < k) (b : Bool) (ha : if b = true then a + 2 ≤ s.length else a ≤ s.length) :
    shibbolethref18_Parse.j2 (k + 1) (S s) (a : Int) b true (S []) (S []) = some (out (if b = true then restL false true [47, 63, 35] (s.drop (a + 2)) else restL false false [47, 63, 35] (s.drop a))) := by
  have hsz := hs
  unfold Sm at hsz
  rw [shibbolethref18_Parse.j2]
  cases b
  · rw [if_neg (by decide), if_neg (by decide)]
    rw [if_neg (by decide)] at ha
    exact rPath s hs a k ha (by omega) true (S [])
  · rw [if_pos rfl, if_pos rfl]
    rw [if_pos rfl] at ha
    obtain ⟨e, he, hae, hde, hlt, hF, hH⟩ := rAuth s [47, 63, 35] hs (by decide) (a + 2) k ha hk
    have hw : wrap64 ((a : Int) + 2) = ((a + 2 : Nat) : Int) := by rw [wrap_id (by omega) (by omega)]; omega
    rw [hw]
    refine Option.bind_eq_some_iff.2 ⟨_, hF, Option.bind_eq_some_iff.2 ⟨_, hH, ?_⟩⟩
    unfold restL
    rw [if_pos rfl]
    have hp := fun b h => rPath s hs e k he (by omega) b h
    rw [hde] at hp
    by_cases hok : (hostL ((s.drop (a + 2)).takeWhile (nm [47, 63, 35]))).2 = true
    · rw [if_pos hok, if_pos hok]
      exact hp _ _
    · rw [if_neg hok, if_neg hok, if_neg (show ¬ false = true by decide)]
      by_cases hem : (s.drop (a + 2)).takeWhile (nm [47, 63, 35]) = []
      · have hnl : ¬ a + 2 < e := fun h => hlt.1 h hem
        rw [if_neg (by omega), if_pos hem]
        exact hp _ _
      · have hnl := hlt.2 hem
        rw [if_pos (by omega), if_neg hem]
        rfl
theorem scheme_cut (s : List UInt8) (h : (schemeL s).2.2 = true) : ∃ r, s = (schemeL s).1 ++ 58 :: r ∧ (schemeL s).2.1 = r := by
  unfold schemeL at h ⊢
  split at h
  · rename_i hc
    rw [if_pos hc]
    have hm : s.contains 58 = true := hc.1
    have h3 := List.takeWhile_append_dropWhile (p := fun x => !(x == (58 : UInt8))) (l := s)
    have h4 : ∃ r, s.dropWhile (fun x => !(x == (58 : UInt8))) = 58 :: r := by
      clear h hc h3
      induction s with
      | nil => simp at hm
      | cons c t ih =>
        by_cases e : c = 58
        · exact ⟨t, by rw [List.dropWhile_cons, if_neg (by rw [e]; decide), e]⟩
        · rw [List.dropWhile_cons, if_pos (by simp [e])]
          refine ih ?_
          simp at hm ⊢
          rcases hm with hm | hm
          · exact absurd hm.symm e
          · exact hm
    obtain ⟨r, hr⟩ := h4
    refine ⟨r, ?_, ?_⟩
    · show s = s.takeWhile (fun x => !(x == 58)) ++ 58 :: r
      rw [← hr]; exact h3.symm
    · show (s.dropWhile (fun x => !(x == 58))).drop 1 = r
      rw [hr]; rfl
  · simp at h
theorem rParse_ev (l : List UInt8) (hl : l.length ≤ 100000) (k : Nat) (hk : 6 * l.length + 200 < k) : shibbolethref18_Parse.f k (S l) = some (out (parseL l)) := by
  have ht := textL_le l
  unfold shibbolethref18_Parse.f parseL toldL
  refine Option.bind_eq_some_iff.2 ⟨_, rText_ev l (by unfold Sm; omega) k (by omega), ?_⟩
  generalize textL l = s at *
  have hs : Sm s := by unfold Sm; omega
  refine Option.bind_eq_some_iff.2 ⟨_, rScheme_ev s hs k (by omega), ?_⟩
  unfold schemeN
  by_cases hok : (schemeL s).2.2 = true
  · obtain ⟨r, hr, hr2⟩ := scheme_cut s hok
    rw [if_pos hok, if_pos hok, if_neg (by omega), if_pos (by omega), hr2]
    generalize (schemeL s).1 = A at *
    have hlen := congrArg List.length hr
    rw [List.length_append, List.length_cons] at hlen
    have hdr : s.drop (A.length + 1) = r := by
      rw [hr, List.drop_append]
      simp
    have htk : (S s).extract 0 A.length = S A := by
      rw [S_upto]
      conv => lhs; rw [hr]
      rw [List.take_left']
      rfl
    rw [if_pos (by rw [S_size]; omega), Int.toNat_natCast, htk]
    refine Option.bind_eq_some_iff.2 ⟨_, rSpecial_ev A (by unfold Sm; omega) k (by omega), ?_⟩
    rw [wrap_succ A.length (by omega), wrap_succ (A.length + 1) (by omega)]
    unfold behindL
    by_cases hsp : specL A = true
    · rw [if_pos hsp, if_pos hsp]
      have := rParse_l0 s hs (s.length - (A.length + 1)) (A.length + 1) k (by omega) (by omega)
      rw [hdr] at this
      exact this
    · rw [if_neg hsp, if_neg hsp]
      obtain ⟨k, rfl⟩ : ∃ m, k = m + 1 := ⟨k - 1, by omega⟩
      have hj := rParse_j2 s hs (A.length + 1) k (by omega)
      rw [hdr] at hj
      by_cases h2 : A.length + 2 < s.length
      · obtain ⟨x, y, z, hz⟩ : ∃ x y z, r = x :: y :: z := by
          match r, hlen with
          | [], hlen => simp at hlen; omega
          | [x], hlen => simp at hlen; omega
          | x :: y :: z, _ => exact ⟨x, y, z, rfl⟩
        have hx : s[A.length + 1] = x := by
          have h5 : s.drop (A.length + 1) = s[A.length + 1] :: s.drop (A.length + 1 + 1) := List.drop_eq_getElem_cons (by omega)
          exact (List.cons.inj (h5.symm.trans (hdr.trans hz))).1
        have hd2 : s.drop (A.length + 2) = y :: z := by
          have h5 : s.drop (A.length + 1 + 1) = (s.drop (A.length + 1)).drop 1 := by rw [List.drop_drop]
          exact h5.trans (by rw [hdr, hz]; rfl)
        have hy : s[A.length + 2] = y := by
          have h5 : s.drop (A.length + 2) = s[A.length + 2] :: s.drop (A.length + 2 + 1) := List.drop_eq_getElem_cons h2
          exact (List.cons.inj (h5.symm.trans hd2)).1
        have hb1 : bt (S s) ((A.length + 1 : Nat) : Int) = (x.toNat : Int) := by rw [bt_S s (A.length + 1) (by omega), hx]
        have hb2 : bt (S s) ((A.length + 1 + 1 : Nat) : Int) = (y.toNat : Int) := by rw [bt_S s (A.length + 1 + 1) (by omega)]; rw [← hy]
        have h47 : (47 : UInt8).toNat = 47 := rfl
        have hd3 : s.drop (A.length + 1 + 2) = r.drop 2 := by rw [← hdr, List.drop_drop]
        rw [if_pos (by rw [S_size]; omega), if_pos (by omega), if_pos (by rw [S_size]; omega), hb1, hb2]
        by_cases hx7 : x = 47
        · rw [if_pos (by rw [hx7]; rfl), if_pos (by omega)]
          by_cases hy7 : y = 47
          · have e : ((y.toNat : Int) == 47) = true := by rw [hy7]; rfl
            have hp : ([47, 47] : List UInt8).isPrefixOf r = true := by rw [hz, hx7, hy7]; simp
            rw [e]
            refine (hj true (by rw [if_pos rfl]; omega)).trans ?_
            rw [if_pos rfl, if_pos hp, hd3]
          · have e : ((y.toNat : Int) == 47) = false := by
              rw [beq_eq_false_iff_ne]; exact fun h => hy7 ((eqNat _ _).2 (by omega))
            have hp : ¬ ([47, 47] : List UInt8).isPrefixOf r = true := by
              rw [hz]; intro h; simp at h; exact hy7 h.2.symm
            rw [e]
            refine (hj false (by rw [if_neg (by decide)]; omega)).trans ?_
            rw [if_neg (by decide), if_neg hp]
        · have hp : ¬ ([47, 47] : List UInt8).isPrefixOf r = true := by
            rw [hz]; intro h; simp at h; exact hx7 h.1.symm
          rw [if_neg (fun h => hx7 ((eqNat _ _).2 (by omega)))]
          refine (hj false (by rw [if_neg (by decide)]; omega)).trans ?_
          rw [if_neg (by decide), if_neg hp]
      · have hp : ¬ ([47, 47] : List UInt8).isPrefixOf r = true := by
          intro h
          have := (List.isPrefixOf_iff_prefix.1 h).length_le
          simp at this
          omega
        rw [if_neg (by rw [S_size]; omega)]
        refine (hj false (by rw [if_neg (by decide)]; omega)).trans ?_
        rw [if_neg (by decide), if_neg hp]
  · rw [if_neg hok, if_neg hok, if_pos (by omega)]
    rfl
end Go.Proofs.YtiihgddpejmehaaGreatDoor.Wh

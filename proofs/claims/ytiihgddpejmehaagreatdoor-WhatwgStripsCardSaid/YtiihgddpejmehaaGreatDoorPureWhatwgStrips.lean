/- WhatwgStrips answers true for every text: bytes of at most 0x20 around, and tabs, LF and CR anywhere, change nothing that is told (no conditions but the row's own). -/
import Derived.Test.YtiihgddpejmehaaGreatDoorWh2
import Derived.Test.YtiihgddpejmehaaGreatDoorZA15
import Derived.Test.YtiihgddpejmehaaGreatDoorZA8
import Derived.Test.YtiihgddpejmehaaGreatDoorZA9
namespace Go.Proofs.YtiihgddpejmehaaGreatDoor.Pure
open Go.RowKit Go.Proofs.YtiihgddpejmehaaGreatDoor.ZA Go.Proofs.YtiihgddpejmehaaGreatDoorW.PrintWords Go.Proofs.YtiihgddpejmehaaGreatDoorW.PrintLast Go.Proofs.YtiihgddpejmehaaGreatDoor.L Go.Proofs.YtiihgddpejmehaaGreatDoor.Str Go.Proofs.YtiihgddpejmehaaGreatDoor.Wh

theorem awake18s (k : Nat) (hk : 100 ≤ k) : shibbolethlaw18_awake.f k = some true := at_rounds (g := fun k => shibbolethlaw18_awake.f k) shibbolethlaw18_awake.mono hk (by kernel_rfl)
theorem short18s (l : List UInt8) : shibbolethlaw18_Short.f (S l) = some (S (l.take 3000)) := by
  unfold shibbolethlaw18_Short.f
  by_cases h : l.length > 3000
  · rw [if_pos (by rw [S_size]; omega), if_pos (by decide), if_pos (by rw [S_size]; omega)]
    rw [S_upto]
  · rw [if_neg (by rw [S_size]; omega), List.take_of_length_le (by omega)]
theorem size_bound {a b : Nat} (h : a + b ≤ 9223372036854775807) {x y : ByteArray} (hx : x.size = a) (hy : y.size = b) : x.size + y.size ≤ 9223372036854775807 := by omega

/-- The pieces that are put in. -/
theorem piece (m : Nat) (hm : m < 3) : ∃ x, keep x = false ∧ (⟨#[9, 10, 13]⟩ : ByteArray).extract m (m + 1) = S [x] := by
  match m, hm with
  | 0, _ => exact ⟨9, by decide, by kernel_rfl⟩
  | 1, _ => exact ⟨10, by decide, by kernel_rfl⟩
  | 2, _ => exact ⟨13, by decide, by kernel_rfl⟩

theorem put_len (s : List UInt8) (m : Nat) (x : UInt8) (h : m ≤ s.length) : (s.take m ++ [x] ++ s.drop m).length = s.length + 1 := by
  rw [List.length_append, List.length_append, List.length_take, List.length_drop, List.length_singleton]; omega
theorem tmod3 (i : Nat) : Int.tmod (i : Int) 3 = ((i % 3 : Nat) : Int) := by
  rw [Int.tmod_eq_emod_of_nonneg (Int.natCast_nonneg i)]; exact (Int.natCast_emod i 3).symm
theorem tmodn (n m : Nat) : Int.tmod (n : Int) (m : Int) = ((n % m : Nat) : Int) := by
  rw [Int.tmod_eq_emod_of_nonneg (Int.natCast_nonneg n)]; exact (Int.natCast_emod n m).symm
theorem size_one (s : List UInt8) (h : s.length ≤ 4000) : wrap64 (((S s).size : Int) + 1) = ((s.length + 1 : Nat) : Int) := by rw [S_size]; exact wrap_succ s.length (by omega)
theorem strips_step (w s : List UInt8) (at_ : List Int) (i k : Nat) (a : Bool) (b c : ByteArray) (n : Int) (m j : Nat) (x : UInt8) (hlt : i < at_.length) (hi : i < 40) (hs : s.length ≤ 4000) (hrd : rd at_ (i : Int) = n) (hw1 : wrap64 n = n)
    (hT1 : Int.tmod n ((s.length + 1 : Nat) : Int) = (m : Int)) (hT2 : Int.tmod (i : Int) 3 = (j : Int)) (hm : m ≤ s.length) (hj : j < 3) (hpc : (⟨#[9, 10, 13]⟩ : ByteArray).extract j (j + 1) = S [x]) :
    shibbolethlaw18_WhatwgStrips.l1 (k + 1) (S w) at_ (S s) (i : Int) a b c = shibbolethlaw18_WhatwgStrips.l1 k (S w) at_ (S (s.take m ++ [x] ++ s.drop m)) ((i + 1 : Nat) : Int) a b c := by
  have hw3 : wrap64 ((j : Int) + 1) = ((j + 1 : Nat) : Int) := wrap_succ j (by omega)
  have hw4 : wrap64 ((i : Int) + 1) = ((i + 1 : Nat) : Int) := wrap_succ i (by omega)
  rw [shibbolethlaw18_WhatwgStrips.l1, if_pos (Int.ofNat_lt.2 hlt), if_pos (Int.natCast_nonneg i), hrd, hw1, size_one s hs, hT1, hT2, hw3, hw4]
  clear hrd hw1 hT1 hT2 hw3 hw4
  have h1 : ¬ ((s.length + 1 : Nat) : Int) = 0 := by omega
  have h2 : (m : Int) ≤ ((S s).size : Int) := by rw [S_size]; omega
  have h3 : (j : Int) ≤ ((j + 1 : Nat) : Int) := by omega
  have h4 : ((j + 1 : Nat) : Int) ≤ 3 := by omega
  have h5 : (S (s.take m)).size + (S [x]).size ≤ 9223372036854775807 := by rw [S_size, S_size, List.length_take, List.length_singleton]; omega
  have h6 : (S (s.take m ++ [x])).size + (S (s.drop m)).size ≤ 9223372036854775807 := by rw [S_size, S_size, List.length_append, List.length_take, List.length_singleton, List.length_drop]; omega
  rw [if_neg h1, if_pos (Int.natCast_nonneg m), if_pos h2, if_pos (Int.natCast_nonneg j), if_pos h3, if_pos h4, Int.toNat_natCast, Int.toNat_natCast, Int.toNat_natCast, hpc, S_upto, S_from, if_pos h5, S_append, if_pos h6, S_append]
theorem strips_l1 (w : List UInt8) (hw : w.length ≤ 3000) (at_ : List Int) (hat : at_.length ≤ 40) (hin : ∀ x ∈ at_, 0 ≤ x ∧ x ≤ 65535) : ∀ (d i k : Nat) (s : List UInt8), i + d = at_.length → d + 4000 < k → s.length ≤ 3000 + i → textL s = textL w →
    shibbolethlaw18_WhatwgStrips.l1 k (S w) at_ (S s) (i : Int) (parseL w).1 (S (parseL w).2.1) (S (parseL w).2.2) = some true := by
  intro d
  induction d with
  | zero =>
    intro i k s h hk hs ht
    obtain ⟨k, rfl⟩ : ∃ m, k = m + 1 := ⟨k - 1, by omega⟩
    rw [shibbolethlaw18_WhatwgStrips.l1, if_neg (by omega)]
    refine Option.bind_eq_some_iff.2 ⟨_, Parse_ev s (by omega) k (by omega), ?_⟩
    have hp : parseL s = parseL w := by unfold parseL; rw [ht]
    rw [hp]
    unfold out
    rw [if_pos (by simp)]
    have hle := textL_le w
    refine Option.bind_eq_some_iff.2 ⟨_, Text_eq w (by omega), Option.bind_eq_some_iff.2 ⟨_, Text_eq (textL w) (by omega), Option.bind_eq_some_iff.2 ⟨_, Text_eq w (by omega), ?_⟩⟩⟩
    rw [textL_idem, if_pos rfl]
    exact Option.bind_eq_some_iff.2 ⟨_, awake18s k (by omega), rfl⟩
  | succ d IH =>
    intro i k s h hk hs ht
    obtain ⟨k, rfl⟩ : ∃ m, k = m + 1 := ⟨k - 1, by omega⟩
    have hlt : i < at_.length := by omega
    have h' : i + 1 + d = at_.length := by omega
    have hk' : d + 4000 < k := by omega
    have hs' : s.length + 1 ≤ 3000 + (i + 1) := by omega
    have hi40 : i < 40 := by omega
    have hsm : s.length ≤ 4000 := by omega
    clear hk h
    obtain ⟨n, hn, hn2⟩ : ∃ n : Nat, at_[i] = (n : Int) ∧ n ≤ 65535 := by
      have := hin _ (List.getElem_mem hlt)
      exact ⟨at_[i].toNat, by omega, by omega⟩
    have hrd : rd at_ (i : Int) = (n : Int) := by
      unfold rd
      rw [Int.toNat_natCast, List.getD_eq_getElem?_getD, List.getElem?_eq_getElem hlt]
      exact hn
    have hw1 : wrap64 ((n : Nat) : Int) = (n : Int) := wrap_id (by omega) (by omega)
    obtain ⟨m, hmE, hlm⟩ : ∃ m, Aside0 (n % (s.length + 1) = m) ∧ m ≤ s.length := ⟨_, ⟨rfl⟩, Nat.le_of_lt_succ (Nat.mod_lt n (Nat.succ_pos s.length))⟩
    obtain ⟨x, hx, hpc⟩ := piece (i % 3) (Nat.mod_lt i (by decide))
    have htx : textL (s.take m ++ [x] ++ s.drop m) = textL w := (textL_put (s.take m) (s.drop m) x hx).trans ((congrArg textL (List.take_append_drop m s)).trans ht)
    have ih := IH (i + 1) k (s.take m ++ [x] ++ s.drop m) h' hk' (put_len s m x hlm ▸ hs') htx
    exact (strips_step w s at_ i k _ _ _ n m (i % 3) x hlt hi40 hsm hrd hw1 ((tmodn n (s.length + 1)).trans (by rw [hmE.out])) (tmod3 i) hlm (Nat.mod_lt i (by decide)) hpc).trans ih

theorem strips_j2 (w : List UInt8) (hw : w.length ≤ 3000) (at_ : List Int) (hat : at_.length ≤ 40) (hin : ∀ x ∈ at_, 0 ≤ x ∧ x ≤ 65535) (k : Nat) (hk : 4100 < k) :
    shibbolethlaw18_WhatwgStrips.j2 k (S w) at_ false (parseL w).1 (S (parseL w).2.1) (S (parseL w).2.2) = some true := by
  obtain ⟨k, rfl⟩ : ∃ m, k = m + 1 := ⟨k - 1, by omega⟩
  rw [shibbolethlaw18_WhatwgStrips.j2, if_neg (by decide)]
  refine Option.bind_eq_some_iff.2 ⟨_, Text_eq w (by omega), ?_⟩
  have hle := textL_le w
  exact strips_l1 w hw at_ hat hin at_.length 0 k (textL w) (by omega) (by omega) (by omega) (textL_idem w)

theorem strips_l0 (w : List UInt8) (hw : w.length ≤ 3000) (a : List UInt8) (ha : a.length ≤ 100) (at_ : List Int) (hat : at_.length ≤ 40) (hin : ∀ x ∈ at_, 0 ≤ x ∧ x ≤ 65535) : ∀ (d i k : Nat) (p : List UInt8), i + d = a.length → d + 4200 < k → p.length = i → (∀ c ∈ p, Wh.blank c = true) →
    shibbolethlaw18_WhatwgStrips.l0 k (S w) (S a) at_ (S p) (i : Int) = some true := by
  intro d
  induction d with
  | zero =>
    intro i k p h hk hp hb
    obtain ⟨k, rfl⟩ : ∃ m, k = m + 1 := ⟨k - 1, by omega⟩
    have ht : textL (p ++ w ++ p) = textL w := textL_pad p w hb
    have hq : parseL (p ++ w ++ p) = parseL w := by unfold parseL; rw [ht]
    rw [shibbolethlaw18_WhatwgStrips.l0, if_neg (by rw [S_size]; omega)]
    refine Option.bind_eq_some_iff.2 ⟨_, Parse_ev w (by omega) k (by omega), ?_⟩
    rw [if_pos (by rw [S_size, S_size]; omega), S_append, if_pos (by rw [S_size, S_size]; simp; omega), S_append]
    refine Option.bind_eq_some_iff.2 ⟨_, Parse_ev (p ++ w ++ p) (by simp; omega) k (by simp; omega), ?_⟩
    rw [hq]
    unfold out
    rw [if_neg (by simp)]
    refine Option.bind_eq_some_iff.2 ⟨_, Text_eq (p ++ w ++ p) (by simp; omega), Option.bind_eq_some_iff.2 ⟨_, Text_eq w (by omega), ?_⟩⟩
    rw [ht, bne_self_eq_false]
    exact strips_j2 w hw at_ hat hin k (by omega)
  | succ d IH =>
    intro i k p h hk hp hb
    obtain ⟨k, rfl⟩ : ∃ m, k = m + 1 := ⟨k - 1, by omega⟩
    have hlt : i < a.length := by omega
    have he : strOfNums ([((a[i].toNat % 33 : Nat) : Int)] : List Int) = S [UInt8.ofNat (a[i].toNat % 33)] := rfl
    have hbl : Wh.blank (UInt8.ofNat (a[i].toNat % 33)) = true := by
      have h1 : a[i].toNat % 33 < 33 := Nat.mod_lt _ (by omega)
      have h2 : (UInt8.ofNat (a[i].toNat % 33)).toNat = a[i].toNat % 33 := by rw [UInt8.toNat_ofNat']; omega
      exact decide_eq_true (by rw [h2]; omega)
    rw [shibbolethlaw18_WhatwgStrips.l0, if_pos (by rw [S_size]; omega), if_pos (by omega), bt_S a i hlt, show Int.tmod ((a[i].toNat : Nat) : Int) 33 = ((a[i].toNat % 33 : Nat) : Int) from by rw [Int.tmod_eq_emod_of_nonneg (by omega)]; omega]
    refine Option.bind_eq_some_iff.2 ⟨_, rfl, ?_⟩
    rw [he, if_pos (by rw [S_size, S_size]; simp; omega), S_append, wrap_succ i (by omega)]
    refine IH (i + 1) k (p ++ [UInt8.ofNat (a[i].toNat % 33)]) (by omega) (by omega) (by simp; omega) ?_
    intro c hc
    rcases List.mem_append.1 hc with hc | hc
    · exact hb c hc
    · rw [List.mem_singleton.1 hc]; exact hbl

theorem WhatwgStrips : shibbolethlaw18_WhatwgStrips.Pure := by
  intro a0 a1 at_ _ _ _ _ hin
  obtain ⟨l, rfl⟩ := S_surj a0
  obtain ⟨a, rfl⟩ := S_surj a1
  have hin' : ∀ x ∈ at_, 0 ≤ x ∧ x ≤ 65535 := fun x hx => by
    have h := hin x hx
    simp [Lit.wf, IntKind.min, IntKind.max, IntKind.signed, IntKind.bits] at h
    omega
  refine ⟨5000, ?_⟩
  unfold shibbolethlaw18_WhatwgStrips.f
  refine Option.bind_eq_some_iff.2 ⟨_, short18s l, ?_⟩
  have hw : (l.take 3000).length ≤ 3000 := by rw [List.length_take]; omega
  generalize l.take 3000 = w at *
  have hj : ∀ b : Bool, (b = false → a.length ≤ 100 ∧ at_.length ≤ 40) → shibbolethlaw18_WhatwgStrips.j0 5000 (S w) (S a) at_ b = some true := by
    intro b hb
    rw [shibbolethlaw18_WhatwgStrips.j0]
    cases b
    · rw [if_neg (by decide)]
      exact strips_l0 w hw a (hb rfl).1 at_ (hb rfl).2 hin' a.length 0 4999 [] (by omega) (by have := (hb rfl).1; omega) rfl (by simp)
    · rw [if_pos rfl]
      exact Option.bind_eq_some_iff.2 ⟨_, awake18s _ (by omega), rfl⟩
  by_cases h1 : ((S a).size : Int) > 100
  · rw [if_pos h1]; exact hj true (by simp)
  · rw [if_neg h1]
    refine hj _ (fun h => ?_)
    have h2 := of_decide_eq_false h
    rw [S_size] at h1
    omega
end Go.Proofs.YtiihgddpejmehaaGreatDoor.Pure

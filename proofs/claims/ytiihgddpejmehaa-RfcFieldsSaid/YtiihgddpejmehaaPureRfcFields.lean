/- RfcFields answers true for every text: what rfc.Parse takes of its first 3000 bytes has only bytes that may stand there, and so have host and path (no conditions but the row's size bound). -/
import Derived.Test.YtiihgddpejmehaaRfc
import Derived.Test.YtiihgddpejmehaaPureRfcSplits
import Derived.Test.YtiihgddpejmehaaZA10
import Derived.Test.YtiihgddpejmehaaZA13
namespace Go.Proofs.Ytiihgddpejmehaa.Pure
open Go.RowKit Go.Proofs.Ytiihgddpejmehaa.ZA Go.Proofs.YtiihgddpejmehaaW.PrintWords Go.Proofs.YtiihgddpejmehaaW.PrintLast Go.Proofs.Ytiihgddpejmehaa.L Go.Proofs.Ytiihgddpejmehaa.Str Go.Proofs.Ytiihgddpejmehaa.Rf

theorem awake19f (k : Nat) (hk : 100 ≤ k) : shibbolethlaw19_awake.f k = some true := at_rounds (g := fun k => shibbolethlaw19_awake.f k) shibbolethlaw19_awake.mono hk (by kernel_rfl)
/-! bytes -/
def badB (c : UInt8) : Bool := ([34, 60, 62, 92, 94, 96, 123, 124, 125] : List UInt8).contains c
def goodB (c : UInt8) : Bool := decide (33 ≤ c.toNat) && decide (c.toNat ≤ 126) && !badB c
theorem byte_imp {p q : UInt8 → Bool} (h : ((List.range 256).all fun n => !(p (UInt8.ofNat n)) || q (UInt8.ofNat n)) = true) (c : UInt8) (hc : p c = true) : q c = true := by
  have h5 := all_bytes (p := fun n => !(p (UInt8.ofNat n)) || q (UInt8.ofNat n)) h c
  rw [UInt8.ofNat_toNat, hc] at h5
  exact h5
/-- What may stand in a name. -/
def nameB (c : UInt8) : Bool := plainB c || ([58, 64, 47, 63, 37] : List UInt8).contains c
theorem name_good (c : UInt8) (h : nameB c = true) : goodB c = true := byte_imp (p := nameB) (q := goodB) (by kernel_rfl) c h
def hostByte (c : UInt8) : Bool := plainB c || c == 37
theorem host_free (c : UInt8) (h : hostByte c = true) : ([47, 63, 35, 64, 58, 91, 93] : List UInt8).contains c = false := by
  have := byte_imp (p := hostByte) (q := fun c => !([47, 63, 35, 64, 58, 91, 93] : List UInt8).contains c) (by kernel_rfl) c h
  simpa using this
def litByte (c : UInt8) : Bool := plainB c || hexB c || c == 58
theorem lit_free (c : UInt8) (h : litByte c = true) : ([47, 63, 35, 64, 37, 91, 93] : List UInt8).contains c = false := by
  have := byte_imp (p := litByte) (q := fun c => !([47, 63, 35, 64, 37, 91, 93] : List UInt8).contains c) (by kernel_rfl) c h
  simpa using this
theorem lit_good (c : UInt8) (h : litByte c = true) : goodB c = true := byte_imp (p := litByte) (q := goodB) (by kernel_rfl) c h
theorem named_parts {l m : List UInt8} (h : namedL l m = true) : validL l = true ∧ ∀ x ∈ l, plainB x = true ∨ x ∈ m ∨ x = 37 := by
  unfold namedL at h
  rw [Bool.and_eq_true] at h
  refine ⟨h.1, fun x hx => ?_⟩
  have := List.all_eq_true.1 h.2 x hx
  rw [Bool.or_eq_true, List.contains_iff_mem, List.mem_append, List.mem_singleton] at this
  exact this
theorem name_of {m : List UInt8} (hm : ∀ x ∈ m, x ∈ ([58, 64, 47, 63, 37] : List UInt8)) {x : UInt8} (h : plainB x = true ∨ x ∈ m ∨ x = 37) : nameB x = true := by
  unfold nameB
  rcases h with h | h | h
  · rw [h]; rfl
  · rw [List.contains_iff_mem.2 (hm x h), Bool.or_true]
  · rw [h]; rfl
theorem named_name {l m : List UInt8} (h : namedL l m = true) (hm : ∀ x ∈ m, x ∈ ([58, 64, 47, 63, 37] : List UInt8)) : ∀ x ∈ l, nameB x = true := fun x hx => name_of hm ((named_parts h).2 x hx)
theorem literal_bytes {s : List UInt8} (h : literalL s = true) : s ≠ [] ∧ ∀ x ∈ s, litByte x = true := by
  unfold literalL at h
  rw [Bool.or_eq_true, Bool.and_eq_true] at h
  rcases h with ⟨h1, h2⟩ | h
  · refine ⟨fun e => by rw [e] at h1; exact absurd h1 (by decide), fun x hx => ?_⟩
    have := List.all_eq_true.1 h2 x hx
    exact byte_imp (p := fun x => hexB x || ([58, 46] : List UInt8).contains x) (q := litByte) (by kernel_rfl) x this
  · unfold laterL at h
    simp only [Bool.and_eq_true] at h
    obtain ⟨⟨⟨h1, h2⟩, h3⟩, h4⟩ := h
    have hg : s = (cutL s 46).1 ++ 46 :: (cutL s 46).2.1 := by
      have hc : s.contains 46 = true := h1
      have hlt := fi_contains hc
      have h5 := @List.findIdx_getElem _ (fun x : UInt8 => x == 46) s hlt
      have h6 : s[fi (fun x => x == 46) s] = 46 := eq_of_beq h5
      show s = s.takeWhile (fun x => !(x == 46)) ++ 46 :: (s.dropWhile (fun x => !(x == 46))).drop 1
      rw [← take_fi, ← drop_fi, List.drop_drop]
      have hd : s.drop (fi (fun x => x == 46) s) = 46 :: s.drop (fi (fun x => x == 46) s + 1) := by rw [List.drop_eq_getElem_cons hlt, h6]
      rw [← hd, List.take_append_drop]
    generalize (cutL s 46).1 = v at *
    generalize (cutL s 46).2.1 = r at *
    subst hg
    refine ⟨by simp, fun x hx => ?_⟩
    cases v with
    | nil => exact absurd h2 (by decide)
    | cons c t =>
      simp only [Bool.and_eq_true] at h2
      rw [List.mem_append, List.mem_cons, List.mem_cons] at hx
      rcases hx with (rfl | hx) | rfl | hx
      · exact byte_imp (p := vB) (q := litByte) (by kernel_rfl) x h2.1.1
      · exact byte_imp (p := fun x => hexB x || ([] : List UInt8).contains x) (q := litByte) (by kernel_rfl) x (List.all_eq_true.1 h2.2 x hx)
      · rfl
      · exact byte_imp (p := fun x => plainB x || ([58] : List UInt8).contains x) (q := litByte) (by kernel_rfl) x (List.all_eq_true.1 h4 x hx)
/-- What a told host is. -/
def HostIs (H : List UInt8) : Prop := (∃ l, H = 91 :: (l ++ [93]) ∧ l ≠ [] ∧ ∀ x ∈ l, litByte x = true) ∨ (validL H = true ∧ ∀ x ∈ H, hostByte x = true)
theorem port_good {r : List UInt8} (h : portL r = true) : ∀ x ∈ r, goodB x = true := by
  unfold portL at h
  simp only [Bool.and_eq_true] at h
  intro x hx
  exact byte_imp (p := fun c => digitB c || ([58] : List UInt8).contains c) (q := goodB) (by kernel_rfl) x (List.all_eq_true.1 h.1.2 x hx)
theorem hostAt_ok {u h : List UInt8} {n : Nat} (e : (hostAt u h n).2 = true) : (hostAt u h n).1 = h.take n ∧ namedL u [58] = true ∧ portL (h.drop n) = true := by
  unfold hostAt at *
  by_cases hp : portL (h.drop n) = true
  · rw [if_pos hp] at e ⊢
    exact ⟨rfl, e, hp⟩
  · rw [if_neg hp] at e
    exact absurd e (by decide)
theorem hostB_ok {u h : List UInt8} (e : (hostB u h).2 = true) : HostIs (hostB u h).1 ∧ (∀ x ∈ u, goodB x = true) ∧ ∀ x ∈ h, goodB x = true := by
  unfold hostB at *
  by_cases hb : ([91] : List UInt8).isPrefixOf h = true
  · rw [if_pos hb] at e ⊢
    by_cases hc : h.contains 93 = true ∧ literalL ((h.take (fi (fun x => x == 93) h)).drop 1) = true
    · rw [if_pos hc] at e ⊢
      obtain ⟨e1, e2, e3⟩ := hostAt_ok e
      obtain ⟨l1, l2⟩ := literal_bytes hc.2
      obtain ⟨t, rfl⟩ := List.isPrefixOf_iff_prefix.1 hb
      have hlt := fi_contains hc.1
      have h5 := @List.findIdx_getElem _ (fun x : UInt8 => x == 93) ([91] ++ t) hlt
      have h6 : ([91] ++ t)[fi (fun x => x == 93) ([91] ++ t)] = 93 := eq_of_beq h5
      have h1 : 1 ≤ fi (fun x => x == 93) ([91] ++ t) := by
        show 1 ≤ List.findIdx (fun x => x == 93) (91 :: t)
        rw [List.findIdx_cons]
        simp
      have hH : ([91] ++ t).take (fi (fun x => x == 93) ([91] ++ t) + 1) = 91 :: (((([91] ++ t).take (fi (fun x => x == 93) ([91] ++ t))).drop 1) ++ [93]) := by
        rw [List.take_succ_eq_append_getElem hlt, h6]
        obtain ⟨j, hj⟩ : ∃ j, fi (fun x => x == 93) ([91] ++ t) = j + 1 := ⟨_, (Nat.sub_add_cancel h1).symm⟩
        rw [hj]
        rfl
      have hg : ([91] ++ t) = ([91] ++ t).take (fi (fun x => x == 93) ([91] ++ t) + 1) ++ ([91] ++ t).drop (fi (fun x => x == 93) ([91] ++ t) + 1) := (List.take_append_drop ..).symm
      refine ⟨.inl ⟨_, e1.trans hH, l1, l2⟩, fun x hx => name_good x (named_name e2 (by decide) x hx), fun x hx => ?_⟩
      rw [hg, hH, List.mem_append, List.mem_cons, List.mem_append, List.mem_singleton] at hx
      rcases hx with (rfl | hx | rfl) | hx
      · decide
      · exact lit_good x (l2 x hx)
      · decide
      · exact port_good e3 x hx
    · rw [if_neg hc] at e
      exact absurd e (by decide)
  · rw [if_neg hb] at e ⊢
    by_cases hn : namedL (h.take (fi (fun x => x == 58) h)) [] = true
    · rw [if_pos hn] at e ⊢
      obtain ⟨e1, e2, e3⟩ := hostAt_ok e
      obtain ⟨n1, n2⟩ := named_parts hn
      refine ⟨.inr ⟨by rw [e1]; exact n1, fun x hx => ?_⟩, fun x hx => name_good x (named_name e2 (by decide) x hx), fun x hx => ?_⟩
      · rw [e1] at hx
        unfold hostByte
        rcases n2 x hx with h | h | h
        · rw [h]; rfl
        · exact absurd h (by simp)
        · rw [h]; rfl
      · rw [← List.take_append_drop (fi (fun x => x == 58) h) h, List.mem_append] at hx
        rcases hx with hx | hx
        · exact name_good x (named_name hn (by simp) x hx)
        · exact port_good e3 x hx
    · rw [if_neg hn] at e
      exact absurd e (by decide)
theorem hostL_ok {s : List UInt8} (e : (hostL s).2 = true) : HostIs (hostL s).1 ∧ ∀ x ∈ s, goodB x = true := by
  unfold hostL at *
  by_cases hc : s.contains 64 = true
  · rw [if_pos hc] at e ⊢
    obtain ⟨h1, h2, h3⟩ := hostB_ok e
    refine ⟨h1, fun x hx => ?_⟩
    have hg := cutL_glue s 64
    rw [if_pos (show (cutL s 64).2.2 = true from hc)] at hg
    rw [← hg, List.mem_append, List.mem_cons] at hx
    rcases hx with hx | rfl | hx
    · exact h2 x hx
    · decide
    · exact h3 x hx
  · rw [if_neg hc] at e ⊢
    obtain ⟨h1, _, h3⟩ := hostB_ok e
    exact ⟨h1, h3⟩
theorem told_ok {w : List UInt8} {p : Parts} (f : Fits w p) (h : (Rf.tellL p).1 = true) : (∀ x ∈ w, goodB x = true) ∧ HostIs (Rf.tellL p).2.1 ∧ namedL (Rf.tellL p).2.2 [58, 64, 47] = true := by
  unfold Rf.tellL at *
  by_cases hc : (!p.h0 || schemeOk p.a) = true ∧ (hostOf p).2 = true ∧ Rf.lone p = false ∧ restOk p = true
  · rw [if_pos hc]
    obtain ⟨c1, c2, _, c4⟩ := hc
    unfold restOk at c4
    simp only [Bool.and_eq_true] at c4
    obtain ⟨⟨d1, d2⟩, d3⟩ := c4
    have hh : HostIs (hostOf p).1 ∧ (p.h1 = true → ∀ x ∈ p.b, goodB x = true) := by
      unfold hostOf at *
      by_cases e : p.h1 = true
      · rw [if_pos e] at c2 ⊢
        obtain ⟨q1, q2⟩ := hostL_ok c2
        exact ⟨q1, fun _ => q2⟩
      · rw [if_neg e]
        exact ⟨.inr ⟨rfl, by simp⟩, fun q => absurd q e⟩
    refine ⟨fun x hx => ?_, hh.1, d1⟩
    have gl := f.glue
    rw [← gl] at hx
    simp only [List.mem_append] at hx
    rcases hx with (((hx | hx) | hx) | hx) | hx
    · by_cases e : p.h0 = true
      · rw [if_pos e, List.mem_append, List.mem_singleton] at hx
        rcases hx with hx | rfl
        · rw [e] at c1
          have c5 : schemeOk p.a = true := c1
          cases ha : p.a with
          | nil => rw [ha] at hx; exact absurd hx (by simp)
          | cons c t =>
            rw [ha] at c5 hx
            simp only [schemeOk, Bool.and_eq_true] at c5
            exact byte_imp (p := fun x => (letterB x || digitB x) || ([43, 45, 46] : List UInt8).contains x) (q := goodB) (by kernel_rfl) x (List.all_eq_true.1 c5.2 x hx)
        · decide
      · rw [if_neg e] at hx
        exact absurd hx (by simp)
    · by_cases e : p.h1 = true
      · rw [if_pos e, List.mem_cons, List.mem_cons] at hx
        rcases hx with rfl | rfl | hx
        · decide
        · decide
        · exact hh.2 e x hx
      · rw [if_neg e] at hx
        exact absurd hx (by simp)
    · exact name_good x (named_name d1 (by decide) x hx)
    · by_cases e : p.h2 = true
      · rw [if_pos e, List.mem_cons] at hx
        rcases hx with rfl | hx
        · decide
        · exact name_good x (named_name d2 (by decide) x hx)
      · rw [if_neg e] at hx
        exact absurd hx (by simp)
    · by_cases e : p.h3 = true
      · rw [if_pos e, List.mem_cons] at hx
        rcases hx with rfl | hx
        · decide
        · exact name_good x (named_name d3 (by decide) x hx)
      · rw [if_neg e] at hx
        exact absurd hx (by simp)
  · rw [if_neg hc] at h
    exact absurd h (by decide)
theorem valid_no37 : ∀ (l : List UInt8), (∀ x ∈ l, x ≠ 37) → validL l = true
  | [], _ => rfl
  | c :: t, h => by
    have hc : (c == 37) = false := beq_eq_false_iff_ne.2 (h c (List.mem_cons_self ..))
    rw [validL, hc, valid_no37 t fun x hx => h x (List.mem_cons_of_mem _ hx)]
    rfl
theorem any_free {l m : List UInt8} (h : ∀ x ∈ l, m.contains x = false) : (l.any fun c => m.contains c) = false := by
  rw [List.any_eq_false]
  intro x hx h2
  rw [h x hx] at h2
  exact absurd h2 (by decide)
/-- What the law asks of a host. -/
structure HostFits (H : List UInt8) : Prop where
  n : (H.any fun c => ([47, 63, 35, 64] : List UInt8).contains c) = false
  v : validL H = true
  s : (∃ l, H = 91 :: (l ++ [93]) ∧ l ≠ []) ∨ ((H.any fun c => ([58, 91, 93] : List UInt8).contains c) = false ∧ ∀ t, H ≠ 91 :: t)
theorem host_fits {H : List UInt8} (h : HostIs H) : HostFits H := by
  rcases h with ⟨l, rfl, hne, hl⟩ | ⟨hv, hb⟩
  · have key : ∀ x ∈ (91 :: (l ++ [93]) : List UInt8), x = 91 ∨ x = 93 ∨ litByte x = true := by
      intro x hx
      rw [List.mem_cons, List.mem_append, List.mem_singleton] at hx
      rcases hx with hx | hx | hx
      · exact .inl hx
      · exact .inr (.inr (hl x hx))
      · exact .inr (.inl hx)
    refine ⟨any_free fun x hx => ?_, valid_no37 _ fun x hx => ?_, .inl ⟨l, rfl, hne⟩⟩
    · rcases key x hx with rfl | rfl | h
      · decide
      · decide
      · have := byte_imp (p := litByte) (q := fun c => !([47, 63, 35, 64] : List UInt8).contains c) (by kernel_rfl) x h
        simpa using this
    · rcases key x hx with rfl | rfl | h
      · decide
      · decide
      · have := byte_imp (p := litByte) (q := fun c => !(c == 37)) (by kernel_rfl) x h
        simpa using this
  · refine ⟨any_free fun x hx => ?_, hv, .inr ⟨any_free fun x hx => ?_, ?_⟩⟩
    · have := byte_imp (p := hostByte) (q := fun c => !([47, 63, 35, 64] : List UInt8).contains c) (by kernel_rfl) x (hb x hx)
      simpa using this
    · have := byte_imp (p := hostByte) (q := fun c => !([58, 91, 93] : List UInt8).contains c) (by kernel_rfl) x (hb x hx)
      simpa using this
    · rintro t rfl
      exact absurd (hb 91 (List.mem_cons_self ..)) (by decide)
theorem path_free {P : List UInt8} (h : namedL P [58, 64, 47] = true) : (P.any fun c => ([63, 35, 91, 93] : List UInt8).contains c) = false := by
  refine any_free fun x hx => ?_
  have h2 := (named_parts h).2 x hx
  have h3 : (plainB x || ([58, 64, 47, 37] : List UInt8).contains x) = true := by
    rcases h2 with h | h | h
    · rw [h]; rfl
    · rw [Bool.or_eq_true, List.contains_iff_mem]
      right
      simp only [List.mem_cons, List.not_mem_nil, or_false] at h ⊢
      rcases h with h | h | h
      · exact .inl h
      · exact .inr (.inl h)
      · exact .inr (.inr (.inl h))
    · rw [h]; rfl
  have := byte_imp (p := fun x => plainB x || ([58, 64, 47, 37] : List UInt8).contains x) (q := fun c => !([63, 35, 91, 93] : List UInt8).contains c) (by kernel_rfl) x h3
  simpa using this
def open91 (H : List UInt8) : Bool := match H with | [] => false | c :: _ => c == 91
theorem fields_j2 (H P : List UInt8) (hH : H.length ≤ 3000) (f : HostFits H) (k : Nat) (hk : 30000 < k) (ok : Bool) : shibbolethlaw19_RfcFields.j2 (k + 1) (H.length : Int) (open91 H) ok (S H) (S P) = some true := by
  rw [shibbolethlaw19_RfcFields.j2]
  rcases f.s with ⟨l, rfl, hne⟩ | ⟨h1, h2⟩
  · have hl : 1 ≤ l.length := by
      cases l with
      | nil => exact absurd rfl hne
      | cons c t => simp
    have hlen : (91 :: (l ++ [93]) : List UInt8).length = l.length + 2 := by simp
    have hw : wrap64 (((91 :: (l ++ [93]) : List UInt8).length : Int) - 1) = ((l.length + 1 : Nat) : Int) := by rw [hlen, wrap_id (by omega) (by omega)]; omega
    have hb : bt (S (91 :: (l ++ [93]))) ((l.length + 1 : Nat) : Int) = 93 := by
      rw [bt_S _ (l.length + 1) (by rw [hlen]; omega)]
      simp
    rw [if_pos (by rfl), hw, if_pos (by omega), if_pos (by rw [S_size, hlen]; omega), if_pos hb, if_pos (by rw [hlen]; omega)]
    refine Option.bind_eq_some_iff.2 ⟨_, awake19f k (by omega), ?_⟩
    rfl
  · have hm : open91 H = false := by
      cases H with
      | nil => rfl
      | cons c t =>
        unfold open91
        rw [beq_eq_false_iff_ne]
        rintro rfl
        exact h2 t rfl
    have he := shibbolethlaw19_has_ev H [58, 91, 93] (by unfold Sm; omega) (by decide) k (by simp only [List.length_cons, List.length_nil]; omega)
    rw [h1] at he
    rw [hm, if_neg (by decide)]
    refine Option.bind_eq_some_iff.2 ⟨_, he, ?_⟩
    rw [if_neg (by decide)]
    refine Option.bind_eq_some_iff.2 ⟨_, awake19f k (by omega), ?_⟩
    rfl
theorem fields_end (w H P : List UInt8) (hH : H.length ≤ 3000) (hP : P.length ≤ 3000) (f : HostFits H) (hp1 : (P.any fun c => ([63, 35, 91, 93] : List UInt8).contains c) = false) (hp2 : validL P = true) (k : Nat) (hk : 30000 < k) (ok : Bool) :
    shibbolethlaw19_RfcFields.l0 (k + 3) (S w) (w.length : Int) ok (S H) (S P) = some true := by
  have e1 := shibbolethlaw19_has_ev H [47, 63, 35, 64] (by unfold Sm; omega) (by decide) (k + 2) (by simp only [List.length_cons, List.length_nil]; omega)
  have e2 := shibbolethlaw19_has_ev P [63, 35, 91, 93] (by unfold Sm; omega) (by decide) (k + 2) (by simp only [List.length_cons, List.length_nil]; omega)
  have e3 := Valid_ev H (by unfold Sm; omega) (k + 2) (by omega)
  have e4 := Valid_ev P (by unfold Sm; omega) (k + 2) (by omega)
  rw [f.n] at e1
  rw [hp1] at e2
  rw [f.v] at e3
  rw [hp2] at e4
  rw [shibbolethlaw19_RfcFields.l0, if_neg (by rw [S_size]; omega)]
  refine Option.bind_eq_some_iff.2 ⟨_, e1, ?_⟩
  rw [if_neg (by decide)]
  refine Option.bind_eq_some_iff.2 ⟨_, e2, ?_⟩
  rw [if_neg (by decide)]
  refine Option.bind_eq_some_iff.2 ⟨_, e3, ?_⟩
  rw [if_pos rfl]
  refine Option.bind_eq_some_iff.2 ⟨_, e4, ?_⟩
  have j2 := fields_j2 H P hH f k hk ok
  rw [shibbolethlaw19_RfcFields.j1, if_neg (by decide)]
  cases H with
  | nil => exact j2
  | cons c t =>
    have hb : bt (S (c :: t)) 0 = (c.toNat : Int) := bt_S (c :: t) 0 (by simp)
    have h91 : ((c.toNat : Int) == 91) = (c == 91) := by
      have : (91 : UInt8).toNat = 91 := rfl
      rw [Bool.eq_iff_iff, beq_iff_eq, beq_iff_eq]
      exact ⟨fun h => UInt8.toNat_inj.1 (by omega), fun h => by rw [h]; rfl⟩
    rw [if_pos (by rw [S_size, List.length_cons]; omega), if_pos (by rw [S_size, List.length_cons]; omega), hb, h91]
    exact j2
theorem fields_l0 (w H P : List UInt8) (hw : w.length ≤ 3000) (hg : ∀ x ∈ w, goodB x = true) (hH : H.length ≤ 3000) (hP : P.length ≤ 3000) (f : HostFits H) (hp1 : (P.any fun c => ([63, 35, 91, 93] : List UInt8).contains c) = false) (hp2 : validL P = true) (ok : Bool) : ∀ (d i k : Nat), i + d = w.length → 30010 + d < k →
    shibbolethlaw19_RfcFields.l0 k (S w) (i : Int) ok (S H) (S P) = some true
  | 0, i, k, h, hk => by
    obtain ⟨k, rfl⟩ : ∃ m, k = m + 3 := ⟨k - 3, by omega⟩
    obtain rfl : i = w.length := by omega
    exact fields_end w H P hH hP f hp1 hp2 k (by omega) ok
  | d + 1, i, k, h, hk => by
    obtain ⟨k, rfl⟩ : ∃ m, k = m + 1 := ⟨k - 1, by omega⟩
    have hlt : i < w.length := by omega
    have hx := hg w[i] (List.getElem_mem hlt)
    unfold goodB at hx
    simp only [Bool.and_eq_true, decide_eq_true_eq, Bool.not_eq_true'] at hx
    have hd : w.drop i = w[i] :: w.drop (i + 1) := List.drop_eq_getElem_cons hlt
    have hex : (S w).extract ((i : Int)).toNat (((i + 1 : Nat) : Int)).toNat = S [w[i]] := by
      rw [Int.toNat_natCast, Int.toNat_natCast, S_extract, hd]
      have : i + 1 - i = 1 := by omega
      rw [this]; rfl
    have he := shibbolethlaw19_has_ev [w[i]] [34, 60, 62, 92, 94, 96, 123, 124, 125] (by unfold Sm; rw [List.length_singleton]; omega) (by decide) k (by simp only [List.length_cons, List.length_nil]; omega)
    have hb : ([w[i]].any fun c => ([34, 60, 62, 92, 94, 96, 123, 124, 125] : List UInt8).contains c) = false := by
      rw [List.any_cons, List.any_nil, Bool.or_false]
      exact hx.2
    rw [hb] at he
    rw [shibbolethlaw19_RfcFields.l0, if_pos (by rw [S_size]; omega), if_pos (by omega), bt_S w i hlt, if_neg (by omega), if_neg (by omega), wrap_succ i (by omega), if_pos (by omega), if_pos (by rw [S_size]; omega), hex]
    refine Option.bind_eq_some_iff.2 ⟨_, he, ?_⟩
    rw [if_neg (by decide)]
    exact fields_l0 w H P hw hg hH hP f hp1 hp2 ok d (i + 1) k (by omega) (by omega)
theorem hostB_len (u h : List UInt8) : (hostB u h).1.length ≤ h.length := by
  have key : ∀ n, (hostAt u h n).1.length ≤ h.length := by
    intro n
    unfold hostAt
    split
    · exact List.length_take_le' ..
    · exact Nat.zero_le _
  unfold hostB
  split
  · split
    · exact key _
    · exact Nat.zero_le _
  · split
    · exact key _
    · exact Nat.zero_le _
theorem told_len (w : List UInt8) : (Rf.tellL (splitL w)).2.1.length ≤ w.length ∧ (Rf.tellL (splitL w)).2.2.length ≤ w.length := by
  have hl := parts_len w
  unfold Rf.tellL
  split
  · refine ⟨?_, hl.2.1⟩
    show (hostOf (splitL w)).1.length ≤ w.length
    unfold hostOf
    split
    · refine Nat.le_trans ?_ hl.1
      unfold hostL
      split
      · exact Nat.le_trans (hostB_len _ _) (cut2_len _ _)
      · exact hostB_len _ _
    · exact Nat.zero_le _
  · exact ⟨Nat.zero_le _, Nat.zero_le _⟩
theorem told_not {p : Parts} (h : (Rf.tellL p).1 = false) : Rf.tellL p = (false, [], []) := by
  unfold Rf.tellL at *
  split at h
  · exact absurd (show true = false from h) (by decide)
  · rename_i hc
    rw [if_neg hc]
theorem RfcFields : shibbolethlaw19_RfcFields.Pure := by
  intro a _
  obtain ⟨w0, rfl⟩ := S_surj a
  refine ⟨40000, ?_⟩
  unfold shibbolethlaw19_RfcFields.f
  refine Option.bind_eq_some_iff.2 ⟨_, Short_ev w0, ?_⟩
  have hw : (w0.take 3000).length ≤ 3000 := List.length_take_le _ _
  generalize w0.take 3000 = w at *
  have hp := Rf.Parse_ev w (by unfold Sm; omega) 40000 (by omega)
  have ht := told_ok (fits w)
  have hl := told_len w
  have hn := told_not (p := splitL w)
  generalize Rf.tellL (splitL w) = r at *
  obtain ⟨ok, H, P⟩ := r
  refine Option.bind_eq_some_iff.2 ⟨_, hp, ?_⟩
  cases ok with
  | false =>
    rw [hn rfl, if_neg (by simp [Rf.toB]), if_pos (by simp [Rf.toB])]
    refine Option.bind_eq_some_iff.2 ⟨_, awake19f 40000 (by omega), ?_⟩
    rfl
  | true =>
    obtain ⟨t1, t2, t3⟩ := ht rfl
    replace t2 : HostIs H := t2
    replace t3 : namedL P [58, 64, 47] = true := t3
    replace hl : H.length ≤ w.length ∧ P.length ≤ w.length := hl
    rw [if_pos (show (Rf.toB (true, H, P)).1 = true from rfl)]
    exact fields_l0 w H P hw t1 (by omega) (by omega) (host_fits t2) (path_free t3) (named_parts t3).1 true w.length 0 40000 (by omega) (by omega)
end Go.Proofs.Ytiihgddpejmehaa.Pure

/- CurlBuilt answers true for every five texts: what is put together of userinfo, a host, a port, a path and what is behind it is told again (no conditions but the row's size bounds). -/
import Derived.Test.YtpejenbhgfbjjaaCurl
import Derived.Test.YtpejenbhgfbjjaaZA3
import Derived.Test.YtpejenbhgfbjjaaZA4
import Derived.Test.YtpejenbhgfbjjaaZA5
import Derived.Test.YtpejenbhgfbjjaaZA6
import Derived.Test.YtpejenbhgfbjjaaZA7
namespace Go.Proofs.Ytpejenbhgfbjjaa.Pure
open Go.RowKit Go.Proofs.Ytpejenbhgfbjjaa.ZA Go.Proofs.YtpejenbhgfbjjaaW.PrintWords Go.Proofs.YtpejenbhgfbjjaaW.PrintLast Go.Proofs.Ytpejenbhgfbjjaa.L Go.Proofs.Ytpejenbhgfbjjaa.Str Go.Proofs.Ytpejenbhgfbjjaa.Py Go.Proofs.Ytpejenbhgfbjjaa.Cu

theorem awake22b (k : Nat) (hk : 100 ≤ k) : shibbolethlaw22_awake.f k = some true := at_rounds (g := fun k => shibbolethlaw22_awake.f k) shibbolethlaw22_awake.mono hk (by kernel_rfl)

/-! what is kept -/
theorem only_l0 (p : Nat → Bool) (l : List UInt8) (hl : l.length ≤ 60) : ∀ (d i k : Nat) (o : List UInt8), i + d = l.length → o.length ≤ i → d < k →
    shibbolethlaw22_only.l0 k (S l) (ints o) (i : Int) (Base.wd p 0) (Base.wd p 1) (Base.wd p 2) (Base.wd p 3) = some (S (o ++ (l.drop i).filter fun c => p c.toNat))
  | 0, i, k, o, h, ho, hk => by
    obtain ⟨k, rfl⟩ : ∃ m, k = m + 1 := ⟨k - 1, by omega⟩
    rw [shibbolethlaw22_only.l0, if_neg (by rw [S_size]; omega), strOf_ints, List.drop_of_length_le (by omega)]
    simp
  | d + 1, i, k, o, h, ho, hk => by
    obtain ⟨k, rfl⟩ : ∃ m, k = m + 1 := ⟨k - 1, by omega⟩
    have hlt : i < l.length := by omega
    have hc := l[i].toNat_lt
    have hd : l.drop i = l[i] :: l.drop (i + 1) := List.drop_eq_getElem_cons hlt
    rw [shibbolethlaw22_only.l0, if_pos (by rw [S_size]; omega), if_pos (by omega), bt_S l i hlt, wrap_succ i (by omega), hd, List.filter_cons]
    refine Option.bind_eq_some_iff.2 ⟨_, octets_Has.set p _ (by omega) (by omega), ?_⟩
    rw [Int.toNat_natCast]
    by_cases hp : p l[i].toNat = true
    · have hlen : (ints o).length < 140737488355328 := by unfold ints; rw [List.length_map]; omega
      have e : ints o ++ [(l[i].toNat : Int)] = ints (o ++ [l[i]]) := by unfold ints; rw [List.map_append]; rfl
      rw [if_pos hp, if_pos hlen, e, only_l0 p l hl d (i + 1) k (o ++ [l[i]]) (by omega) (by rw [List.length_append, List.length_singleton]; omega) (by omega), if_pos hp, List.append_assoc]
      rfl
    · rw [if_neg hp, if_neg hp, only_l0 p l hl d (i + 1) k o (by omega) (by omega) (by omega)]
theorem only_ev (p : Nat → Bool) (l : List UInt8) (hl : l.length ≤ 60) (k : Nat) (hk : 60 < k) : shibbolethlaw22_only.f k (S l) (Base.wd p 0) (Base.wd p 1) (Base.wd p 2) (Base.wd p 3) = some (S (l.filter fun c => p c.toNat)) := by
  have := only_l0 p l hl l.length 0 k [] (by omega) (by simp) (by omega)
  rw [List.drop_zero] at this
  exact this
theorem filt (p : Nat → Bool) (q : UInt8 → Bool) (h : ((List.range 256).all fun n => p n == q (UInt8.ofNat n)) = true) (l : List UInt8) : (l.filter fun c => p c.toNat) = l.filter q := by
  congr 1
  funext c
  have h2 := eq_of_beq (all_bytes (p := fun n => p n == q (UInt8.ofNat n)) h c)
  rw [UInt8.ofNat_toNat] at h2
  exact h2

/-! what may stand where -/
def inInfo (c : UInt8) : Bool := cleanB c && !([47, 63, 35, 64] : List UInt8).contains c
def inHost (c : UInt8) : Bool := cleanB c && nb c
def inPath (c : UInt8) : Bool := cleanB c && !([63, 35] : List UInt8).contains c
theorem byte_of {p q : UInt8 → Bool} (h : ((List.range 256).all fun n => !(p (UInt8.ofNat n)) || q (UInt8.ofNat n)) = true) (c : UInt8) (hc : p c = true) : q c = true := by
  have h5 := all_bytes (p := fun n => !(p (UInt8.ofNat n)) || q (UInt8.ofNat n)) h c
  rw [UInt8.ofNat_toNat, hc] at h5
  exact h5
theorem all_of {p q : UInt8 → Bool} (h : ((List.range 256).all fun n => !(p (UInt8.ofNat n)) || q (UInt8.ofNat n)) = true) {l : List UInt8} (hl : ∀ c ∈ l, p c = true) : l.all q = true :=
  List.all_eq_true.2 fun c hc => byte_of h c (hl c hc)

/-! what is told -/
theorem tw_all {p : UInt8 → Bool} {a : List UInt8} (ha : a.all p = true) {c : UInt8} (hc : p c = false) (t : List UInt8) : (a ++ c :: t).takeWhile p = a ∧ (a ++ c :: t).dropWhile p = c :: t := by
  constructor
  · rw [List.takeWhile_append_of_pos (List.all_eq_true.1 ha), List.takeWhile_cons, if_neg (by rw [hc]; decide), List.append_nil]
  · rw [List.dropWhile_append_of_pos (List.all_eq_true.1 ha), List.dropWhile_cons, if_neg (by rw [hc]; decide)]
/-- Behind 'x://' what does not begin with a slash is told as it is. -/
theorem behind_x (c : UInt8) (t : List UInt8) (h : c ≠ 47) : behindL (120 :: 58 :: 47 :: 47 :: c :: t) = c :: t := by
  have hr : runS (120 :: 58 :: 47 :: 47 :: c :: t) = 1 := runS_at (s := [120]) (c := 58) (by decide) (by decide)
  unfold behindL behindAt
  rw [hr, if_neg (by decide), if_pos (by simp)]
  show trim1 (trim1 (trim1 (47 :: 47 :: c :: t))) = c :: t
  rw [trim1_hit, trim1_hit, trim1_miss t h]
/-- An authority up to the first slash, a path up to the first ?. -/
theorem parse_x (c : UInt8) (t P q : List UInt8) (H : List UInt8 × Bool) (hc : c ≠ 47) (hclean : (c :: t ++ 47 :: P ++ 63 :: q).all cleanB = true) (ha : (c :: t).all noSQF = true) (hP : P.all noQF = true) (hh : hostL (c :: t) = H) :
    parseL (120 :: 58 :: 47 :: 47 :: (c :: t ++ 47 :: P ++ 63 :: q)) = if H.2 = true then (true, H.1, 47 :: P) else (false, [], []) := by
  have hb : behindL (120 :: 58 :: 47 :: 47 :: (c :: t ++ 47 :: P ++ 63 :: q)) = c :: t ++ 47 :: (P ++ 63 :: q) := by
    have := behind_x c (t ++ 47 :: P ++ 63 :: q) hc
    simpa using this
  have hcl : (120 :: 58 :: 47 :: 47 :: (c :: t ++ 47 :: P ++ 63 :: q)).all cleanB = true := by
    rw [List.all_cons, List.all_cons, List.all_cons, List.all_cons, hclean]; decide
  obtain ⟨h1, h2⟩ := tw_all ha (c := 47) (by decide) (P ++ 63 :: q)
  have h3 : (47 :: (P ++ 63 :: q)).takeWhile noQF = 47 :: P := by
    have hP2 : (47 :: P).all noQF = true := by rw [List.all_cons, hP]; decide
    exact (tw_all hP2 (c := 63) (by decide) q).1
  unfold parseL
  rw [hb, if_pos hcl, h1, h2, h3, hh]
theorem place_at (a b : List UInt8) (ha : ∀ c ∈ a, c ≠ 64) : placeL (a ++ 64 :: b) = b := by
  unfold placeL cutL
  have hm : (a ++ 64 :: b).contains 64 = true := by simp
  rw [if_pos hm]
  show ((a ++ 64 :: b).dropWhile fun x => !(x == 64)).drop 1 = b
  rw [List.dropWhile_append_of_pos (fun c hc => by simpa using ha c hc), List.dropWhile_cons, if_neg (by decide)]
  rfl
theorem place_none (a : List UInt8) (ha : ∀ c ∈ a, c ≠ 64) : placeL a = a := by
  unfold placeL
  rw [if_neg]
  intro h
  exact ha 64 (by simpa using h) rfl
theorem host_named (h pt : List UInt8) (hh : h.all nb = true) (hne : h ≠ []) (h91 : ∀ c t, h = c :: t → c ≠ 91) (hp : pt.all digitB = true) : readL (h ++ 58 :: pt) = (h, 58 :: pt, true) ∧ portL (58 :: pt) = true := by
  obtain ⟨h1, h2⟩ := tw_all hh (c := 58) (by decide) pt
  constructor
  · unfold readL namedL
    rw [if_neg, h1, h2]
    · cases h with
      | nil => exact absurd rfl hne
      | cons _ _ => rfl
    · cases h with
      | nil => exact absurd rfl hne
      | cons c t =>
        intro hx
        have : (91 : UInt8) = c := by simpa using hx
        exact h91 c t rfl this.symm
  · show ((58 : UInt8) == 58 && pt.all digitB) = true
    rw [hp]; rfl
theorem host_six (s pt : List UInt8) (hs : s.all hexC = true) (hp : pt.all digitB = true) : hostL (91 :: (s ++ [93]) ++ 58 :: pt) = if s = [] then ([], false) else (91 :: (s ++ [93]), true) := by
  have hn93 : ∀ c ∈ s, (fun x : UInt8 => !(x == 93)) c = true := fun c hc => byte_of (p := hexC) (q := fun x => !(x == 93)) (by kernel_rfl) c (List.all_eq_true.1 hs c hc)
  have hn93' : ((91 : UInt8) :: s).all (fun x => !(x == 93)) = true := by
    rw [List.all_cons, List.all_eq_true.2 hn93]; decide
  have e : (91 : UInt8) :: (s ++ [93]) ++ 58 :: pt = (91 :: s) ++ 93 :: 58 :: pt := by simp
  obtain ⟨h1, h2⟩ := tw_all hn93' (c := 93) (by decide) (58 :: pt)
  have hpl : placeL ((91 :: s) ++ 93 :: 58 :: pt) = (91 :: s) ++ 93 :: 58 :: pt := by
    refine place_none _ fun c hc => ?_
    rw [List.cons_append, List.mem_cons, List.mem_append, List.mem_cons, List.mem_cons] at hc
    rcases hc with hc | hc | hc | hc | hc
    · rw [hc]; decide
    · simpa using byte_of (p := hexC) (q := fun x => !(x == 64)) (by kernel_rfl) c (List.all_eq_true.1 hs c hc)
    · rw [hc]; decide
    · rw [hc]; decide
    · simpa using byte_of (p := digitB) (q := fun x => !(x == 64)) (by kernel_rfl) c (List.all_eq_true.1 hp c hc)
  have hcon : ((91 :: s) ++ 93 :: 58 :: pt).contains 93 = true := by simp
  have hpt : portL (58 :: pt) = true := by show ((58 : UInt8) == 58 && pt.all digitB) = true; rw [hp]; rfl
  have hread : readL ((91 :: s) ++ 93 :: 58 :: pt) = numberedL ((91 :: s) ++ 93 :: 58 :: pt) := by
    unfold readL
    exact if_pos (by simp)
  unfold hostL
  rw [e, hpl, hread]
  by_cases hz : s = []
  · have hN : numberedL ((91 :: s) ++ 93 :: 58 :: pt) = ([], [], false) := by
      unfold numberedL
      rw [h1]
      refine if_neg ?_
      rintro ⟨_, h, _⟩
      rw [hz] at h
      simp at h
    rw [hN, if_pos hz]
    rfl
  · have hl : 2 ≤ (91 :: s).length := by
      cases s with
      | nil => exact absurd rfl hz
      | cons _ _ => simp
    have hN : numberedL ((91 :: s) ++ 93 :: 58 :: pt) = (91 :: (s ++ [93]), 58 :: pt, true) := by
      unfold numberedL
      rw [h1, h2]
      exact if_pos ⟨hcon, hl, hs⟩
    rw [hN, if_neg hz]
    exact if_pos ⟨rfl, hpt⟩

/-- The law, over what was kept. -/
theorem built_w (A h pt P q : List UInt8) (hA : ∀ c ∈ A, inInfo c = true) (hh : ∀ c ∈ h, inHost c = true) (hp : ∀ c ∈ pt, digitB c = true) (hP : ∀ c ∈ P, inPath c = true) (hq : ∀ c ∈ q, cleanB c = true) :
    parseL ([120, 58, 47, 47] ++ A ++ [64] ++ (104 :: h) ++ (58 :: pt ++ 47 :: P ++ [63] ++ q)) = (true, 104 :: h, 47 :: P) := by
  obtain ⟨c, t, hct⟩ : ∃ c t, A ++ 64 :: (104 :: h ++ 58 :: pt) = c :: t := by
    cases A with
    | nil => exact ⟨_, _, rfl⟩
    | cons a b => exact ⟨_, _, rfl⟩
  have hhb : (104 :: h).all nb = true := by
    rw [List.all_cons, all_of (p := inHost) (q := nb) (by kernel_rfl) hh]; decide
  have hpb : pt.all digitB = true := List.all_eq_true.2 hp
  have hno64 : ∀ c ∈ A, c ≠ 64 := fun c hc => by simpa using byte_of (p := inInfo) (q := fun x => !(x == 64)) (by kernel_rfl) c (hA c hc)
  obtain ⟨hr, hpo⟩ := host_named (104 :: h) pt hhb (by simp) (fun c t e => by rw [← (List.cons.inj e).1]; decide) hpb
  have hH : hostL (c :: t) = (104 :: h, true) := by
    rw [← hct]
    unfold hostL
    rw [place_at A _ hno64, hr, if_pos ⟨rfl, hpo⟩]
  have hc47 : c ≠ 47 := by
    cases A with
    | nil => rw [← (List.cons.inj hct).1]; decide
    | cons a b =>
      rw [← (List.cons.inj hct).1]
      simpa using byte_of (p := inInfo) (q := fun x => !(x == 47)) (by kernel_rfl) a (hA a (List.mem_cons_self ..))
  have hsq : (c :: t).all noSQF = true := by
    rw [← hct, List.all_append, all_of (p := inInfo) (q := noSQF) (by kernel_rfl) hA, List.all_cons, List.all_append, List.all_cons, all_of (p := inHost) (q := noSQF) (by kernel_rfl) hh, List.all_cons, all_of (p := digitB) (q := noSQF) (by kernel_rfl) hp]
    decide
  have hcl : (c :: t ++ 47 :: P ++ 63 :: q).all cleanB = true := by
    rw [← hct]
    simp only [List.all_append, List.all_cons, all_of (p := inInfo) (q := cleanB) (by kernel_rfl) hA, all_of (p := inHost) (q := cleanB) (by kernel_rfl) hh, all_of (p := digitB) (q := cleanB) (by kernel_rfl) hp, all_of (p := inPath) (q := cleanB) (by kernel_rfl) hP, List.all_eq_true.2 hq]
    decide
  have := parse_x c t P q (104 :: h, true) hc47 hcl hsq (all_of (p := inPath) (q := noQF) (by kernel_rfl) hP) hH
  rw [if_pos rfl, ← hct] at this
  rw [← this]
  congr 1
  simp
theorem built_six (s pt P q : List UInt8) (hs : s.all hexC = true) (hp : ∀ c ∈ pt, digitB c = true) (hP : ∀ c ∈ P, inPath c = true) (hq : ∀ c ∈ q, cleanB c = true) :
    parseL ([120, 58, 47, 47] ++ (91 :: s ++ [93]) ++ (58 :: pt ++ 47 :: P ++ [63] ++ q)) = if s = [] then (false, [], []) else (true, 91 :: s ++ [93], 47 :: P) := by
  have hpb : pt.all digitB = true := List.all_eq_true.2 hp
  have hH := host_six s pt hs hpb
  have hsm : ∀ c ∈ s, hexC c = true := List.all_eq_true.1 hs
  have hsq : (91 :: (s ++ [93]) ++ 58 :: pt).all noSQF = true := by
    simp only [List.cons_append, List.all_append, List.all_cons, List.all_nil, all_of (p := hexC) (q := noSQF) (by kernel_rfl) hsm, all_of (p := digitB) (q := noSQF) (by kernel_rfl) hp]
    decide
  have hcl : (91 :: (s ++ [93]) ++ 58 :: pt ++ 47 :: P ++ 63 :: q).all cleanB = true := by
    simp only [List.cons_append, List.all_append, List.all_cons, List.all_nil, all_of (p := hexC) (q := cleanB) (by kernel_rfl) hsm, all_of (p := digitB) (q := cleanB) (by kernel_rfl) hp, all_of (p := inPath) (q := cleanB) (by kernel_rfl) hP, List.all_eq_true.2 hq]
    decide
  have := parse_x 91 (s ++ [93] ++ 58 :: pt) P q _ (by decide) (by simpa using hcl) (by simpa using hsq) (all_of (p := inPath) (q := noQF) (by kernel_rfl) hP) (by simpa using hH)
  have e : [120, 58, 47, 47] ++ (91 :: s ++ [93]) ++ (58 :: pt ++ 47 :: P ++ [63] ++ q) = 120 :: 58 :: 47 :: 47 :: (91 :: (s ++ [93] ++ 58 :: pt) ++ 47 :: P ++ 63 :: q) := by simp
  rw [e, this]
  by_cases hz : s = []
  · rw [if_pos hz, if_pos hz, if_neg (by decide)]
  · rw [if_neg hz, if_neg hz, if_pos rfl]
    simp

/-! the whole -/
def cleanP : Nat → Bool := fun n => !(octets_Range.p 0 (32 + 1) n || octets_Of.p [127] n)
def hostP : Nat → Bool := fun n => cleanP n && !octets_Of.p [47, 58, 35, 63, 33, 64, 123, 125, 91, 93, 92, 36, 39, 34, 94, 96, 42, 60, 62, 61, 59, 44] n
def pathP : Nat → Bool := fun n => cleanP n && !octets_Of.p [63, 35] n
def infoP : Nat → Bool := fun n => cleanP n && !octets_Of.p [47, 63, 35, 64] n
theorem kept (p : Nat → Bool) (q : UInt8 → Bool) (h : ((List.range 256).all fun n => p n == q (UInt8.ofNat n)) = true) (l : List UInt8) (hl : l.length ≤ 60) (k : Nat) (hk : 60 < k) :
    ∃ o, o.length ≤ 60 ∧ (∀ c ∈ o, q c = true) ∧ shibbolethlaw22_only.f k (S l) (Base.wd p 0) (Base.wd p 1) (Base.wd p 2) (Base.wd p 3) = some (S o) := by
  refine ⟨l.filter q, Nat.le_trans (List.length_filter_le _ _) hl, fun c hc => (List.mem_filter.1 hc).2, ?_⟩
  rw [only_ev p l hl k hk, filt p q h l]
theorem built_j0 (i0 h0 p0 a0 b0 : List UInt8) (hi : i0.length ≤ 60) (hh : h0.length ≤ 60) (hp : p0.length ≤ 60) (ha : a0.length ≤ 60) (hb : b0.length ≤ 60) (k : Nat) (hk : 1000 < k) :
    shibbolethlaw22_CurlBuilt.j0 (k + 1) (S i0) (S h0) (S p0) (S a0) (S b0) false = some true := by
  obtain ⟨h, hhl, hhc, hhO⟩ := kept hostP inHost (by kernel_rfl) h0 hh k (by omega)
  obtain ⟨P, hPl, hPc, hPO⟩ := kept pathP inPath (by kernel_rfl) a0 ha k (by omega)
  obtain ⟨pt, hpl, hpc, hpO⟩ := kept (octets_Range.p 48 (57 + 1)) digitB (by kernel_rfl) p0 hp k (by omega)
  obtain ⟨q, hql, hqc, hqO⟩ := kept cleanP cleanB (by kernel_rfl) b0 hb k (by omega)
  obtain ⟨A, hAl, hAc, hAO⟩ := kept infoP inInfo (by kernel_rfl) i0 hi k (by omega)
  obtain ⟨s, hsl, hsc, hsO⟩ := kept (octets_Of.p [48, 49, 50, 51, 52, 53, 54, 55, 56, 57, 97, 98, 99, 100, 101, 102, 65, 66, 67, 68, 69, 70, 58, 46]) hexC (by kernel_rfl) h0 hh k (by omega)
  have e58 : (⟨#[58]⟩ : ByteArray) = S [58] := rfl
  have e47 : (⟨#[47]⟩ : ByteArray) = S [47] := rfl
  have e104 : (⟨#[104]⟩ : ByteArray) = S [104] := rfl
  have e63 : (⟨#[63]⟩ : ByteArray) = S [63] := rfl
  have e64 : (⟨#[64]⟩ : ByteArray) = S [64] := rfl
  have e91 : (⟨#[91]⟩ : ByteArray) = S [91] := rfl
  have e93 : (⟨#[93]⟩ : ByteArray) = S [93] := rfl
  have ex : (⟨#[120, 58, 47, 47]⟩ : ByteArray) = S [120, 58, 47, 47] := rfl
  rw [shibbolethlaw22_CurlBuilt.j0, if_neg (by decide), e58, e47, e104, e63, e64, e91, e93, ex]
  refine Option.bind_eq_some_iff.2 ⟨_, Range_eq 0 32 (by decide), ?_⟩
  refine Option.bind_eq_some_iff.2 ⟨_, Of_eq [127] (by decide), ?_⟩
  refine Option.bind_eq_some_iff.2 ⟨_, octets_Or.set _ _, ?_⟩
  refine Option.bind_eq_some_iff.2 ⟨_, octets_Not.set _, ?_⟩
  refine Option.bind_eq_some_iff.2 ⟨_, Of_eq _ (by decide), ?_⟩
  refine Option.bind_eq_some_iff.2 ⟨_, octets_Not.set _, ?_⟩
  refine Option.bind_eq_some_iff.2 ⟨_, octets_And.set _ _, ?_⟩
  refine Option.bind_eq_some_iff.2 ⟨_, hhO, ?_⟩
  have g1 : (S [104] ++ S h) = S (104 :: h) := S_append [104] h
  have g2 : (S [47] ++ S P) = S (47 :: P) := S_append [47] P
  have g3 : (S [58] ++ S pt) = S (58 :: pt) := S_append [58] pt
  have g4 : (S [91] ++ S s) = S (91 :: s) := S_append [91] s
  have b1 : ∀ l : List UInt8, l.length ≤ 60 → 1 + (S l).size ≤ 9223372036854775807 := fun l hl => by rw [S_size]; omega
  rw [if_pos (b1 h hhl), g1]
  refine Option.bind_eq_some_iff.2 ⟨_, Of_eq _ (by decide), ?_⟩
  refine Option.bind_eq_some_iff.2 ⟨_, octets_Not.set _, ?_⟩
  refine Option.bind_eq_some_iff.2 ⟨_, octets_And.set _ _, ?_⟩
  refine Option.bind_eq_some_iff.2 ⟨_, hPO, ?_⟩
  rw [if_pos (b1 P hPl), g2]
  refine Option.bind_eq_some_iff.2 ⟨_, Range_eq 48 57 (by decide), ?_⟩
  refine Option.bind_eq_some_iff.2 ⟨_, hpO, ?_⟩
  rw [if_pos (b1 pt hpl), g3, if_pos (by rw [S_size, S_size, List.length_cons, List.length_cons]; omega), S_append, if_pos (by rw [S_size, List.length_append, List.length_cons, List.length_cons]; omega), S_append]
  refine Option.bind_eq_some_iff.2 ⟨_, hqO, ?_⟩
  rw [if_pos (by rw [S_size, S_size]; simp only [List.length_append, List.length_cons, List.length_nil]; omega), S_append]
  refine Option.bind_eq_some_iff.2 ⟨_, Of_eq _ (by decide), ?_⟩
  refine Option.bind_eq_some_iff.2 ⟨_, octets_Not.set _, ?_⟩
  refine Option.bind_eq_some_iff.2 ⟨_, octets_And.set _ _, ?_⟩
  refine Option.bind_eq_some_iff.2 ⟨_, hAO, ?_⟩
  rw [if_pos (by rw [S_size]; omega), S_append, if_pos (by rw [S_size]; simp only [List.length_append, List.length_cons, List.length_nil]; omega), S_append, if_pos (by rw [S_size, S_size]; simp only [List.length_append, List.length_cons, List.length_nil]; omega), S_append, if_pos (by rw [S_size, S_size]; simp only [List.length_append, List.length_cons, List.length_nil]; omega), S_append]
  refine Option.bind_eq_some_iff.2 ⟨_, Of_eq _ (by decide), ?_⟩
  refine Option.bind_eq_some_iff.2 ⟨_, hsO, ?_⟩
  rw [if_pos (b1 s hsl), g4, if_pos (by rw [S_size]; simp only [List.length_cons]; omega), S_append, if_pos (by rw [S_size]; simp only [List.length_append, List.length_cons, List.length_nil]; omega), S_append, if_pos (by rw [S_size, S_size]; simp only [List.length_append, List.length_cons, List.length_nil]; omega), S_append]
  have hw := built_w A h pt P q hAc hhc hpc hPc hqc
  have h6 := built_six s pt P q (List.all_eq_true.2 hsc) hpc hPc hqc
  have hl1 : ([120, 58, 47, 47] ++ (91 :: s ++ [93]) ++ (58 :: pt ++ 47 :: P ++ [63] ++ q)).length ≤ 500 := by simp only [List.length_append, List.length_cons, List.length_nil]; omega
  have hl2 : ([120, 58, 47, 47] ++ A ++ [64] ++ (104 :: h) ++ (58 :: pt ++ 47 :: P ++ [63] ++ q)).length ≤ 500 := by simp only [List.length_append, List.length_cons, List.length_nil]; omega
  refine Option.bind_eq_some_iff.2 ⟨_, Parse_ev _ (by unfold Sm; omega) k (by omega), ?_⟩
  refine Option.bind_eq_some_iff.2 ⟨_, Parse_ev _ (by unfold Sm; omega) k (by omega), ?_⟩
  rw [hw, h6]
  have hAw := Option.bind_eq_some_iff.2 ⟨_, awake22b k (by omega), (rfl : (some true : Option Bool) = some true)⟩
  rw [if_pos (by unfold toB; simp)]
  by_cases hz : s = []
  · rw [if_pos hz, if_pos (by rw [hz]; rfl), if_pos (by unfold toB; simp)]
    exact Option.bind_eq_some_iff.2 ⟨_, awake22b k (by omega), rfl⟩
  · have hs2 : ¬ ((S (91 :: s ++ [93])).size : Int) = 2 := by
      rw [S_size]
      have : 0 < s.length := List.length_pos_iff.2 hz
      simp only [List.length_append, List.length_cons, List.length_nil]
      omega
    rw [if_neg hz, if_neg hs2, if_pos (by unfold toB; simp)]
    exact Option.bind_eq_some_iff.2 ⟨_, awake22b k (by omega), rfl⟩
theorem CurlBuilt : shibbolethlaw22_CurlBuilt.Pure := by
  intro a0 a1 a2 a3 a4 _ _ _ _ _
  obtain ⟨i0, rfl⟩ := S_surj a0
  obtain ⟨h0, rfl⟩ := S_surj a1
  obtain ⟨p0, rfl⟩ := S_surj a2
  obtain ⟨q0, rfl⟩ := S_surj a3
  obtain ⟨b0, rfl⟩ := S_surj a4
  refine ⟨2001, ?_⟩
  have hT : shibbolethlaw22_CurlBuilt.j0 2001 (S i0) (S h0) (S p0) (S q0) (S b0) true = some true := by
    rw [shibbolethlaw22_CurlBuilt.j0, if_pos rfl]
    exact Option.bind_eq_some_iff.2 ⟨_, awake22b 2000 (by omega), rfl⟩
  unfold shibbolethlaw22_CurlBuilt.f
  by_cases c0 : ((S i0).size : Int) > 60
  · rw [if_pos c0]; exact hT
  rw [if_neg c0]
  by_cases c1 : ((S h0).size : Int) > 60
  · rw [if_pos c1]; exact hT
  rw [if_neg c1]
  by_cases c2 : ((S p0).size : Int) > 60
  · rw [if_pos c2]; exact hT
  rw [if_neg c2]
  by_cases c3 : ((S q0).size : Int) > 60
  · rw [if_pos c3]; exact hT
  rw [if_neg c3]
  by_cases c4 : ((S b0).size : Int) > 60
  · rw [decide_eq_true c4]; exact hT
  rw [decide_eq_false c4]
  rw [S_size] at c0 c1 c2 c3 c4
  exact built_j0 i0 h0 p0 q0 b0 (by omega) (by omega) (by omega) (by omega) (by omega) 2000 (by omega)
end Go.Proofs.Ytpejenbhgfbjjaa.Pure

/- WhatwgParts answers true for every input: a special scheme, slashes, anything up to @, a host, a port, a path, and anything behind ?, side by side, are told as this host and this path (no conditions but the row's own). -/
import Derived.Test.YtiihgddpejmehaaGreatDoorWh2
import Derived.Test.YtiihgddpejmehaaGreatDoorZA10
import Derived.Test.YtiihgddpejmehaaGreatDoorZA8
import Derived.Test.YtiihgddpejmehaaGreatDoorZA9
namespace Go.Proofs.YtiihgddpejmehaaGreatDoor.Pure
open Go.RowKit Go.Proofs.YtiihgddpejmehaaGreatDoor.ZA Go.Proofs.YtiihgddpejmehaaGreatDoorW.PrintWords Go.Proofs.YtiihgddpejmehaaGreatDoorW.PrintLast Go.Proofs.YtiihgddpejmehaaGreatDoor.L Go.Proofs.YtiihgddpejmehaaGreatDoor.Str Go.Proofs.YtiihgddpejmehaaGreatDoor.Wh

set_option linter.unusedSimpArgs false
set_option linter.unusedVariables false
theorem shibbolethlaw18_has_l1 (l m : List UInt8) (hl : Sm l) (hm : Sm m) (i : Nat) (hi : i < l.length) : ∀ (d j k : Nat), j + d = m.length →
    shibbolethlaw18_has.l1 (k + d + 1) (S l) (S m) (i : Int) (j : Int) = if (m.drop j).contains l[i] = true then some true else shibbolethlaw18_has.l0 k (S l) (S m) ((i + 1 : Nat) : Int)
  | 0, j, k, h => by
    rw [shibbolethlaw18_has.l1, if_neg (by rw [S_size]; omega), wrap_succ i (by unfold Sm at hl; omega), List.drop_of_length_le (by omega)]
    rfl
  | d + 1, j, k, h => by
    have hlt : j < m.length := by omega
    have hd : m.drop j = m[j] :: m.drop (j + 1) := List.drop_eq_getElem_cons hlt
    rw [show k + (d + 1) + 1 = (k + d + 1) + 1 by omega, shibbolethlaw18_has.l1, if_pos (by rw [S_size]; omega), if_pos (by omega), if_pos (by rw [S_size]; omega), if_pos (by omega), bt_S l i hi, bt_S m j hlt, wrap_succ j (by unfold Sm at hm; omega), shibbolethlaw18_has_l1 l m hl hm i hi d (j + 1) k (by omega), hd, List.contains_cons]
    by_cases hc : l[i] = m[j]
    · rw [if_pos (by rw [hc]), hc, beq_self_eq_true, Bool.true_or, if_pos rfl]
    · have : (l[i] == m[j]) = false := beq_eq_false_iff_ne.2 hc
      rw [if_neg (fun h => hc (UInt8.toNat_inj.1 (by omega))), this, Bool.false_or]
theorem shibbolethlaw18_has_l0 (l m : List UInt8) (hl : Sm l) (hm : Sm m) : ∀ (d i k : Nat), i + d = l.length → d * (m.length + 2) < k → shibbolethlaw18_has.l0 k (S l) (S m) (i : Int) = some ((l.drop i).any fun c => m.contains c)
  | 0, i, k, h, hk => by
    obtain ⟨k, rfl⟩ : ∃ m, k = m + 1 := ⟨k - 1, by omega⟩
    rw [shibbolethlaw18_has.l0, if_neg (by rw [S_size]; omega), List.drop_of_length_le (by omega)]
    rfl
  | d + 1, i, k, h, hk => by
    have hlt : i < l.length := by omega
    have hd : l.drop i = l[i] :: l.drop (i + 1) := List.drop_eq_getElem_cons hlt
    rw [Nat.succ_mul] at hk
    obtain ⟨k, rfl⟩ : ∃ n, k = (n + m.length + 1) + 1 := ⟨k - m.length - 2, by omega⟩
    have h1 := shibbolethlaw18_has_l1 l m hl hm i hlt m.length 0 k (by omega)
    rw [show ((0 : Nat) : Int) = 0 from rfl, List.drop_zero] at h1
    rw [shibbolethlaw18_has.l0, if_pos (by rw [S_size]; omega), h1, shibbolethlaw18_has_l0 l m hl hm d (i + 1) k (by omega) (by omega), hd, List.any_cons]
    by_cases hc : m.contains l[i] = true
    · rw [if_pos hc, hc, Bool.true_or]
    · rw [if_neg hc, Bool.eq_false_iff.2 hc, Bool.false_or]
theorem shibbolethlaw18_has_ev (l m : List UInt8) (hl : Sm l) (hm : Sm m) (k : Nat) (hk : l.length * (m.length + 2) < k) : shibbolethlaw18_has.f k (S l) (S m) = some (l.any fun c => m.contains c) := by
  have := shibbolethlaw18_has_l0 l m hl hm l.length 0 k (by omega) hk
  rwa [List.drop_zero] at this

theorem awake18p (k : Nat) (hk : 100 ≤ k) : shibbolethlaw18_awake.f k = some true := at_rounds (g := fun k => shibbolethlaw18_awake.f k) shibbolethlaw18_awake.mono hk (by kernel_rfl)
theorem low_l0 (l : List UInt8) (hl : Sm l) : ∀ (d i k : Nat), i + d = l.length → d < k → shibbolethlaw18_low.l0 k (S l) (i : Int) = some ((l.drop i).any fun c => decide (c.toNat ≤ 32))
  | 0, i, k, h, hk => by
    obtain ⟨k, rfl⟩ : ∃ m, k = m + 1 := ⟨k - 1, by omega⟩
    rw [shibbolethlaw18_low.l0, if_neg (by rw [S_size]; omega), List.drop_of_length_le (by omega)]
    rfl
  | d + 1, i, k, h, hk => by
    obtain ⟨k, rfl⟩ : ∃ m, k = m + 1 := ⟨k - 1, by omega⟩
    have hlt : i < l.length := by omega
    have hd : l.drop i = l[i] :: l.drop (i + 1) := List.drop_eq_getElem_cons hlt
    rw [shibbolethlaw18_low.l0, if_pos (by rw [S_size]; omega), if_pos (by omega), bt_S l i hlt, wrap_succ i (by unfold Sm at hl; omega), hd, List.any_cons]
    by_cases hc : l[i].toNat ≤ 32
    · rw [if_pos (by omega), decide_eq_true hc, Bool.true_or]
    · rw [if_neg (by omega), decide_eq_false hc, Bool.false_or, low_l0 l hl d (i + 1) k (by omega) (by omega)]
theorem low_ev (l : List UInt8) (hl : Sm l) (k : Nat) (hk : l.length < k) : shibbolethlaw18_low.f k (S l) = some (l.any fun c => decide (c.toNat ≤ 32)) := by
  have := low_l0 l hl l.length 0 k (by omega) hk
  rwa [List.drop_zero] at this

/-! bytes -/
theorem byte_imp18p {p q : UInt8 → Bool} (h : ((List.range 256).all fun n => !(p (UInt8.ofNat n)) || q (UInt8.ofNat n)) = true) (c : UInt8) (hc : p c = true) : q c = true := by
  have h5 := all_bytes (p := fun n => !(p (UInt8.ofNat n)) || q (UInt8.ofNat n)) h c
  rw [UInt8.ofNat_toNat, hc] at h5
  exact h5
theorem all_imp {p q : UInt8 → Bool} (h : ((List.range 256).all fun n => !(p (UInt8.ofNat n)) || q (UInt8.ofNat n)) = true) {l : List UInt8} (hl : l.all p = true) : l.all q = true :=
  List.all_eq_true.2 fun c hc => byte_imp18p h c (List.all_eq_true.1 hl c hc)
theorem tw_all {p : UInt8 → Bool} {a : List UInt8} (ha : a.all p = true) {c : UInt8} (hc : p c = false) (t : List UInt8) : (a ++ c :: t).takeWhile p = a ∧ (a ++ c :: t).dropWhile p = c :: t := by
  constructor
  · rw [List.takeWhile_append_of_pos (List.all_eq_true.1 ha), List.takeWhile_cons, if_neg (by rw [hc]; decide), List.append_nil]
  · rw [List.dropWhile_append_of_pos (List.all_eq_true.1 ha), List.dropWhile_cons, if_neg (by rw [hc]; decide)]
theorem tw_whole {p : UInt8 → Bool} {a : List UInt8} (ha : a.all p = true) : a.takeWhile p = a ∧ a.dropWhile p = [] := by
  have h1 := List.takeWhile_append_of_pos (l₂ := []) (List.all_eq_true.1 ha)
  have h2 := List.dropWhile_append_of_pos (l₂ := []) (List.all_eq_true.1 ha)
  exact ⟨by simpa using h1, by simpa using h2⟩
theorem behindLast_at (c : UInt8) (u v : List UInt8) (hv : ∀ x ∈ v, x ≠ c) : behindLast c (u ++ c :: v) = v := by
  unfold behindLast
  have e : (u ++ c :: v).reverse = v.reverse ++ c :: u.reverse := by simp
  have hr : v.reverse.all (fun x => !(x == c)) = true := List.all_eq_true.2 fun x hx => by simpa using hv x (List.mem_reverse.1 hx)
  rw [e, (tw_all hr (c := c) (by simp) u.reverse).1, List.reverse_reverse]
def inUser (c : UInt8) : Bool := !([47, 92, 63, 35, 9, 10, 13] : List UInt8).contains c
def inHost (c : UInt8) : Bool := !([47, 92, 63, 35, 64, 58, 91, 93, 60, 62, 94, 124, 127] : List UInt8).contains c && !decide (c.toNat ≤ 32)
def inPath (c : UInt8) : Bool := !([63, 35, 9, 10, 13] : List UInt8).contains c

theorem trim_solid_p (x z : UInt8) (m : List UInt8) (hx : Wh.blank x = false) (hz : Wh.blank z = false) : trimL (x :: m ++ [z]) = x :: m ++ [z] := by
  unfold trimL
  have e1 : (x :: m ++ [z]).dropWhile Wh.blank = x :: m ++ [z] := by rw [List.cons_append, List.dropWhile_cons, if_neg (by rw [hx]; decide)]
  rw [e1, List.reverse_append]
  have e2 : ([z].reverse ++ (x :: m).reverse).dropWhile Wh.blank = [z].reverse ++ (x :: m).reverse := by
    show (z :: (x :: m).reverse).dropWhile Wh.blank = z :: (x :: m).reverse
    rw [List.dropWhile_cons, if_neg (by rw [hz]; decide)]
  rw [e2, ← List.reverse_append, List.reverse_reverse]
theorem schemeL_mk_p (s r : List UInt8) (h : okScheme s = true) : schemeL (s ++ 58 :: r) = (s, r, true) := by
  have ha : s.all schemeB = true := by
    cases s with
    | nil => rfl
    | cons x t => unfold okScheme at h; rw [Bool.and_eq_true] at h; exact h.2
  obtain ⟨e1, e2⟩ := tw_all (all_imp (p := schemeB) (q := fun c => !(c == 58)) (by kernel_rfl) ha) (c := 58) (by decide) r
  unfold schemeL cutL
  simp only [e1, e2]
  rw [if_pos ⟨by simp, h⟩]
  rfl
theorem host_parts (user host pt : List UInt8) (hh : host.all inHost = true) (hne : host ≠ []) (hpt : pt = [] ∨ pt = [58, 56, 48]) : hostL (user ++ 64 :: (host ++ pt)) = (host, true) := by
  have hno64 : ∀ x ∈ host ++ pt, x ≠ 64 := by
    intro x hx
    rcases List.mem_append.1 hx with hx | hx
    · simpa using byte_imp18p (p := inHost) (q := fun c => !(c == 64)) (by kernel_rfl) x (List.all_eq_true.1 hh x hx)
    · rcases hpt with rfl | rfl
      · cases hx
      · simp only [List.mem_cons, List.not_mem_nil, or_false] at hx
        rcases hx with rfl | rfl | rfl <;> decide
  have hpl : placeL (user ++ 64 :: (host ++ pt)) = host ++ pt := behindLast_at 64 user (host ++ pt) hno64
  have hnb : host.all nb = true := all_imp (p := inHost) (q := nb) (by kernel_rfl) hh
  have h58 : host.all (fun x => !(x == 58)) = true := all_imp (p := inHost) (q := fun x => !(x == 58)) (by kernel_rfl) hh
  have hemp : (!host.isEmpty) = true := by
    cases host with
    | nil => exact absurd rfl hne
    | cons _ _ => rfl
  have hn : namedL (host ++ pt) = (host, pt, true) := by
    unfold namedL headL
    rcases hpt with rfl | rfl
    · rw [List.append_nil, (tw_whole h58).1, (tw_whole h58).2, if_pos hnb, hemp]
    · rw [(tw_all h58 (c := 58) (by decide) [56, 48]).1, (tw_all h58 (c := 58) (by decide) [56, 48]).2, if_pos hnb, hemp]
  have hs : splitL (host ++ pt) = namedL (host ++ pt) := by
    cases host with
    | nil => exact absurd rfl hne
    | cons x t =>
      have hx : inHost x = true := by rw [List.all_cons, Bool.and_eq_true] at hh; exact hh.1
      unfold splitL
      split
      · rename_i t2 e
        have : x = 91 := (List.cons.inj e).1
        rw [this] at hx
        exact absurd hx (by decide)
      · rfl
  have hp : portL pt = true := by rcases hpt with rfl | rfl <;> rfl
  unfold hostL
  rw [hpl, hs, hn]
  exact if_pos ⟨rfl, hp⟩
theorem parse_parts (sch sl user host pt path query : List UInt8) (hok : okScheme sch = true) (hsp : specL sch = true) (hsl : sl.all sl2 = true) (hu : user.all inUser = true) (hh : host.all inHost = true) (hne : host ≠ []) (hpt : pt = [] ∨ pt = [58, 56, 48]) (hpa : path.all inPath = true) :
    parseL (sch ++ [58] ++ sl ++ user ++ [64] ++ host ++ pt ++ [47] ++ path ++ [63] ++ query ++ [120]) = (true, host, 47 :: path) := by
  have hsch : sch.all schemeB = true := by
    cases sch with
    | nil => rfl
    | cons x t => unfold okScheme at hok; rw [Bool.and_eq_true] at hok; exact hok.2
  have hkeep : (sch ++ [58] ++ sl ++ user ++ [64] ++ host ++ pt ++ [47] ++ path ++ [63]).all keep = true := by
    have hptk : pt.all keep = true := by rcases hpt with rfl | rfl <;> decide
    simp only [List.all_append, List.all_cons, List.all_nil, all_imp (p := schemeB) (q := keep) (by kernel_rfl) hsch, all_imp (p := sl2) (q := keep) (by kernel_rfl) hsl, all_imp (p := inUser) (q := keep) (by kernel_rfl) hu, all_imp (p := inHost) (q := keep) (by kernel_rfl) hh, all_imp (p := inPath) (q := keep) (by kernel_rfl) hpa, hptk]
    decide
  have ht : textL (sch ++ [58] ++ sl ++ user ++ [64] ++ host ++ pt ++ [47] ++ path ++ [63] ++ query ++ [120]) = sch ++ 58 :: (sl ++ (user ++ 64 :: (host ++ pt) ++ 47 :: (path ++ 63 :: (query.filter keep ++ [120])))) := by
    obtain ⟨x, m, hx, hb⟩ : ∃ x m, sch = x :: m ∧ Wh.blank x = false := by
      cases sch with
      | nil => unfold okScheme at hok; cases hok
      | cons x m =>
        have h1 : schemeB x = true := by rw [List.all_cons, Bool.and_eq_true] at hsch; exact hsch.1
        have h2 := byte_imp18p (p := schemeB) (q := fun c => !decide (c.toNat ≤ 32)) (by kernel_rfl) x h1
        exact ⟨x, m, rfl, by simpa [Wh.blank, whatwg_Text.blank] using h2⟩
    have hf : (sch ++ [58] ++ sl ++ user ++ [64] ++ host ++ pt ++ [47] ++ path ++ [63] ++ query ++ [120]).filter keep = sch ++ [58] ++ sl ++ user ++ [64] ++ host ++ pt ++ [47] ++ path ++ [63] ++ query.filter keep ++ [120] := by
      rw [List.filter_append, List.filter_append, List.filter_eq_self.2 (List.all_eq_true.1 hkeep)]
      rfl
    rw [textL_trim, hf]
    have := trim_solid_p x 120 (m ++ [58] ++ sl ++ user ++ [64] ++ host ++ pt ++ [47] ++ path ++ [63] ++ query.filter keep) hb (by decide)
    rw [hx]
    have e : x :: m ++ [58] ++ sl ++ user ++ [64] ++ host ++ pt ++ [47] ++ path ++ [63] ++ query.filter keep ++ [120] = x :: (m ++ [58] ++ sl ++ user ++ [64] ++ host ++ pt ++ [47] ++ path ++ [63] ++ query.filter keep) ++ [120] := by simp
    rw [e, this]
    simp
  have hdrop : (sl ++ (user ++ 64 :: (host ++ pt) ++ 47 :: (path ++ 63 :: (query.filter keep ++ [120])))).dropWhile sl2 = user ++ 64 :: (host ++ pt) ++ 47 :: (path ++ 63 :: (query.filter keep ++ [120])) := by
    rw [List.dropWhile_append_of_pos (List.all_eq_true.1 hsl)]
    cases user with
    | nil => rw [List.nil_append, List.cons_append, List.dropWhile_cons, if_neg (by decide)]
    | cons x t =>
      have h1 : inUser x = true := by rw [List.all_cons, Bool.and_eq_true] at hu; exact hu.1
      have h2 := byte_imp18p (p := inUser) (q := fun c => !sl2 c) (by kernel_rfl) x h1
      rw [List.cons_append, List.cons_append, List.dropWhile_cons, if_neg (by simpa using h2)]
  have hnm : (user ++ 64 :: (host ++ pt)).all (nm [47, 92, 63, 35]) = true := by
    have hptn : pt.all (nm [47, 92, 63, 35]) = true := by rcases hpt with rfl | rfl <;> decide
    simp only [List.all_append, List.all_cons, all_imp (p := inUser) (q := nm [47, 92, 63, 35]) (by kernel_rfl) hu, all_imp (p := inHost) (q := nm [47, 92, 63, 35]) (by kernel_rfl) hh, hptn]
    decide
  obtain ⟨h1, h2⟩ := tw_all hnm (c := 47) (by decide) (path ++ 63 :: (query.filter keep ++ [120]))
  have hq : (47 :: path).all nq = true := by
    rw [List.all_cons, all_imp (p := inPath) (q := nq) (by kernel_rfl) hpa]; decide
  have h3 : (47 :: (path ++ 63 :: (query.filter keep ++ [120]))).takeWhile nq = 47 :: path := (tw_all hq (c := 63) (by decide) (query.filter keep ++ [120])).1
  have hH := host_parts user host pt hh hne hpt
  unfold parseL toldL
  rw [ht, schemeL_mk_p sch _ hok]
  rw [if_pos (show ((sch, sl ++ (user ++ 64 :: (host ++ pt) ++ 47 :: (path ++ 63 :: (query.filter keep ++ [120]))), true) : List UInt8 × List UInt8 × Bool).2.2 = true from rfl)]
  show behindL (specL sch) (sl ++ (user ++ 64 :: (host ++ pt) ++ 47 :: (path ++ 63 :: (query.filter keep ++ [120])))) = _
  unfold behindL
  rw [if_pos hsp, hdrop]
  unfold restL
  rw [if_pos rfl, h1, h2, h3, hH, if_pos rfl]

/-! the law -/
theorem parts_j2 (sch sl user host path query : List UInt8) (port : Int) (hok : okScheme sch = true) (hsp : specL sch = true) (hsl : sl.all sl2 = true) (hl0 : sch.length ≤ 10) (hl1 : sl.length ≤ 20) (hl2 : user.length ≤ 300) (hl3 : host.length ≤ 300) (hl4 : path.length ≤ 300) (hl5 : query.length ≤ 300) (k : Nat) (hk : 6000 < k) (b : Bool)
    (hb : b = false → user.all inUser = true ∧ host.all inHost = true ∧ host ≠ [] ∧ path.all inPath = true) :
    shibbolethlaw18_WhatwgParts.j2 (k + 1) (S user) (S host) (S path) (S query) port (S (sch ++ [58] ++ sl)) b = some true := by
  have hAw : ((shibbolethlaw18_awake.f k).bind fun t => some t) = some true := Option.bind_eq_some_iff.2 ⟨_, awake18p k (by omega), rfl⟩
  rw [shibbolethlaw18_WhatwgParts.j2]
  cases b
  · obtain ⟨hu, hh, hne, hpa⟩ := hb rfl
    have e64 : (⟨#[64]⟩ : ByteArray) = S [64] := rfl
    have e58 : (⟨#[58, 56, 48]⟩ : ByteArray) = S [58, 56, 48] := rfl
    have e47 : (⟨#[47]⟩ : ByteArray) = S [47] := rfl
    have e63 : (⟨#[63]⟩ : ByteArray) = S [63] := rfl
    have e120 : (⟨#[120]⟩ : ByteArray) = S [120] := rfl
    have g47 : S [47] ++ S path = S (47 :: path) := S_append [47] path
    rw [if_neg (by decide), e64, e58, e47, e63, e120, g47]
    rw [if_pos (by rw [S_size, S_size]; simp only [List.length_append, List.length_cons, List.length_nil]; omega), S_append, if_pos (by rw [S_size]; simp only [List.length_append, List.length_cons, List.length_nil]; omega), S_append, if_pos (by rw [S_size, S_size]; simp only [List.length_append, List.length_cons, List.length_nil]; omega), S_append]
    by_cases hp : Int.tmod port 2 = 1
    · rw [if_pos hp]
      rw [if_pos (by rw [S_size]; simp only [List.length_append, List.length_cons, List.length_nil]; omega), S_append, if_pos (by rw [S_size]; simp only [List.length_append, List.length_cons, List.length_nil]; omega), S_append, if_pos (by rw [S_size, S_size]; simp only [List.length_append, List.length_cons, List.length_nil]; omega), S_append, if_pos (by rw [S_size]; simp only [List.length_append, List.length_cons, List.length_nil]; omega), S_append, if_pos (by rw [S_size, S_size]; simp only [List.length_append, List.length_cons, List.length_nil]; omega), S_append, if_pos (by rw [S_size]; simp only [List.length_append, List.length_cons, List.length_nil]; omega), S_append]
      have hP := parse_parts sch sl user host [58, 56, 48] path query hok hsp hsl hu hh hne (.inr rfl) hpa
      have hlen : (sch ++ [58] ++ sl ++ user ++ [64] ++ host ++ [58, 56, 48] ++ [47] ++ path ++ [63] ++ query ++ [120]).length ≤ 2000 := by simp only [List.length_append, List.length_cons, List.length_nil]; omega
      refine Option.bind_eq_some_iff.2 ⟨_, Parse_ev _ (by omega) k (by omega), ?_⟩
      rw [hP, if_pos (by rw [S_size]; omega), if_pos (by unfold out; simp)]
      exact hAw
    · rw [if_neg hp]
      rw [if_pos (by rw [S_size]; simp only [List.length_append, List.length_cons, List.length_nil]; omega), S_append, if_pos (by rw [S_size, S_size]; simp only [List.length_append, List.length_cons, List.length_nil]; omega), S_append, if_pos (by rw [S_size]; simp only [List.length_append, List.length_cons, List.length_nil]; omega), S_append, if_pos (by rw [S_size, S_size]; simp only [List.length_append, List.length_cons, List.length_nil]; omega), S_append, if_pos (by rw [S_size]; simp only [List.length_append, List.length_cons, List.length_nil]; omega), S_append]
      have hP := parse_parts sch sl user host [] path query hok hsp hsl hu hh hne (.inl rfl) hpa
      rw [List.append_nil] at hP
      have hlen : (sch ++ [58] ++ sl ++ user ++ [64] ++ host ++ [47] ++ path ++ [63] ++ query ++ [120]).length ≤ 2000 := by simp only [List.length_append, List.length_cons, List.length_nil]; omega
      refine Option.bind_eq_some_iff.2 ⟨_, Parse_ev _ (by omega) k (by omega), ?_⟩
      rw [hP, if_pos (by rw [S_size]; omega), if_pos (by unfold out; simp)]
      exact hAw
  · rw [if_pos rfl]
    exact hAw
theorem any_not {l m : List UInt8} {q : UInt8 → Bool} (h : (l.any fun c => m.contains c) = false) (hq : ∀ c, m.contains c = false → q c = true) : l.all q = true :=
  List.all_eq_true.2 fun c hc => hq c (by have := List.any_eq_false.1 h c hc; exact Bool.eq_false_iff.2 this)
theorem parts_l0 (sch user host path query : List UInt8) (l1 : List Bool) (port : Int) (hok : okScheme sch = true) (hsp : specL sch = true) (hl0 : sch.length ≤ 10) (hl1 : l1.length ≤ 20) (hl2 : user.length ≤ 300) (hl3 : host.length ≤ 300) (hl4 : path.length ≤ 300) (hl5 : query.length ≤ 300) : ∀ (d i k : Nat) (sl : List UInt8), i + d = l1.length → d + 7000 < k → sl.length = i → sl.all sl2 = true →
    shibbolethlaw18_WhatwgParts.l0 k l1 (S user) (S host) (S path) (S query) port (S (sch ++ [58] ++ sl)) (i : Int) = some true := by
  intro d
  induction d with
  | zero =>
    intro i k sl h hk hsl hall
    obtain ⟨k, rfl⟩ : ∃ m, k = m + 2 := ⟨k - 2, by omega⟩
    have hsm : ∀ l : List UInt8, l.length ≤ 300 → Sm l := fun l hl => by unfold Sm; omega
    have hj := parts_j2 sch sl user host path query port hok hsp hall hl0 (by omega) hl2 hl3 hl4 hl5 k (by omega)
    rw [shibbolethlaw18_WhatwgParts.l0, if_neg (by omega)]
    refine Option.bind_eq_some_iff.2 ⟨_, shibbolethlaw18_has_ev user [47, 92, 63, 35, 9, 10, 13] (hsm _ hl2) (by decide) (k + 1) (by simp only [List.length_cons, List.length_nil]; omega), ?_⟩
    by_cases c1 : (user.any fun c => ([47, 92, 63, 35, 9, 10, 13] : List UInt8).contains c) = true
    · rw [if_pos c1]; exact hj true (by simp)
    rw [if_neg c1]
    refine Option.bind_eq_some_iff.2 ⟨_, shibbolethlaw18_has_ev host [47, 92, 63, 35, 64, 58, 91, 93, 60, 62, 94, 124, 127] (hsm _ hl3) (by decide) (k + 1) (by simp only [List.length_cons, List.length_nil]; omega), ?_⟩
    by_cases c2 : (host.any fun c => ([47, 92, 63, 35, 64, 58, 91, 93, 60, 62, 94, 124, 127] : List UInt8).contains c) = true
    · rw [if_pos c2]; exact hj true (by simp)
    rw [if_neg c2]
    refine Option.bind_eq_some_iff.2 ⟨_, low_ev host (hsm _ hl3) (k + 1) (by omega), ?_⟩
    by_cases c3 : (host.any fun c => decide (c.toNat ≤ 32)) = true
    · rw [if_pos c3]; exact hj true (by simp)
    rw [if_neg c3, S_toList]
    by_cases c4 : host = []
    · rw [if_pos c4]; exact hj true (by simp)
    rw [if_neg c4]
    refine Option.bind_eq_some_iff.2 ⟨_, shibbolethlaw18_has_ev path [63, 35, 9, 10, 13] (hsm _ hl4) (by decide) (k + 1) (by simp only [List.length_cons, List.length_nil]; omega), ?_⟩
    refine hj _ fun c5 => ⟨any_not (Bool.eq_false_iff.2 c1) (fun c hc => by unfold inUser; rw [hc]; rfl), ?_, c4, any_not c5 (fun c hc => by unfold inPath; rw [hc]; rfl)⟩
    refine List.all_eq_true.2 fun c hc => ?_
    have h1 := List.any_eq_false.1 (Bool.eq_false_iff.2 c2) c hc
    have h2 := List.any_eq_false.1 (Bool.eq_false_iff.2 c3) c hc
    unfold inHost
    rw [Bool.eq_false_iff.2 h1, Bool.eq_false_iff.2 h2]
    rfl
  | succ d ih =>
    intro i k sl h hk hsl hall
    obtain ⟨k, rfl⟩ : ∃ m, k = m + 1 := ⟨k - 1, by omega⟩
    have e47 : (⟨#[47]⟩ : ByteArray) = S [47] := rfl
    have e92 : (⟨#[92]⟩ : ByteArray) = S [92] := rfl
    have hsz : (S (sch ++ [58] ++ sl)).size + 1 ≤ 9223372036854775807 := by rw [S_size]; simp only [List.length_append, List.length_cons, List.length_nil]; omega
    have hstep : ∀ c, sl2 c = true → shibbolethlaw18_WhatwgParts.l0 k l1 (S user) (S host) (S path) (S query) port (S (sch ++ [58] ++ sl) ++ S [c]) (wrap64 ((i : Int) + 1)) = some true := by
      intro c hc
      rw [S_append, List.append_assoc (sch ++ [58]) sl [c], wrap_succ i (by omega)]
      exact ih (i + 1) k (sl ++ [c]) (by omega) (by omega) (by rw [List.length_append, List.length_singleton]; omega) (by rw [List.all_append, hall, List.all_cons, hc]; rfl)
    rw [shibbolethlaw18_WhatwgParts.l0, if_pos (by omega), if_pos (by omega), e47, e92]
    by_cases hc : rdOf false l1 (i : Int) = true
    · rw [if_pos hc, if_pos hsz]; exact hstep 47 (by decide)
    · rw [if_neg hc, if_pos hsz]; exact hstep 92 (by decide)
def names18 : List (List UInt8) := [[102, 116, 112], [72, 84, 84, 80], [104, 116, 116, 112, 83], [119, 115], [87, 83, 115]]
theorem name_of (n : Nat) (hn : n < 5) : ∃ s, rdOf ByteArray.empty ([(⟨#[102, 116, 112]⟩ : ByteArray), (⟨#[72, 84, 84, 80]⟩ : ByteArray), (⟨#[104, 116, 116, 112, 83]⟩ : ByteArray), (⟨#[119, 115]⟩ : ByteArray), (⟨#[87, 83, 115]⟩ : ByteArray)] : List ByteArray) (n : Int) = S s ∧ okScheme s = true ∧ specL s = true ∧ s.length ≤ 10 := by
  match n, hn with
  | 0, _ => exact ⟨[102, 116, 112], rfl, by decide, by kernel_rfl, by decide⟩
  | 1, _ => exact ⟨[72, 84, 84, 80], rfl, by decide, by kernel_rfl, by decide⟩
  | 2, _ => exact ⟨[104, 116, 116, 112, 83], rfl, by decide, by kernel_rfl, by decide⟩
  | 3, _ => exact ⟨[119, 115], rfl, by decide, by kernel_rfl, by decide⟩
  | 4, _ => exact ⟨[87, 83, 115], rfl, by decide, by kernel_rfl, by decide⟩
theorem tmod5 (n : Nat) : Int.tmod (n : Int) 5 = ((n % 5 : Nat) : Int) := by
  rw [Int.tmod_eq_emod_of_nonneg (Int.natCast_nonneg n)]; exact (Int.natCast_emod n 5).symm
theorem WhatwgParts : shibbolethlaw18_WhatwgParts.Pure := by
  intro a0 l1 a2 a3 a4 a5 a6 h0 _ _ _ _ _
  obtain ⟨user, rfl⟩ := S_surj a2
  obtain ⟨host, rfl⟩ := S_surj a3
  obtain ⟨path, rfl⟩ := S_surj a4
  obtain ⟨query, rfl⟩ := S_surj a5
  obtain ⟨n, rfl⟩ : ∃ n : Nat, a0 = n := by
    simp [Lit.wf, IntKind.min, IntKind.max, IntKind.signed, IntKind.bits] at h0
    exact ⟨a0.toNat, by omega⟩
  refine ⟨9001, ?_⟩
  have hT : shibbolethlaw18_WhatwgParts.j0 9001 (n : Int) l1 (S user) (S host) (S path) (S query) a6 true = some true := by
    rw [shibbolethlaw18_WhatwgParts.j0, if_pos rfl]
    exact Option.bind_eq_some_iff.2 ⟨_, awake18p 9000 (by omega), rfl⟩
  unfold shibbolethlaw18_WhatwgParts.f
  by_cases c0 : ((S user).size : Int) > 300
  · rw [if_pos c0]; exact hT
  rw [if_neg c0]
  by_cases c1 : ((S host).size : Int) > 300
  · rw [if_pos c1]; exact hT
  rw [if_neg c1]
  by_cases c2 : ((S path).size : Int) > 300
  · rw [if_pos c2]; exact hT
  rw [if_neg c2]
  by_cases c3 : ((S query).size : Int) > 300
  · rw [if_pos c3]; exact hT
  rw [if_neg c3]
  by_cases c4 : ((l1.length : Nat) : Int) > 20
  · rw [decide_eq_true c4]; exact hT
  rw [decide_eq_false c4]
  rw [S_size] at c0 c1 c2 c3
  obtain ⟨s, hs, hok, hsp, hsl⟩ := name_of (n % 5) (Nat.mod_lt n (by decide))
  have e58 : (⟨#[58]⟩ : ByteArray) = S [58] := rfl
  have hlt : ((n % 5 : Nat) : Int) < 5 := by
    have := Nat.mod_lt n (show 0 < 5 by decide)
    generalize n % 5 = m at *
    omega
  have hl := parts_l0 s user host path query l1 a6 hok hsp hsl (by omega) (by omega) (by omega) (by omega) (by omega) l1.length 0 9000 [] (by omega) (by omega) rfl rfl
  rw [List.append_nil] at hl
  rw [shibbolethlaw18_WhatwgParts.j0, if_neg (by decide), tmod5, if_pos (Int.natCast_nonneg _), if_pos hlt, hs, if_pos (by rw [S_size]; omega), e58, S_append]
  exact hl
end Go.Proofs.YtiihgddpejmehaaGreatDoor.Pure

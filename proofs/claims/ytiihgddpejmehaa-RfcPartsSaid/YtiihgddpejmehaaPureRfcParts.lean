/- RfcParts answers true for all texts: what is put together of a scheme, user, host, port, path, query and fragment, written as escapes where they are not letters, is told as this host and this path (no conditions but the row's size bounds). -/
import Derived.Test.YtiihgddpejmehaaRfcWay
import Derived.Test.YtiihgddpejmehaaZA10
import Derived.Test.YtiihgddpejmehaaZA12
import Derived.Test.YtiihgddpejmehaaZA4
namespace Go.Proofs.Ytiihgddpejmehaa.Pure
open Go.RowKit Go.Proofs.Ytiihgddpejmehaa.ZA Go.Proofs.YtiihgddpejmehaaW.PrintWords Go.Proofs.YtiihgddpejmehaaW.PrintLast Go.Proofs.Ytiihgddpejmehaa.L Go.Proofs.Ytiihgddpejmehaa.Str Go.Proofs.Ytiihgddpejmehaa.Rf

theorem awake19p (k : Nat) (hk : 100 ≤ k) : shibbolethlaw19_awake.f k = some true := at_rounds (g := fun k => shibbolethlaw19_awake.f k) shibbolethlaw19_awake.mono hk (by kernel_rfl)
/-! what is written as escapes -/
abbrev E (l : List UInt8) : List UInt8 := shibbolethlaw19_escaped.all l
theorem E_cons (c : UInt8) (t : List UInt8) : E (c :: t) = shibbolethlaw19_escaped.esc c ++ E t := List.flatMap_cons
theorem E_nil : E [] = [] := rfl
theorem esc_cases (c : UInt8) : (shibbolethlaw19_escaped.esc c = [c] ∧ plainB c = true) ∨ ∃ x y, shibbolethlaw19_escaped.esc c = [37, x, y] ∧ hexB x = true ∧ hexB y = true ∧ plainB x = true ∧ plainB y = true := by
  unfold shibbolethlaw19_escaped.esc
  by_cases h : 97 ≤ c.toNat ∧ c.toNat ≤ 122
  · rw [if_pos h]
    refine .inl ⟨rfl, ?_⟩
    unfold plainB letterB
    rw [decide_eq_true h.1, decide_eq_true h.2]
    rfl
  · rw [if_neg h]
    have hc := c.toNat_lt
    have key : ∀ n, n < 16 → hexB (shibbolethlaw19_escaped.row.getD n 0) = true ∧ plainB (shibbolethlaw19_escaped.row.getD n 0) = true := by decide
    exact .inr ⟨_, _, rfl, (key _ (by omega)).1, (key _ (by omega)).1, (key _ (by omega)).2, (key _ (by omega)).2⟩
theorem hex_not37 {x : UInt8} (h : hexB x = true) : (x == 37) = false := by
  have := byte_imp2 (p := hexB) (q := fun x => !(x == 37)) (by kernel_rfl) x h
  simpa using this
theorem plain_not37 {x : UInt8} (h : plainB x = true) : (x == 37) = false := by
  have := byte_imp2 (p := plainB) (q := fun x => !(x == 37)) (by kernel_rfl) x h
  simpa using this
theorem valid_plain {c : UInt8} (h : (c == 37) = false) (t : List UInt8) : validL (c :: t) = validL t := by
  rw [validL, h]
  rfl
theorem E_valid (t : List UInt8) : ∀ l : List UInt8, validL (E l ++ t) = validL t
  | [] => rfl
  | c :: l => by
    have ih := E_valid t l
    rw [E_cons]
    rcases esc_cases c with ⟨e, h⟩ | ⟨x, y, e, hx, hy, _, _⟩
    · rw [e]
      show validL (c :: (E l ++ t)) = _
      rw [valid_plain (plain_not37 h), ih]
    · rw [e]
      show validL (37 :: x :: y :: (E l ++ t)) = _
      rw [validL, valid_plain (hex_not37 hx), valid_plain (hex_not37 hy), ih]
      simp [escB, hx, hy]
theorem E_all (m : List UInt8) : ∀ l : List UInt8, ((E l).all fun c => plainB c || (m ++ [37]).contains c) = true
  | [] => rfl
  | c :: l => by
    have ih := E_all m l
    rw [E_cons, List.all_append, ih, Bool.and_true]
    rcases esc_cases c with ⟨e, h⟩ | ⟨x, y, e, _, _, hx, hy⟩
    · rw [e]
      simp [h]
    · rw [e]
      simp [hx, hy]
theorem E_named (l t m : List UInt8) (h : validL t = true) (ht : (t.all fun c => plainB c || (m ++ [37]).contains c) = true) : namedL (E l ++ t) m = true := by
  unfold namedL
  rw [E_valid, h, List.all_append, E_all, ht]
  rfl
theorem E_len (l : List UInt8) : (E l).length ≤ 3 * l.length := shibbolethlaw19_escaped.all_len l
theorem escaped_ev (l : List UInt8) (h : l.length ≤ 1000) : shibbolethlaw19_escaped.f (S l) = some (S (E l)) := by
  unfold shibbolethlaw19_escaped.f
  rw [if_pos (by rw [S_size]; omega)]
  rfl
/-! all of it -/
def portT (b : Bool) : List UInt8 := if b = true then [58, 48, 48, 56, 48] else []
def schT (b : Bool) : List UInt8 := if b = true then [97, 43, 98, 46, 99, 45, 57, 58] else []
def text (user host path query frag : List UInt8) (port sch : Bool) : List UInt8 :=
  schT sch ++ ([47, 47] ++ E user ++ [64] ++ E host) ++ portT port ++ (47 :: E path) ++ [63] ++ E query ++ [63, 47, 35] ++ E frag ++ [47, 63]
theorem text_way (user host path query frag : List UInt8) (port sch : Bool) : Rf.Way (text user host path query frag port sch) (E host) (47 :: E path) := by
  have hp : namedL (47 :: E path) [58, 64, 47] = true := by
    have h := E_named path [] [58, 64, 47] rfl rfl
    rw [List.append_nil] at h
    unfold namedL at h ⊢
    rw [Bool.and_eq_true] at h
    rw [valid_plain rfl, h.1, List.all_cons, h.2]
    rfl
  have hu : namedL (E user) [58] = true := by
    have h := E_named user [] [58] rfl rfl
    rwa [List.append_nil] at h
  have hh : namedL (E host) [] = true := by
    have h := E_named host [] [] rfl rfl
    rwa [List.append_nil] at h
  have hr : portR (portT port) := by
    cases port
    · exact .inl rfl
    · exact .inr ⟨[48, 48, 56, 48], rfl, by decide⟩
  refine ⟨schT sch ++ (47 :: 47 :: ((E user ++ 64 :: (E host ++ portT port)) ++ 47 :: E path)), 63 :: (E query ++ [63, 47]), _, 35 :: (E frag ++ [47, 63]), _, ⟨if sch = true then [97, 43, 98, 46, 99, 45, 57] else [], 47 :: 47 :: ((E user ++ 64 :: (E host ++ portT port)) ++ 47 :: E path), ?_, hp, .inr ⟨_, rfl, ?_, ⟨portT port, hr, isHost_named hh, .inr ⟨E user, hu, rfl⟩⟩⟩⟩, .inr ⟨rfl, ?_⟩, .inr ⟨rfl, ?_⟩, ?_⟩
  · cases sch
    · exact .inl ⟨rfl, rfl⟩
    · exact .inr ⟨by decide, rfl⟩
  · exact .inr ⟨47, _, rfl, by simp⟩
  · exact E_named query _ _ (by decide) (by decide)
  · exact E_named frag _ _ (by decide) (by decide)
  · unfold text
    simp
theorem text_len (user host path query frag : List UInt8) (port sch : Bool) (h : user.length + host.length + path.length + query.length + frag.length ≤ 1000) : (text user host path query frag port sch).length ≤ 3100 := by
  have h1 := E_len user
  have h2 := E_len host
  have h3 := E_len path
  have h4 := E_len query
  have h5 := E_len frag
  have h6 : (portT port).length ≤ 5 := by cases port <;> decide
  have h7 : (schT sch).length ≤ 8 := by cases sch <;> decide
  unfold text
  simp only [List.length_append, List.length_cons, List.length_nil]
  omega
theorem litS (l : List UInt8) : (⟨l.toArray⟩ : ByteArray) = S l := rfl
theorem parts_j1 (user host path query frag : List UInt8) (port sch : Bool) (h : user.length + host.length + path.length + query.length + frag.length ≤ 1000) (x : List UInt8)
    (hx : x ++ (47 :: E path) ++ [63] ++ E query ++ [63, 47, 35] ++ E frag ++ [47, 63] = text user host path query frag port sch) (k : Nat) (hk : 30000 < k) :
    shibbolethlaw19_RfcParts.j1 (k + 1) (S query) (S frag) (S (E host)) (S (47 :: E path)) (S x) = some true := by
  have hl := text_len user host path query frag port sch h
  have hxl := congrArg List.length hx
  simp only [List.length_append, List.length_cons, List.length_nil] at hxl
  rw [shibbolethlaw19_RfcParts.j1, if_pos (by simp only [S_size, List.length_cons]; omega)]
  simp only [litS, S_append]
  rw [if_pos (by simp only [S_size, List.length_append, List.length_cons]; omega)]
  refine Option.bind_eq_some_iff.2 ⟨_, escaped_ev query (by omega), ?_⟩
  simp only [S_append]
  rw [if_pos (by simp only [S_size, List.length_append, List.length_cons, List.length_nil]; omega), if_pos (by simp only [S_size, List.length_append, List.length_cons, List.length_nil]; omega)]
  refine Option.bind_eq_some_iff.2 ⟨_, escaped_ev frag (by omega), ?_⟩
  simp only [S_append]
  rw [if_pos (by simp only [S_size, List.length_append, List.length_cons, List.length_nil]; omega), if_pos (by simp only [S_size, List.length_append, List.length_cons, List.length_nil]; omega), hx]
  have ht := Way_tell (text_way user host path query frag port sch)
  have he := Parse_ev (text user host path query frag port sch) (by unfold Sm; omega) k (by omega)
  rw [ht] at he
  refine Option.bind_eq_some_iff.2 ⟨_, he, ?_⟩
  refine Option.bind_eq_some_iff.2 ⟨_, rfl, ?_⟩
  rw [if_pos (by simp [toB])]
  refine Option.bind_eq_some_iff.2 ⟨_, awake19p k (by omega), rfl⟩
theorem parts_j0 (user host path query frag : List UInt8) (p : Int) (sch : Bool) (h : user.length + host.length + path.length + query.length + frag.length ≤ 1000) (x : List UInt8)
    (hx : x = schT sch ++ ([47, 47] ++ E user ++ [64] ++ E host)) (k : Nat) (hk : 30000 < k) :
    shibbolethlaw19_RfcParts.j0 (k + 2) (S query) (S frag) p (S (E host)) (S (47 :: E path)) (S x) = some true := by
  have h1 := E_len user
  have h2 := E_len host
  have h7 : (schT sch).length ≤ 8 := by cases sch <;> decide
  have hxl := congrArg List.length hx
  simp only [List.length_append, List.length_cons, List.length_nil] at hxl
  rw [shibbolethlaw19_RfcParts.j0]
  by_cases hp : Int.tmod p 2 = 1
  · rw [if_pos hp, if_pos (by simp only [S_size]; omega)]
    simp only [litS, S_append]
    exact parts_j1 user host path query frag true sch h _ (by rw [hx]; rfl) k hk
  · rw [if_neg hp]
    exact parts_j1 user host path query frag false sch h _ (by rw [hx]; unfold text portT; simp) k hk
theorem RfcParts : shibbolethlaw19_RfcParts.Pure := by
  intro a0 a1 a2 a3 a4 a5 a6 h0 h1 h2 h3 h4 _
  obtain ⟨user, rfl⟩ := S_surj a0
  obtain ⟨host, rfl⟩ := S_surj a1
  obtain ⟨path, rfl⟩ := S_surj a2
  obtain ⟨query, rfl⟩ := S_surj a3
  obtain ⟨frag, rfl⟩ := S_surj a4
  refine ⟨40000, ?_⟩
  simp only [S_size] at h0 h1 h2 h3 h4
  unfold shibbolethlaw19_RfcParts.f
  simp only [S_size]
  have e1 : wrap64 ((user.length : Int) + host.length) = (user.length : Int) + host.length := wrap_id (by omega) (by omega)
  have e2 : wrap64 ((user.length : Int) + host.length + path.length) = (user.length : Int) + host.length + path.length := wrap_id (by omega) (by omega)
  have e3 : wrap64 ((user.length : Int) + host.length + path.length + query.length) = (user.length : Int) + host.length + path.length + query.length := wrap_id (by omega) (by omega)
  have e4 : wrap64 ((user.length : Int) + host.length + path.length + query.length + frag.length) = (user.length : Int) + host.length + path.length + query.length + frag.length := wrap_id (by omega) (by omega)
  simp only [e1, e2, e3, e4]
  by_cases h : (user.length : Int) + host.length + path.length + query.length + frag.length > 1000
  · rw [if_pos h]
    exact Option.bind_eq_some_iff.2 ⟨_, awake19p 40000 (by omega), rfl⟩
  · rw [if_neg h]
    have l1 := E_len user
    have l2 := E_len host
    have l3 := E_len path
    refine Option.bind_eq_some_iff.2 ⟨_, escaped_ev host (by omega), ?_⟩
    refine Option.bind_eq_some_iff.2 ⟨_, escaped_ev path (by omega), ?_⟩
    rw [if_pos (by rw [S_size]; omega)]
    refine Option.bind_eq_some_iff.2 ⟨_, escaped_ev user (by omega), ?_⟩
    simp only [litS, S_append]
    rw [if_pos (by rw [S_size]; omega), if_pos (by simp only [S_size, List.length_append, List.length_cons, List.length_nil]; omega), if_pos (by simp only [S_size, List.length_append, List.length_cons, List.length_nil]; omega)]
    cases a6 with
    | true =>
      rw [if_pos rfl, if_pos (by simp only [S_size, List.length_append, List.length_cons, List.length_nil]; omega)]
      exact parts_j0 user host path query frag a5 true (by omega) _ rfl 39998 (by omega)
    | false =>
      rw [if_neg (by decide)]
      exact parts_j0 user host path query frag a5 false (by omega) _ (by rfl) 39998 (by omega)
end Go.Proofs.Ytiihgddpejmehaa.Pure

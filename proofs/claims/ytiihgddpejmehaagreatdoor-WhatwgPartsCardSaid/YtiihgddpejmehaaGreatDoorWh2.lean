/- What whatwg.Parse tells, in lists' words: the whole; and what does not change it. -/
import Derived.Test.YtiihgddpejmehaaGreatDoorWh
import Derived.Test.YtiihgddpejmehaaGreatDoorZA4
import Derived.Test.YtiihgddpejmehaaGreatDoorZA8
namespace Go.Proofs.YtiihgddpejmehaaGreatDoor.Wh
open Go.RowKit Go.Proofs.YtiihgddpejmehaaGreatDoorW.PrintWords Go.Proofs.YtiihgddpejmehaaGreatDoor.L Go.Proofs.YtiihgddpejmehaaGreatDoor.Str Go.Proofs.YtiihgddpejmehaaGreatDoor.ZA

def nq (c : UInt8) : Bool := !([63, 35] : List UInt8).contains c
def nm (m : List UInt8) (c : UInt8) : Bool := !m.contains c
/-- Behind a scheme. -/
def restL (sp au : Bool) (m r : List UInt8) : Bool × List UInt8 × List UInt8 :=
  if au = true then (if (hostL (r.takeWhile (nm m))).2 = true then (true, (hostL (r.takeWhile (nm m))).1, (r.dropWhile (nm m)).takeWhile nq)
    else if sp = true then (false, [], []) else if r.takeWhile (nm m) = [] then (true, (hostL (r.takeWhile (nm m))).1, (r.dropWhile (nm m)).takeWhile nq) else (false, [], []))
  else (true, [], r.takeWhile nq)
def sl2 (c : UInt8) : Bool := ([47, 92] : List UInt8).contains c
def behindL (sp : Bool) (r : List UInt8) : Bool × List UInt8 × List UInt8 :=
  if sp = true then restL true true [47, 92, 63, 35] (r.dropWhile sl2)
  else if ([47, 47] : List UInt8).isPrefixOf r = true then restL false true [47, 63, 35] (r.drop 2) else restL false false [47, 63, 35] r
def toldL (t : List UInt8) : Bool × List UInt8 × List UInt8 := if (schemeL t).2.2 = true then behindL (specL (schemeL t).1) (schemeL t).2.1 else (false, [], [])
def parseL (l : List UInt8) : Bool × List UInt8 × List UInt8 := toldL (textL l)
def out (x : Bool × List UInt8 × List UInt8) : Bool × ByteArray × ByteArray := (x.1, S x.2.1, S x.2.2)

theorem Parse_j1 (k : Nat) (r m : List UInt8) (hr : r.length ≤ 100000) (hk : r.length + 6 < k) (hm : (m.all fun x => decide (x.toNat < 128)) = true) (sp au : Bool) :
    whatwg_Parse.j1 (k + 1) (S r) (S m) sp au true (S []) (S []) = some (out (restL sp au m r)) := by
  rw [whatwg_Parse.j1]
  unfold restL
  have hq := fun x => whatwg_upTo_eq x [63, 35] (by decide)
  cases au
  · rw [if_neg (by decide), if_neg (by decide)]
    refine Option.bind_eq_some_iff.2 ⟨_, hq r, ?_⟩
    rfl
  · rw [if_pos rfl, if_pos rfl]
    refine Option.bind_eq_some_iff.2 ⟨_, whatwg_upTo_eq r m hm, ?_⟩
    have hle := takeW_le (nm m) r
    refine Option.bind_eq_some_iff.2 ⟨_, host_ev (r.takeWhile (nm m)) (by omega) k (by omega), ?_⟩
    show (if (hostL (r.takeWhile (nm m))).2 = true then ((whatwg_upTo.f (S (r.dropWhile (nm m))) (S [63, 35])).bind fun b => some (true, S (hostL (r.takeWhile (nm m))).1, b.1)) else (if sp = true then some (false, S [], S []) else (if (S (r.takeWhile (nm m))).toList = ([] : List UInt8) then ((whatwg_upTo.f (S (r.dropWhile (nm m))) (S [63, 35])).bind fun b => some (true, S (hostL (r.takeWhile (nm m))).1, b.1)) else some (false, S [], S [])))) = _
    rw [S_toList, hq]
    generalize hostL (r.takeWhile (nm m)) = h
    obtain ⟨h1, h2⟩ := h
    cases h2
    · rw [if_neg (show ¬ (h1, false).2 = true by simp), if_neg (show ¬ (h1, false).2 = true by simp)]
      cases sp
      · rw [if_neg (show ¬ false = true by decide), if_neg (show ¬ false = true by decide)]
        split <;> rfl
      · rfl
    · rfl
theorem Parse_j0 (k : Nat) (r m : List UInt8) (hr : r.length ≤ 100000) (hk : r.length + 6 < k) (hm : (m.all fun x => decide (x.toNat < 128)) = true) (sp sl : Bool) :
    whatwg_Parse.j0 (k + 2) (S r) (S m) sp sl = some (out (restL sp (sp || sl) m r)) := by
  have h := fun au => Parse_j1 k r m hr hk hm sp au
  rw [whatwg_Parse.j0]
  cases sp
  · rw [if_neg (by decide)]
    exact h sl
  · rw [if_pos rfl]
    exact h true
theorem scheme_le (t : List UInt8) : (schemeL t).1.length ≤ t.length ∧ (schemeL t).2.1.length ≤ t.length := by
  unfold schemeL cutL
  split
  · refine ⟨takeW_le _ t, ?_⟩
    have := dropW_le (fun x => !(x == (58 : UInt8))) t
    simp only [List.length_drop]
    omega
  · simp
theorem Parse_ev (l : List UInt8) (hl : l.length ≤ 100000) (k : Nat) (hk : l.length + 10 < k) : whatwg_Parse.f k (S l) = some (out (parseL l)) := by
  have ht := textL_le l
  unfold whatwg_Parse.f parseL toldL
  refine Option.bind_eq_some_iff.2 ⟨_, Text_eq l (by omega), Option.bind_eq_some_iff.2 ⟨_, Scheme_ev (textL l) (by unfold Sm; omega) k (by omega), ?_⟩⟩
  have hs := scheme_le (textL l)
  generalize textL l = t at *
  generalize (schemeL t).1 = s at *
  generalize (schemeL t).2.1 = r at *
  generalize (schemeL t).2.2 = ok at *
  obtain ⟨k, rfl⟩ : ∃ m, k = m + 2 := ⟨k - 2, by omega⟩
  cases ok
  · rw [if_neg (by decide), if_neg (by decide)]; rfl
  · rw [if_pos rfl, if_pos rfl]
    refine Option.bind_eq_some_iff.2 ⟨_, Special_eq s (by omega), Option.bind_eq_some_iff.2 ⟨_, CutPrefix_eq r [47, 47], ?_⟩⟩
    unfold behindL
    have hj := fun (x m : List UInt8) (hx : x.length ≤ r.length) (hm : (m.all fun x => decide (x.toNat < 128)) = true) (sp sl : Bool) => Parse_j0 k x m (by omega) (by omega) hm sp sl
    cases specL s
    · rw [if_neg (show ¬ false = true by decide), if_neg (show ¬ false = true by decide)]
      by_cases hp : ([47, 47] : List UInt8).isPrefixOf r = true
      · rw [if_pos hp, if_pos hp]
        exact hj (r.drop 2) [47, 63, 35] (by simp) (by decide) false true
      · rw [if_neg hp, if_neg hp]
        exact hj r [47, 63, 35] (Nat.le_refl _) (by decide) false false
    · rw [if_pos rfl, if_pos rfl]
      have hT : strings_TrimLeft.f (S r) (S [47, 92]) = some (S (r.dropWhile sl2)) := by
        unfold strings_TrimLeft.f
        rw [if_pos ⟨by rw [S_size]; omega, by decide, by decide⟩]
        rfl
      refine Option.bind_eq_some_iff.2 ⟨_, hT, ?_⟩
      exact hj (r.dropWhile sl2) [47, 92, 63, 35] (dropW_le _ _) (by decide) true _

/-! the text -/
abbrev blank (c : UInt8) : Bool := whatwg_Text.blank c
def keep (c : UInt8) : Bool := !(c == 9) && !(c == 10) && !(c == 13)
def trimL (l : List UInt8) : List UInt8 := ((l.dropWhile blank).reverse.dropWhile blank).reverse
theorem keep_blank {c : UInt8} (h : blank c = false) : keep c = true := by
  have h2 : ¬ c.toNat ≤ 32 := of_decide_eq_false h
  unfold keep
  have a : ¬ c = 9 := fun e => h2 (by rw [e]; decide)
  have b : ¬ c = 10 := fun e => h2 (by rw [e]; decide)
  have d : ¬ c = 13 := fun e => h2 (by rw [e]; decide)
  simp [a, b, d]
theorem drop_keep : ∀ l : List UInt8, (l.filter keep).dropWhile blank = (l.dropWhile blank).filter keep
  | [] => rfl
  | c :: l => by
    have ih := drop_keep l
    cases hb : blank c
    · have hk := keep_blank hb
      rw [List.filter_cons, if_pos hk, List.dropWhile_cons, if_neg (by rw [hb]; decide), List.dropWhile_cons, if_neg (by rw [hb]; decide), List.filter_cons, if_pos hk]
    · rw [List.dropWhile_cons (x := c) (xs := l), if_pos hb, ← ih, List.filter_cons]
      split
      · rw [List.dropWhile_cons, if_pos hb]
      · rfl
theorem trim_keep (l : List UInt8) : trimL (l.filter keep) = (trimL l).filter keep := by
  unfold trimL
  rw [drop_keep, ← List.filter_reverse, drop_keep, List.filter_reverse]
theorem textL_eq (l : List UInt8) : textL l = (trimL l).filter keep := by
  show whatwg_Text.strip (trimL l) = _
  unfold whatwg_Text.strip
  congr 1
  funext c
  unfold keep whatwg_Text.drop1
  by_cases a : c = 9 <;> by_cases b : c = 10 <;> by_cases d : c = 13 <;> simp [a, b, d]
theorem textL_trim (l : List UInt8) : textL l = trimL (l.filter keep) := by rw [textL_eq, trim_keep]
theorem dropW_idem (p : UInt8 → Bool) : ∀ l : List UInt8, (l.dropWhile p).dropWhile p = l.dropWhile p
  | [] => rfl
  | c :: l => by
    rw [List.dropWhile_cons]
    split
    · exact dropW_idem p l
    · rename_i h; rw [List.dropWhile_cons, if_neg h]
/-- What begins with no blank does so without its last blanks, too. -/
theorem head_rev : ∀ l : List UInt8, l.dropWhile blank = l → (l.reverse.dropWhile blank).reverse.dropWhile blank = (l.reverse.dropWhile blank).reverse
  | [], _ => rfl
  | c :: l, h => by
    have hb : blank c = false := by
      cases hb : blank c with
      | false => rfl
      | true =>
        rw [List.dropWhile_cons, if_pos hb] at h
        have := dropW_le blank l
        rw [h, List.length_cons] at this
        omega
    have e : ∃ m, ((c :: l).reverse.dropWhile blank).reverse = c :: m := by
      rw [List.reverse_cons, List.dropWhile_append]
      split
      · refine ⟨[], ?_⟩
        rw [List.dropWhile_cons, if_neg (by rw [hb]; decide)]
        rfl
      · refine ⟨(l.reverse.dropWhile blank).reverse, ?_⟩
        rw [List.reverse_append]
        rfl
    obtain ⟨m, hm⟩ := e
    rw [hm, List.dropWhile_cons, if_neg (by rw [hb]; decide)]
theorem trim_idem (l : List UInt8) : trimL (trimL l) = trimL l := by
  have h := head_rev (l.dropWhile blank) (dropW_idem blank l)
  unfold trimL
  rw [h, List.reverse_reverse, dropW_idem]
theorem textL_idem (l : List UInt8) : textL (textL l) = textL l := by
  have h : (textL l).filter keep = textL l := by rw [textL_eq, List.filter_filter]; congr 1; funext c; simp
  rw [textL_trim (textL l), h, textL_trim, trim_idem]
/-- A tab, LF or CR put in changes nothing. -/
theorem textL_put (a b : List UInt8) (x : UInt8) (hx : keep x = false) : textL (a ++ [x] ++ b) = textL (a ++ b) := by
  rw [textL_trim, textL_trim, List.filter_append, List.filter_append, List.filter_append, List.filter_cons, if_neg (by rw [hx]; decide)]
  simp
theorem trim_pad (p l : List UInt8) (hp : ∀ c ∈ p, blank c = true) : trimL (p ++ l ++ p) = trimL l := by
  unfold trimL
  rw [List.append_assoc, List.dropWhile_append_of_pos hp]
  by_cases h : l.dropWhile blank = []
  · have e : (l ++ p).dropWhile blank = [] := by
      rw [List.dropWhile_append, h]
      have := List.dropWhile_append_of_pos (l₂ := []) hp
      simp at this
      simpa using this
    rw [e, h]
  · rw [List.dropWhile_append]
    split
    · rename_i he; exact absurd (by simpa using he) h
    · rw [List.reverse_append, List.dropWhile_append_of_pos (fun c hc => hp c (List.mem_reverse.1 hc))]
theorem textL_pad (p l : List UInt8) (hp : ∀ c ∈ p, blank c = true) : textL (p ++ l ++ p) = textL l := by rw [textL_eq, textL_eq, trim_pad p l hp]
end Go.Proofs.YtiihgddpejmehaaGreatDoor.Wh

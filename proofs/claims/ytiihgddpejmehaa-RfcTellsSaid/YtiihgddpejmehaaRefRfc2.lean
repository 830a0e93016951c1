/- What the reference of layer 19 tells of hosts: in lists' words. -/
import Derived.Test.YtiihgddpejmehaaRefRfc
import Derived.Test.YtiihgddpejmehaaZA11
import Derived.Test.YtiihgddpejmehaaZA12
import Derived.Test.YtiihgddpejmehaaZA13
namespace Go.Proofs.Ytiihgddpejmehaa.RR
open Go.RowKit Go.Proofs.YtiihgddpejmehaaW.PrintWords Go.Proofs.Ytiihgddpejmehaa.L Go.Proofs.Ytiihgddpejmehaa.Str Go.Proofs.Ytiihgddpejmehaa.Rf Go.Proofs.Ytiihgddpejmehaa.ZA

def pl58 (c : UInt8) : Bool := plainB c || ([58] : List UInt8).contains c
def six1 (c : UInt8) : Bool := hexB c || ([58, 46] : List UInt8).contains c
theorem lit_l2 (l : List UInt8) (hl : Sm l) : ∀ (d i k : Nat), i + d = l.length → d + 41 < k → r19_literal.l2 k (S l) (i : Int) = some ((l.drop i).all pl58)
 | 0, i, k, h, hk => by
  obtain ⟨k, rfl⟩ : ∃ m, k = m + 1 := ⟨k - 1, by omega⟩
  rw [r19_literal.l2, if_neg (by rw [S_size]; omega), List.drop_of_length_le (by omega)]
  rfl
 | d + 1, i, k, h, hk => by
  obtain ⟨k, rfl⟩ : ∃ m, k = m + 1 := ⟨k - 1, by omega⟩
  have hi : i < l.length := by omega
  have ih := lit_l2 l hl d (i + 1) k (by omega) (by omega)
  have hd : l.drop i = l[i] :: l.drop (i + 1) := List.drop_eq_getElem_cons hi
  have h58 : ((58 : UInt8).toNat : Int) = 58 := rfl
  rw [r19_literal.l2, if_pos (by rw [S_size]; omega), if_pos (by omega), bt_S l i hi, plainE _ k (by omega), wrap_succ i (by unfold Sm at hl; omega), ih, hd, List.all_cons]
  simp only [Option.bind_some]
  unfold pl58
  by_cases hp : plainB l[i] = true
  ·rw [if_pos hp, hp]
   rfl
  ·rw [if_neg hp, Bool.eq_false_iff.2 hp, Bool.false_or]
   by_cases h5 : l[i] = 58
   ·rw [if_pos (by rw [h5]; rfl), h5]
    rfl
   ·rw [if_neg (by rw [← h58]; exact fun e => h5 ((byte_eq _ _).1 e))]
    simp [h5]
/-- What stands from the dot on. -/
def dotR (r : List UInt8) : Bool := match r with | [] => false | c :: u => c == 46 && (!u.isEmpty && u.all pl58)
theorem dotR_cons (c : UInt8) (u : List UInt8) : dotR (c :: u) = (c == 46 && (!u.isEmpty && u.all pl58)) := rfl
theorem lit_j3 (l : List UInt8) (hl : Sm l) (i : Nat) (hi : i ≤ l.length) (k : Nat) (hk : l.length + 50 < k) : r19_literal.j3 k (S l) (i : Int) = some (decide (i ≠ 1) && dotR (l.drop i)) := by
 obtain ⟨k, rfl⟩ : ∃ m, k = m + 2 := ⟨k - 2, by omega⟩
 unfold Sm at hl
 have h46 : ((46 : UInt8).toNat : Int) = 46 := rfl
 rw [r19_literal.j3, wrap_succ i (by omega)]
 by_cases h1 : i = 1
 ·rw [if_pos (by omega), r19_literal.j4, if_pos rfl, decide_eq_false (by omega)]
  rfl
 ·rw [if_neg (by omega), decide_eq_true h1, Bool.true_and]
  by_cases h2 : i + 1 < l.length
  ·have hlt : i < l.length := by omega
   have hd : l.drop i = l[i] :: l.drop (i + 1) := List.drop_eq_getElem_cons hlt
   rw [if_neg (by rw [S_size]; omega), if_pos (by omega), if_pos (by rw [S_size]; omega), bt_S l i hlt, r19_literal.j4, hd, wrap_succ i (by omega)]
   have hne : (l.drop (i + 1)).isEmpty = false := by
    rw [List.isEmpty_eq_false_iff]
    intro e
    have := congrArg List.length e
    rw [List.length_drop] at this
    simp at this
    omega
   rw [dotR_cons, hne]
   by_cases hc : l[i] = 46
   ·rw [if_neg (by rw [hc]; decide), lit_l2 l hl (l.length - (i + 1)) (i + 1) k (by omega) (by omega), hc]
    rfl
   ·rw [if_pos (by rw [bne_iff_ne, ← h46]; exact fun e => hc ((byte_eq _ _).1 e)), beq_eq_false_iff_ne.2 hc]
    rfl
  ·rw [if_pos (by rw [S_size]; omega), r19_literal.j4, if_pos rfl]
   have hlen : (l.drop i).length ≤ 1 := by rw [List.length_drop]; omega
   match h : l.drop i, hlen with
   | [], _ => rfl
   | [c], _ => simp [dotR]
theorem lit_l1 (l : List UInt8) (hl : Sm l) : ∀ (d i k : Nat), i + d = l.length → d + l.length + 60 < k → r19_literal.l1 k (S l) (i : Int) = some (decide (i + ((l.drop i).takeWhile hexB).length ≠ 1) && dotR ((l.drop i).dropWhile hexB))
 | 0, i, k, h, hk => by
  obtain ⟨k, rfl⟩ : ∃ m, k = m + 1 := ⟨k - 1, by omega⟩
  rw [r19_literal.l1, if_neg (by rw [S_size]; omega), lit_j3 l hl i (by omega) k (by omega), List.drop_of_length_le (by omega)]
  rfl
 | d + 1, i, k, h, hk => by
  obtain ⟨k, rfl⟩ : ∃ m, k = m + 1 := ⟨k - 1, by omega⟩
  have hi : i < l.length := by omega
  have ih := lit_l1 l hl d (i + 1) k (by omega) (by omega)
  have hd : l.drop i = l[i] :: l.drop (i + 1) := List.drop_eq_getElem_cons hi
  obtain ⟨v, e, f⟩ := ValueE l[i]
  rw [r19_literal.l1, if_pos (by rw [S_size]; omega), if_pos (by omega), bt_S l i hi, f k (by omega), wrap_succ i (by unfold Sm at hl; omega), ih, lit_j3 l hl i (by omega) k (by omega), hd]
  simp only [Option.bind_some]
  by_cases hv : v ≥ 0
  ·have hx : hexB l[i] = true := by rw [e, decide_eq_true hv]
   rw [if_pos hv, List.takeWhile_cons, List.dropWhile_cons, hx, if_pos rfl, if_pos rfl, List.length_cons]
   congr 2
   exact decide_eq_decide.2 (by omega)
  ·have hx : hexB l[i] = false := by rw [e, decide_eq_false hv]
   rw [if_neg hv, List.takeWhile_cons, List.dropWhile_cons, hx, if_neg (by decide), if_neg (by decide)]
   rfl
theorem dot_cut {c : UInt8} (hv : vB c = true) (t : List UInt8) : laterL (c :: t) = (!(t.takeWhile hexB).isEmpty && dotR (t.dropWhile hexB)) := by
 have hc46 : c ≠ 46 := fun e => by rw [e] at hv; exact absurd hv (by decide)
 have hall : ∀ x ∈ t.takeWhile hexB, hexB x = true := fun x hx => List.all_eq_true.1 (List.all_takeWhile (p := hexB) (l := t)) x hx
 have h46 : (46 : UInt8) ∉ c :: t.takeWhile hexB := by
  intro h
  rcases List.mem_cons.1 h with e | e
  ·exact hc46 e.symm
  ·exact absurd (hall 46 e) (by decide)
 have hsp : t = t.takeWhile hexB ++ t.dropWhile hexB := (List.takeWhile_append_dropWhile (p := hexB) (l := t)).symm
 have hst : ∀ d u, t.dropWhile hexB = d :: u → hexB d = false := by
  intro d u e
  have hne : t.dropWhile hexB ≠ [] := by rw [e]; simp
  have := List.head_dropWhile_not hexB hne
  simpa [e] using this
 generalize t.takeWhile hexB = h at *
 generalize t.dropWhile hexB = r at *
 subst hsp
 cases r with
 | nil =>
  rw [List.append_nil]
  unfold laterL
  rw [cut_no _ _ h46]
  simp [dotR]
 | cons d u =>
  have hd := hst d u rfl
  by_cases h6 : d = 46
  ·subst h6
   have e1 : c :: (h ++ 46 :: u) = (c :: h) ++ 46 :: u := rfl
   unfold laterL
   rw [e1, cut_some _ _ _ h46, dotR_cons]
   have hh : (h.all fun x => hexB x || ([] : List UInt8).contains x) = true := List.all_eq_true.2 fun x hx => by rw [hall x hx]; rfl
   show (true && (vB c && !h.isEmpty && (h.all fun x => hexB x || ([] : List UInt8).contains x)) && !u.isEmpty && u.all pl58) = _
   rw [hh, hv]
   cases h.isEmpty <;> cases u.isEmpty <;> cases u.all pl58 <;> rfl
  ·have hf : dotR (d :: u) = false := by rw [dotR_cons, beq_eq_false_iff_ne.2 h6]; rfl
   rw [hf, Bool.and_false]
   unfold laterL
   by_cases hm : (c :: (h ++ d :: u)).contains 46 = true
   ·have hm2 : (46 : UInt8) ∈ u := by
     have := List.contains_iff_mem.1 hm
     rcases List.mem_cons.1 this with e | e
     ·exact absurd e.symm hc46
     ·rcases List.mem_append.1 e with e | e
      ·exact absurd (List.mem_cons_of_mem _ e) h46
      ·rcases List.mem_cons.1 e with e | e
       ·exact absurd e.symm h6
       ·exact e
    have e2 := cut_glue (l := u) (c := 46) (List.contains_iff_mem.2 hm2)
    generalize (cutL u 46).1 = u1 at e2
    generalize (cutL u 46).2.1 = u2 at e2
    by_cases hu : (46 : UInt8) ∈ u1
    ·have e3 := cut_glue (l := u1) (c := 46) (List.contains_iff_mem.2 hu)
     have hn : (46 : UInt8) ∉ (cutL u1 46).1 := by
      intro hx
      have := List.all_eq_true.1 (List.all_takeWhile (p := fun x => !(x == (46 : UInt8))) (l := u1)) 46 hx
      exact absurd this (by decide)
     have e4 : c :: (h ++ d :: u) = (c :: (h ++ d :: (cutL u1 46).1)) ++ 46 :: ((cutL u1 46).2.1 ++ 46 :: u2) := by
      rw [e2]
      conv => lhs; rw [e3]
      simp
     have h7 : (46 : UInt8) ∉ c :: (h ++ d :: (cutL u1 46).1) := by
      intro hx
      rcases List.mem_cons.1 hx with e | e
      ·exact hc46 e.symm
      ·rcases List.mem_append.1 e with e | e
       ·exact h46 (List.mem_cons_of_mem _ e)
       ·rcases List.mem_cons.1 e with e | e
        ·exact h6 e.symm
        ·exact hn e
     rw [e4, cut_some _ _ _ h7]
     simp [hd]
    ·have e4 : c :: (h ++ d :: u) = (c :: (h ++ d :: u1)) ++ 46 :: u2 := by rw [e2]; simp
     have h7 : (46 : UInt8) ∉ c :: (h ++ d :: u1) := by
      intro hx
      rcases List.mem_cons.1 hx with e | e
      ·exact hc46 e.symm
      ·rcases List.mem_append.1 e with e | e
       ·exact h46 (List.mem_cons_of_mem _ e)
       ·rcases List.mem_cons.1 e with e | e
        ·exact h6 e.symm
        ·exact hu e
     rw [e4, cut_some _ _ _ h7]
     simp [hd]
   ·have hm2 : (46 : UInt8) ∉ c :: (h ++ d :: u) := fun e => hm (List.contains_iff_mem.2 e)
    rw [cut_no _ _ hm2]
    rfl
theorem later_not {s : List UInt8} (h : ∀ c t, s = c :: t → vB c = false) : laterL s = false := by
 unfold laterL cutL
 cases s with
 | nil => rfl
 | cons c t =>
  have hv := h c t rfl
  rw [List.takeWhile_cons]
  by_cases hc : (!(c == 46)) = true
  ·rw [if_pos hc]
   simp [hv]
  ·rw [if_neg hc]
   simp
theorem later_small {s : List UInt8} (h : s.length < 4) : laterL s = false := by
 cases s with
 | nil => rfl
 | cons c t =>
  by_cases hv : vB c = true
  ·rw [dot_cut hv]
   have hlen : (t.takeWhile hexB).length + (t.dropWhile hexB).length = t.length := by
    rw [← List.length_append, List.takeWhile_append_dropWhile]
   generalize t.takeWhile hexB = a at *
   generalize t.dropWhile hexB = b at *
   rw [List.length_cons] at h
   match a, b with
   | [], _ => rfl
   | _ :: _, [] => rfl
   | _ :: _, [x] => simp [dotR]
   | _ :: _, _ :: _ :: _ =>
    simp only [List.length_cons] at hlen
    omega
  ·exact later_not fun c' t' e => by injection e with e1 e2; rw [← e1]; exact Bool.eq_false_iff.2 hv
theorem lit_end (l : List UInt8) (hl : Sm l) (k : Nat) (hk : 2 * l.length + 70 < k) :
  (if ((S l).size : Int) < 4 then (r19_literal.j1 k (S l) true) else (if 0 < ((S l).size : Int) then (if (bt (S l) 0) = 118 then (r19_literal.j1 k (S l) false) else (r19_literal.j1 k (S l) ((bt (S l) 0) != 86))) else (none))) = some (laterL l) := by
 obtain ⟨k, rfl⟩ : ∃ m, k = m + 1 := ⟨k - 1, by omega⟩
 simp only [r19_literal.j1]
 by_cases h4 : l.length < 4
 ·rw [if_pos (by rw [S_size]; omega), if_pos trivial, later_small h4]
 ·rw [if_neg (by rw [S_size]; omega), if_pos (by rw [S_size]; omega)]
  cases l with
  | nil => exact absurd (by simp) h4
  | cons c t =>
   have hb : bt (S (c :: t)) 0 = (c.toNat : Int) := bt_S (c :: t) 0 (by simp)
   have h118 : ((118 : UInt8).toNat : Int) = 118 := rfl
   have h86 : ((86 : UInt8).toNat : Int) = 86 := rfl
   have h1 := lit_l1 (c :: t) hl t.length 1 k (by rw [List.length_cons]; omega) (by rw [List.length_cons] at hk ⊢; omega)
   rw [List.drop_succ_cons, List.drop_zero] at h1
   have h1' : r19_literal.l1 k (S (c :: t)) 1 = some (!(t.takeWhile hexB).isEmpty && dotR (t.dropWhile hexB)) := by
    refine Eq.trans h1 ?_
    congr 2
    cases t.takeWhile hexB with
    | nil => rfl
    | cons a b => simp
   have hv118 : vB 118 = true := by decide
   have hv86 : vB 86 = true := by decide
   rw [hb]
   by_cases ha : c = 118
   ·subst ha
    rw [if_pos (show ((UInt8.toNat 118 : Nat) : Int) = 118 from rfl), if_neg (by decide), h1', dot_cut hv118]
   ·rw [if_neg (by rw [← h118]; exact fun e => ha ((byte_eq _ _).1 e))]
    by_cases hb : c = 86
    ·subst hb
     rw [if_neg (by decide), h1', dot_cut hv86]
    ·rw [if_pos (by rw [bne_iff_ne, ← h86]; exact fun e => hb ((byte_eq _ _).1 e)), later_not]
     intro c' t' e
     injection e with e1 e2
     rw [← e1]
     unfold vB
     rw [beq_eq_false_iff_ne.2 ha, beq_eq_false_iff_ne.2 hb]
     rfl
theorem lit_l0 (l : List UInt8) (hl : Sm l) : ∀ (d i k : Nat) (b : Bool), i + d = l.length → d + 2 * l.length + 80 < k → r19_literal.l0 k (S l) b (i : Int) = some ((b && (l.drop i).all six1) || laterL l)
 | 0, i, k, b, h, hk => by
  obtain ⟨k, rfl⟩ : ∃ m, k = m + 1 := ⟨k - 1, by omega⟩
  have he := lit_end l hl k (by omega)
  rw [r19_literal.l0, if_neg (by rw [S_size]; omega), he, List.drop_of_length_le (by omega)]
  cases b with
  | true => rw [if_pos rfl]; rfl
  | false => rw [if_neg (by decide)]; rfl
 | d + 1, i, k, b, h, hk => by
  obtain ⟨k, rfl⟩ : ∃ m, k = m + 1 := ⟨k - 1, by omega⟩
  have hi : i < l.length := by omega
  have ih := fun b => lit_l0 l hl d (i + 1) k b (by omega) (by omega)
  have hd : l.drop i = l[i] :: l.drop (i + 1) := List.drop_eq_getElem_cons hi
  obtain ⟨v, e, f⟩ := ValueE l[i]
  have h58 : ((58 : UInt8).toNat : Int) = 58 := rfl
  have h46 : ((46 : UInt8).toNat : Int) = 46 := rfl
  rw [r19_literal.l0, if_pos (by rw [S_size]; omega), wrap_succ i (by unfold Sm at hl; omega), bt_S l i hi, f k (by omega), ih, ih, ih, hd, List.all_cons]
  cases b with
  | false => rw [if_neg (by decide)]; rfl
  | true =>
   rw [if_pos rfl, if_pos (by omega)]
   simp only [Option.bind_some, Bool.true_and]
   unfold six1
   rw [e]
   by_cases hv : v ≥ 0
   ·rw [if_pos hv, decide_eq_true hv]
    rfl
   ·rw [if_neg hv, decide_eq_false hv, Bool.false_or]
    by_cases h5 : l[i] = 58
    ·rw [if_pos (by rw [h5]; rfl), h5]
     rfl
    ·rw [if_neg (by rw [← h58]; exact fun e => h5 ((byte_eq _ _).1 e))]
     by_cases h6 : l[i] = 46
     ·rw [h6]; rfl
     ·have h7 : ((l[i].toNat : Int) == 46) = false := by rw [beq_eq_false_iff_ne, ← h46]; exact fun e => h6 ((byte_eq _ _).1 e)
      rw [h7]
      simp [h5, h6]
theorem literalE (l : List UInt8) (hl : Sm l) (k : Nat) (hk : 3 * l.length + 80 < k) : r19_literal.f k (S l) = some (literalL l) := by
 have h := lit_l0 l hl l.length 0 k (decide (((S l).size : Int) > 0)) (by omega) (by omega)
 refine Eq.trans h ?_
 rw [List.drop_zero]
 unfold literalL
 have : decide (((S l).size : Int) > 0) = !l.isEmpty := by
  cases l with
  | nil => rfl
  | cons c t => rw [S_size, decide_eq_true (by rw [List.length_cons]; omega)]; rfl
 rw [this]
 rfl
theorem isHostE (l : List UInt8) (hl : Sm l) (k : Nat) (hk : 3 * l.length + 90 < k) : r19_isHost.f k (S l) = some (isHostL l) := by
 obtain ⟨k, rfl⟩ : ∃ m, k = m + 1 := ⟨k - 1, by omega⟩
 have hn := namedE l [] hl (by decide) (by simp) k (by simp only [List.length_nil]; omega)
 have hz : (S ([] : List UInt8)) = (⟨#[]⟩ : ByteArray) := rfl
 rw [hz] at hn
 unfold r19_isHost.f isHostL
 by_cases h1 : l.length > 1
 ·rw [if_pos (by rw [S_size]; omega), if_pos (by rw [S_size]; omega), decide_eq_true h1, Bool.true_and]
  cases l with
  | nil => exact absurd h1 (by simp)
  | cons c t =>
   have hb : bt (S (c :: t)) 0 = (c.toNat : Int) := bt_S (c :: t) 0 (by simp)
   have h91 : ((91 : UInt8).toNat : Int) = 91 := rfl
   have h93 : ((93 : UInt8).toNat : Int) = 93 := rfl
   have hw : wrap64 (((S (c :: t)).size : Int) - 1) = (t.length : Int) := by
    rw [S_size, List.length_cons, wrap_id (by omega) (by unfold Sm at hl; rw [List.length_cons] at hl; omega)]; omega
   have ht : t ≠ [] := fun e => by rw [e] at h1; exact absurd h1 (by simp)
   have hbl : bt (S (c :: t)) (t.length : Int) = ((t.getLast ht).toNat : Int) := by
    rw [bt_S (c :: t) t.length (by simp)]
    have : (c :: t)[t.length]'(by simp) = t.getLast ht := by
     rw [List.getLast_eq_getElem, List.getElem_cons]
     have : t.length ≠ 0 := fun e => ht (List.length_eq_zero_iff.1 e)
     rw [dif_neg this]
    rw [this]
   have hl3 : (c :: t).getLast? = some (t.getLast ht) := by
    rw [List.getLast?_cons, List.getLast?_eq_some_getLast ht]
    rfl
   rw [hb, hw, hl3, hbl]
   by_cases hc : c = 91
   ·subst hc
    rw [if_pos (show ((UInt8.toNat 91 : Nat) : Int) = 91 from rfl), if_pos (by omega), if_pos (by rw [S_size, List.length_cons]; omega)]
    by_cases h9 : t.getLast ht = 93
    ·rw [h9, if_pos (by rfl)]
     rw [r19_isHost.j0, hw, if_pos (by rfl), if_pos (by rw [List.length_cons] at h1; omega), if_pos (by rw [S_size, List.length_cons]; omega), Int.toNat_natCast, S_extract]
     have e : (List.drop 1 (91 :: t)).take (t.length - 1) = (List.drop 1 (91 :: t)).dropLast := by
      rw [List.drop_succ_cons, List.drop_zero, List.dropLast_eq_take]
     rw [e]
     refine Option.bind_eq_some_iff.2 ⟨_, literalE _ (by unfold Sm at *; rw [List.length_dropLast, List.length_drop]; omega) k (by rw [List.length_dropLast, List.length_drop]; omega), rfl⟩
    ·have h7 : (((t.getLast ht).toNat : Int) == 93) = false := by rw [beq_eq_false_iff_ne, ← h93]; exact fun e => h9 ((byte_eq _ _).1 e)
     have h8 : (some (t.getLast ht) == some (93 : UInt8)) = false := by rw [beq_eq_false_iff_ne]; exact fun e => h9 (Option.some.inj e)
     rw [h7, h8, Bool.and_false, if_neg (by decide), r19_isHost.j0, if_neg (by decide)]
     exact Option.bind_eq_some_iff.2 ⟨_, hn, rfl⟩
   ·have h8 : ((c :: t).head? == some (91 : UInt8)) = false := by rw [List.head?_cons, beq_eq_false_iff_ne]; exact fun e => hc (Option.some.inj e)
    rw [if_neg (by rw [← h91]; exact fun e => hc ((byte_eq _ _).1 e)), h8, Bool.false_and, if_neg (by decide), r19_isHost.j0, if_neg (by decide)]
    exact Option.bind_eq_some_iff.2 ⟨_, hn, rfl⟩
 ·rw [if_neg (by rw [S_size]; omega), decide_eq_false h1, Bool.false_and, Bool.false_and, if_neg (by decide), r19_isHost.j0, if_neg (by decide)]
  exact Option.bind_eq_some_iff.2 ⟨_, hn, rfl⟩
end Go.Proofs.Ytiihgddpejmehaa.RR
-- shrunk

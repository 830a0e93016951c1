/- RfcTells answers true for every text: what rfc.Parse tells of its first 40 bytes is the one way of parting it, or there is none (no conditions but the row's size bound). -/
import Derived.Test.YtiihgddpejmehaaRefRfc2
import Derived.Test.YtiihgddpejmehaaZA13
import Derived.Test.YtiihgddpejmehaaZA14
import Derived.Test.YtiihgddpejmehaaZA15
import Derived.Test.YtiihgddpejmehaaZA9
namespace Go.Proofs.Ytiihgddpejmehaa.Pure
open Go.RowKit Go.Proofs.Ytiihgddpejmehaa.ZA Go.Proofs.YtiihgddpejmehaaW.PrintWords Go.Proofs.YtiihgddpejmehaaW.PrintLast Go.Proofs.Ytiihgddpejmehaa.L Go.Proofs.Ytiihgddpejmehaa.Str Go.Proofs.Ytiihgddpejmehaa.Rf Go.Proofs.Ytiihgddpejmehaa.RR

theorem awake19t (k : Nat) (hk : 100 ≤ k) : w19_awake.f k = some true := at_rounds (g := fun k => w19_awake.f k) w19_awake.mono hk (by kernel_rfl)
/-! runs of places -/
def span {α : Type} (f : Nat → List α) : Nat → Nat → List α
 | _, 0 => []
 | a, d + 1 => f a ++ span f (a + 1) d
theorem mem_span {α : Type} {f : Nat → List α} {x : α} : ∀ {d a : Nat}, x ∈ span f a d ↔ ∃ j, a ≤ j ∧ j < a + d ∧ x ∈ f j
 | 0, a => ⟨fun h => absurd h (by simp [span]), fun ⟨j, h1, h2, _⟩ => absurd h2 (by omega)⟩
 | d + 1, a => by
  rw [span, List.mem_append, mem_span]
  constructor
  ·rintro (h | ⟨j, h1, h2, h3⟩)
   ·exact ⟨a, Nat.le_refl _, by omega, h⟩
   ·exact ⟨j, by omega, by omega, h3⟩
  ·rintro ⟨j, h1, h2, h3⟩
   by_cases e : j = a
   ·subst e; exact .inl h3
   ·exact .inr ⟨j, by omega, by omega, h3⟩
theorem len_span {α : Type} {f : Nat → List α} {c : Nat} (h : ∀ j, (f j).length ≤ c) : ∀ d a, (span f a d).length ≤ d * c
 | 0, _ => by simp [span]
 | d + 1, a => by
  have h1 := h a
  have h2 := len_span h d (a + 1)
  rw [span, List.length_append, Nat.succ_mul]
  omega
def downs {α : Type} (f : Nat → List α) : Nat → List α
 | 0 => []
 | d + 1 => f d ++ downs f d
theorem mem_downs {α : Type} {f : Nat → List α} {x : α} : ∀ {d : Nat}, x ∈ downs f d ↔ ∃ j, j < d ∧ x ∈ f j
 | 0 => ⟨fun h => absurd h (by simp [downs]), fun ⟨j, h1, _⟩ => absurd h1 (by omega)⟩
 | d + 1 => by
  rw [downs, List.mem_append, mem_downs]
  constructor
  ·rintro (h | ⟨j, h1, h3⟩)
   ·exact ⟨d, by omega, h⟩
   ·exact ⟨j, by omega, h3⟩
  ·rintro ⟨j, h1, h3⟩
   by_cases e : j = d
   ·subst e; exact .inl h3
   ·exact .inr ⟨j, by omega, h3⟩
theorem len_downs {α : Type} {f : Nat → List α} {c : Nat} (h : ∀ j, (f j).length ≤ c) : ∀ d, (downs f d).length ≤ d * c
 | 0 => by simp [downs]
 | d + 1 => by
  have h1 := h d
  have h2 := len_downs h d
  rw [downs, List.length_append, Nat.succ_mul]
  omega
/-- With enough rounds it comes to this. -/
def Comes {α : Type} (g : Nat → Option α) (r : α) : Prop := ∃ K, ∀ k, K ≤ k → g k = some r
theorem Comes.step {α : Type} {g f : Nat → Option α} {r : α} (h : Comes f r) (B : Nat) (e : ∀ k, B ≤ k → g (k + 1) = f k) : Comes g r := by
 obtain ⟨K, hK⟩ := h
 refine ⟨K + B + 1, fun k hk => ?_⟩
 obtain ⟨k, rfl⟩ : ∃ m, k = m + 1 := ⟨k - 1, by omega⟩
 rw [e k (by omega)]
 exact hK k (by omega)
def cut (s : List UInt8) (i j : Nat) : List UInt8 := (s.drop i).take (j - i)
theorem cut_len (s : List UInt8) (i j : Nat) : (cut s i j).length ≤ s.length := by
 unfold cut
 rw [List.length_take, List.length_drop]
 omega
theorem S_cut (s : List UInt8) (i j : Nat) : (S s).extract i j = S (cut s i j) := S_extract s i j
theorem wrap_pred (i : Nat) (h0 : 0 < i) (h : i ≤ 140737488355328) : wrap64 ((i : Int) - 1) = ((i - 1 : Nat) : Int) := by rw [wrap_id (by omega) (by omega)]; omega

/-! hosts -/
def portB (s : List UInt8) (k : Nat) : Bool := k == s.length || (s[k]? == some 58 && (s.drop (k + 1)).all digitB)
def hostsF (s : List UInt8) (i k : Nat) : List (List UInt8) := if (portB s k && isHostL (cut s i k)) = true then [cut s i k] else []
def guardH (s : List UInt8) (i : Nat) : Bool := i == 0 || (s[i - 1]? == some 64 && namedL (s.take (i - 1)) [58])
def hostsI (s : List UInt8) (i : Nat) : List (List UInt8) := if guardH s i = true then span (hostsF s i) i (s.length + 1 - i) else []
def hostsL (s : List UInt8) : List (List UInt8) := span (hostsI s) 0 (s.length + 1)
theorem hostsF_len (s : List UInt8) (i k : Nat) : (hostsF s i k).length ≤ 1 := by unfold hostsF; split <;> simp
theorem hostsI_len (s : List UInt8) (i : Nat) : (hostsI s i).length ≤ s.length + 1 := by
 unfold hostsI
 split
 ·have := len_span (hostsF_len s i) (s.length + 1 - i) i
  omega
 ·simp
theorem hostsL_len (s : List UInt8) : (hostsL s).length ≤ (s.length + 1) * (s.length + 1) := len_span (hostsI_len s) _ _
section hosts
variable (s : List UInt8) (hs : s.length ≤ 40)
include hs
theorem hosts_put (out : List ByteArray) (i kk : Nat) (R : List ByteArray) (b : Bool) (hik : i ≤ kk) (hk : kk ≤ s.length) (ho : out.length < 8796093022208)
  (H : Comes (fun k => r19_hosts.l1 k (S s) (out ++ (if (b && isHostL (cut s i kk)) = true then [S (cut s i kk)] else [])) (i : Int) ((kk + 1 : Nat) : Int)) R) :
  ∃ K, ∀ k, K ≤ k → (if b = true then (if 0 ≤ (i : Int) then (if (i : Int) ≤ (kk : Int) then (if (kk : Int) ≤ ((S s).size : Int) then ((r19_isHost.f k ((S s).extract (i : Int).toNat (kk : Int).toNat)).bind fun t361 => (if t361 = true then (if out.length < 8796093022208 then (r19_hosts.l1 k (S s) (out ++ [(S s).extract (i : Int).toNat (kk : Int).toNat]) (i : Int) (wrap64 ((kk : Int) + 1))) else (none)) else (r19_hosts.l1 k (S s) out (i : Int) (wrap64 ((kk : Int) + 1))))) else (none)) else (none)) else (none)) else (r19_hosts.l1 k (S s) out (i : Int) (wrap64 ((kk : Int) + 1)))) = some R := by
 obtain ⟨K, hK⟩ := H
 refine ⟨K + 300, fun k hk2 => ?_⟩
 have h := hK k (by omega)
 have hc := cut_len s i kk
 rw [wrap_succ kk (by omega)]
 cases b with
 | false =>
  rw [if_neg (by decide)]
  rw [Bool.false_and, if_neg (by decide), List.append_nil] at h
  exact h
 | true =>
  rw [if_pos rfl, if_pos (by omega), if_pos (by omega), if_pos (by rw [S_size]; omega), Int.toNat_natCast, Int.toNat_natCast, S_cut, isHostE (cut s i kk) (by unfold Sm; omega) k (by omega)]
  simp only [Option.bind_some]
  rw [Bool.true_and] at h
  by_cases hh : isHostL (cut s i kk) = true
  ·rw [if_pos hh, if_pos ho]
   rw [if_pos hh] at h
   exact h
  ·rw [if_neg hh]
   rw [if_neg hh, List.append_nil] at h
   exact h
theorem hosts_l2 (out : List ByteArray) (i kk : Nat) (R : List ByteArray) (hik : i ≤ kk) (hk : kk ≤ s.length) (ho : out.length < 8796093022208) : ∀ (d j : Nat) (b : Bool), j + d = s.length →
  Comes (fun k => r19_hosts.l1 k (S s) (out ++ (if ((b && (s.drop j).all digitB) && isHostL (cut s i kk)) = true then [S (cut s i kk)] else [])) (i : Int) ((kk + 1 : Nat) : Int)) R →
  Comes (fun k => r19_hosts.l2 k (S s) out (i : Int) (kk : Int) b (j : Int)) R
 | 0, j, b, hj, H => by
  rw [List.drop_of_length_le (by omega), List.all_nil, Bool.and_true] at H
  refine Comes.step (hosts_put s hs out i kk R b hik hk ho H) 0 fun k _ => ?_
  rw [r19_hosts.l2, if_neg (by rw [S_size]; omega)]
 | d + 1, j, b, hj, H => by
  have hi : j < s.length := by omega
  have hd : s.drop j = s[j] :: s.drop (j + 1) := List.drop_eq_getElem_cons hi
  rw [hd, List.all_cons, ← Bool.and_assoc] at H
  refine Comes.step (hosts_l2 out i kk R hik hk ho d (j + 1) (b && digitB s[j]) (by omega) H) 0 fun k _ => ?_
  rw [r19_hosts.l2, if_pos (by rw [S_size]; omega), wrap_succ j (by omega)]
  cases b with
  | false => rw [if_neg (by decide)]; rfl
  | true =>
   rw [if_pos rfl, if_pos (by omega), bt_S s j hi, DigitE]
   rfl
theorem hosts_one (out : List ByteArray) (i kk : Nat) (R : List ByteArray) (hik : i ≤ kk) (hk : kk ≤ s.length) (ho : out.length < 8796093022208)
  (H : Comes (fun k => r19_hosts.l1 k (S s) (out ++ (hostsF s i kk).map S) (i : Int) ((kk + 1 : Nat) : Int)) R) :
  Comes (fun k => r19_hosts.l1 k (S s) out (i : Int) (kk : Int)) R := by
 have e : (hostsF s i kk).map S = (if (portB s kk && isHostL (cut s i kk)) = true then [S (cut s i kk)] else []) := by
  unfold hostsF
  split <;> rfl
 rw [e] at H
 by_cases hlt : kk < s.length
 ·have h58 : ((58 : UInt8).toNat : Int) = 58 := rfl
  have hn : (kk == s.length) = false := by rw [beq_eq_false_iff_ne]; omega
  have hi2 : ((kk : Int) == ((S s).size : Int)) = false := by rw [beq_eq_false_iff_ne, S_size]; omega
  by_cases hc : s[kk] = 58
  ·have hp : portB s kk = (true && (s.drop (kk + 1)).all digitB) := by
    unfold portB
    rw [hn, Bool.false_or, List.getElem?_eq_getElem hlt, hc]
    rfl
   rw [hp] at H
   refine Comes.step (Comes.step (hosts_l2 s hs out i kk R hik hk ho (s.length - (kk + 1)) (kk + 1) true (by omega) H) 0 (g := fun k => r19_hosts.j3 k (S s) out (i : Int) (kk : Int) false true) fun k _ => ?_) 0 fun k _ => ?_
   ·rw [r19_hosts.j3, if_pos rfl, wrap_succ kk (by omega)]
   ·rw [r19_hosts.l1, if_pos (by rw [S_size]; omega), if_pos (by rw [S_size]; omega), if_pos (by omega), bt_S s kk hlt, hi2, hc]
    rfl
  ·have hp : portB s kk = false := by
    unfold portB
    rw [hn, Bool.false_or, List.getElem?_eq_getElem hlt, beq_eq_false_iff_ne.2 (fun e => hc (Option.some.inj e))]
    rfl
   rw [hp] at H
   have h5 : ((s[kk].toNat : Int) == 58) = false := by rw [beq_eq_false_iff_ne, ← h58]; exact fun e => hc ((byte_eq _ _).1 e)
   have hput := hosts_put s hs out i kk R false hik hk ho H
   refine Comes.step (Comes.step hput 0 (g := fun k => r19_hosts.j3 k (S s) out (i : Int) (kk : Int) false false) fun k _ => ?_) 0 fun k _ => ?_
   ·rw [r19_hosts.j3, if_neg (by decide)]
   ·rw [r19_hosts.l1, if_pos (by rw [S_size]; omega), if_pos (by rw [S_size]; omega), if_pos (by omega), bt_S s kk hlt, hi2, h5]
 ·have hkk : kk = s.length := by omega
  have hp : portB s kk = true := by
   unfold portB
   rw [hkk, beq_self_eq_true]
   rfl
  have hi2 : ((kk : Int) == ((S s).size : Int)) = true := by rw [beq_iff_eq, S_size]; omega
  rw [hp] at H
  have hput := hosts_put s hs out i kk R true hik hk ho H
  refine Comes.step (Comes.step hput 0 (g := fun k => r19_hosts.j3 k (S s) out (i : Int) (kk : Int) true false) fun k _ => ?_) 0 fun k _ => ?_
  ·rw [r19_hosts.j3, if_neg (by decide)]
  ·rw [r19_hosts.l1, if_pos (by rw [S_size]; omega), if_neg (by rw [S_size]; omega), hi2]
theorem hosts_l1 (i : Nat) (hi : i ≤ s.length) (R : List ByteArray) : ∀ (d kk : Nat) (out : List ByteArray), kk + d = s.length + 1 → i ≤ kk → out.length + d ≤ 10000 →
  Comes (fun k => r19_hosts.l0 k (S s) (out ++ (span (hostsF s i) kk d).map S) ((i + 1 : Nat) : Int)) R →
  Comes (fun k => r19_hosts.l1 k (S s) out (i : Int) (kk : Int)) R
 | 0, kk, out, h, hik, _, H => by
  rw [span, List.map_nil, List.append_nil] at H
  refine Comes.step H 0 fun k _ => ?_
  rw [r19_hosts.l1, if_neg (by rw [S_size]; omega), wrap_succ i (by omega)]
 | d + 1, kk, out, h, hik, hl, H => by
  have h1 := hostsF_len s i kk
  refine hosts_one s hs out i kk R hik (by omega) (by omega) ?_
  refine hosts_l1 i hi R d (kk + 1) _ (by omega) (by omega) (by rw [List.length_append, List.length_map]; omega) ?_
  rw [span, List.map_append, ← List.append_assoc] at H
  exact H
theorem hosts_l0 (R : List ByteArray) : ∀ (d i : Nat) (out : List ByteArray), i + d = s.length + 1 → out.length + d * 41 ≤ 5000 → out ++ (span (hostsI s) i d).map S = R →
  Comes (fun k => r19_hosts.l0 k (S s) out (i : Int)) R
 | 0, i, out, h, _, H => by
  rw [span, List.map_nil, List.append_nil] at H
  refine ⟨1, fun k hk => ?_⟩
  obtain ⟨k, rfl⟩ : ∃ m, k = m + 1 := ⟨k - 1, by omega⟩
  show r19_hosts.l0 (k + 1) (S s) out (i : Int) = some R
  rw [r19_hosts.l0, if_neg (by rw [S_size]; omega), H]
 | d + 1, i, out, h, hl, H => by
  have hi : i ≤ s.length := by omega
  have hI := hostsI_len s i
  rw [span, List.map_append, ← List.append_assoc] at H
  have ih := hosts_l0 R d (i + 1) (out ++ (hostsI s i).map S) (by omega) (by rw [List.length_append, List.length_map]; omega) H
  have hj : Comes (fun k => r19_hosts.j1 k (S s) out (i : Int) (!guardH s i)) R := by
   by_cases hg : guardH s i = true
   ·unfold hostsI at ih
    rw [if_pos hg] at ih
    refine Comes.step (hosts_l1 s hs i hi R (s.length + 1 - i) i out (by omega) (Nat.le_refl _) (by omega) ih) 0 fun k _ => ?_
    rw [r19_hosts.j1, hg, if_neg (by decide)]
   ·unfold hostsI at ih
    rw [if_neg hg, List.map_nil, List.append_nil] at ih
    refine Comes.step ih 0 fun k _ => ?_
    rw [r19_hosts.j1, Bool.eq_false_iff.2 hg, if_pos (by decide), wrap_succ i (by omega)]
  by_cases h0 : i = 0
  ·have hg : guardH s i = true := by unfold guardH; rw [h0]; rfl
   rw [hg] at hj
   refine Comes.step (f := fun k => r19_hosts.j1 k (S s) out (i : Int) false) hj 0 fun k _ => ?_
   rw [r19_hosts.l0, if_pos (by rw [S_size]; omega), if_neg (by omega)]
  ·have h64 : ((64 : UInt8).toNat : Int) = 64 := rfl
   have hlt : i - 1 < s.length := by omega
   have hg : guardH s i = (s[i - 1]? == some 64 && namedL (s.take (i - 1)) [58]) := by
    unfold guardH
    rw [beq_eq_false_iff_ne.2 h0]
    rfl
   refine Comes.step hj 200 fun k hk => ?_
   rw [r19_hosts.l0, if_pos (by rw [S_size]; omega), if_pos (by omega), wrap_pred i (by omega) (by omega), if_pos (by omega), if_pos (by rw [S_size]; omega), bt_S s (i - 1) hlt, hg, List.getElem?_eq_getElem hlt]
   by_cases hc : s[i - 1] = 64
   ·rw [if_pos (by rw [hc]; rfl), if_pos (by rw [S_size]; omega), Int.toNat_natCast, S_upto]
    have hn := namedE (s.take (i - 1)) [58] (by unfold Sm; rw [List.length_take]; omega) (by decide) (by decide) k (by rw [List.length_take]; simp only [List.length_cons, List.length_nil]; omega)
    have hn2 : r19_named.f k (S (s.take (i - 1))) (⟨#[58]⟩ : ByteArray) = some (namedL (s.take (i - 1)) [58]) := hn
    rw [hn2]
    simp only [Option.bind_some]
    rw [hc]
    rfl
   ·rw [if_neg (by rw [← h64]; exact fun e => hc ((byte_eq _ _).1 e)), beq_eq_false_iff_ne.2 (fun e => hc (Option.some.inj e))]
    rfl
end hosts
theorem hosts_ev (s : List UInt8) (hs : s.length ≤ 40) : Comes (fun k => r19_hosts.f k (S s)) ((hostsL s).map S) :=
 hosts_l0 s hs _ (s.length + 1) 0 [] (by omega) (by simp only [List.length_nil]; omega) rfl
theorem Comes.bind {α β : Type} {g : Nat → Option α} {f : Nat → α → Option β} {a : α} {r : β} (h : Comes g a) (k : Comes (fun n => f n a) r) : Comes (fun n => (g n).bind (f n)) r := by
 obtain ⟨K, hK⟩ := h
 obtain ⟨K2, hK2⟩ := k
 refine ⟨K + K2, fun n hn => ?_⟩
 show (g n).bind (f n) = some r
 rw [hK n (by omega)]
 exact hK2 n (by omega)
/-! heads -/
abbrev HP := List UInt8 × List UInt8
def toS (x : HP) : S24 := ⟨true, S x.1, S x.2⟩
def headsK (t : List UInt8) (k : Nat) : List HP := if ((k == t.length || t[k]? == some 47) && namedL (t.drop k) [58, 64, 47]) = true then (hostsL (cut t 2 k)).map fun h => (h, t.drop k) else []
def restF (t : List UInt8) (pos : Bool) : List HP :=
 if ([47, 47] : List UInt8).isPrefixOf t = true then span (headsK t) 2 (t.length + 1 - 2) else if (namedL t [58, 64, 47] && (pos || relL t)) = true then [([], t)] else []
def guardA (s : List UInt8) (i : Nat) : Bool := i == 0 || (s[i - 1]? == some 58 && schemeOk (s.take (i - 1)))
def headsI (s : List UInt8) (i : Nat) : List HP := if guardA s i = true then restF (s.drop i) (decide (i > 0)) else []
def headsL (s : List UInt8) : List HP := span (headsI s) 0 (s.length + 1)
theorem hostsL_len' {s : List UInt8} (hs : s.length ≤ 40) : (hostsL s).length ≤ 1681 := by
 have h := hostsL_len s
 have : (s.length + 1) * (s.length + 1) ≤ 41 * 41 := Nat.mul_le_mul (by omega) (by omega)
 omega
theorem headsK_len {t : List UInt8} (ht : t.length ≤ 40) (k : Nat) : (headsK t k).length ≤ 1681 := by
 unfold headsK
 have h1 := cut_len t 2 k
 have h2 := hostsL_len' (s := cut t 2 k) (by omega)
 split
 ·rw [List.length_map]; exact h2
 ·simp
theorem restF_len {t : List UInt8} (ht : t.length ≤ 40) (b : Bool) : (restF t b).length ≤ 70000 := by
 unfold restF
 split
 ·have := len_span (headsK_len ht) (t.length + 1 - 2) 2
  omega
 ·split <;> simp
theorem headsI_len {s : List UInt8} (hs : s.length ≤ 40) (i : Nat) : (headsI s i).length ≤ 70000 := by
 unfold headsI
 split
 ·exact restF_len (by rw [List.length_drop]; omega) _
 ·simp
theorem headsL_len {s : List UInt8} (hs : s.length ≤ 40) : (headsL s).length ≤ 2870000 := by
 have := len_span (headsI_len hs) (s.length + 1) 0
 unfold headsL
 omega
theorem heads_l2 (s : List UInt8) (i : Nat) (t : List UInt8) (ht : t.length ≤ 40) (kk : Nat) (hk : kk ≤ t.length) (l : List (List UInt8)) (hll : l.length ≤ 10000) (R : List S24) : ∀ (d j : Nat) (out : List S24), j + d = l.length → out.length + d ≤ 10000000 →
  Comes (fun k => r19_heads.l1 k (S s) (out ++ ((l.drop j).map fun h => toS (h, t.drop kk))) (i : Int) (S t) ((kk + 1 : Nat) : Int)) R →
  Comes (fun k => r19_heads.l2 k (S s) out (i : Int) (S t) (kk : Int) (l.map S) (j : Int)) R
 | 0, j, out, h, _, H => by
  have e0 : l.drop j = [] := List.drop_of_length_le (by omega)
  rw [e0, List.map_nil, List.append_nil] at H
  refine Comes.step H 0 fun k _ => ?_
  rw [r19_heads.l2, if_neg (by rw [List.length_map]; omega), wrap_succ kk (by omega)]
 | d + 1, j, out, h, hl, H => by
  have hj : j < l.length := by omega
  have hd : l.drop j = l[j] :: l.drop (j + 1) := List.drop_eq_getElem_cons hj
  rw [hd, List.map_cons] at H
  have e : ∀ (x : S24) (y : List S24), out ++ x :: y = (out ++ [x]) ++ y := fun x y => by simp
  rw [e] at H
  have ih := heads_l2 s i t ht kk hk l hll R d (j + 1) (out ++ [toS (l[j], t.drop kk)]) (by omega) (by rw [List.length_append, List.length_singleton]; omega) H
  refine Comes.step ih 0 fun k _ => ?_
  have hr : rdOf ByteArray.empty (l.map S) (j : Int) = S l[j] := by
   unfold rdOf
   rw [Int.toNat_natCast, List.getD_eq_getElem?_getD, List.getElem?_map, List.getElem?_eq_getElem hj]
   rfl
  have hx : (S t).extract kk (S t).size = S (t.drop kk) := S_from t kk
  rw [r19_heads.l2, if_pos (by rw [List.length_map]; omega), if_pos (by omega), if_pos (by omega), if_pos (by rw [S_size]; omega), if_pos (by omega), wrap_succ j (by omega), hr, Int.toNat_natCast, hx]
  rfl
theorem heads_one (s : List UInt8) (i : Nat) (t : List UInt8) (ht : t.length ≤ 40) (kk : Nat) (h2 : 2 ≤ kk) (hk : kk ≤ t.length) (R : List S24) (out : List S24) (hl : out.length ≤ 5000000)
  (H : Comes (fun k => r19_heads.l1 k (S s) (out ++ (headsK t kk).map toS) (i : Int) (S t) ((kk + 1 : Nat) : Int)) R) :
  Comes (fun k => r19_heads.l1 k (S s) out (i : Int) (S t) (kk : Int)) R := by
 have hx : (S t).extract kk (S t).size = S (t.drop kk) := S_from t kk
 have hn : ∀ k, 200 ≤ k → r19_named.f k (S (t.drop kk)) (⟨#[58, 64, 47]⟩ : ByteArray) = some (namedL (t.drop kk) [58, 64, 47]) := fun k hk =>
  namedE (t.drop kk) [58, 64, 47] (by unfold Sm; rw [List.length_drop]; omega) (by decide) (by decide) k (by rw [List.length_drop]; simp only [List.length_cons, List.length_nil]; omega)
 have hw : wrap64 ((kk : Int) + 1) = ((kk + 1 : Nat) : Int) := wrap_succ kk (by omega)
 -- what j4 comes to
 have j4 : ∀ b : Bool, Comes (fun k => r19_heads.l1 k (S s) (out ++ (if b = true then (hostsL (cut t 2 kk)).map fun h => toS (h, t.drop kk) else [])) (i : Int) (S t) ((kk + 1 : Nat) : Int)) R →
   Comes (fun k => r19_heads.j4 k (S s) out (i : Int) (S t) (kk : Int) (!b)) R := by
  intro b Hb
  cases b with
  | false =>
   rw [if_neg (by decide), List.append_nil] at Hb
   refine Comes.step Hb 0 fun k _ => ?_
   rw [r19_heads.j4, if_pos (by decide), hw]
  | true =>
   rw [if_pos rfl] at Hb
   have hc := cut_len t 2 kk
   have hh := hostsL_len' (s := cut t 2 kk) (by omega)
   have h2' := heads_l2 s i t ht kk hk (hostsL (cut t 2 kk)) (by omega) R (hostsL (cut t 2 kk)).length 0 out (by omega) (by omega) Hb
   refine Comes.step (Comes.bind (f := fun k x => r19_heads.l2 k (S s) out (i : Int) (S t) (kk : Int) x 0) (hosts_ev (cut t 2 kk) (by omega)) h2') 0 fun k _ => ?_
   have hcut : (S t).extract 2 kk = S (cut t 2 kk) := S_cut t 2 kk
   rw [r19_heads.j4, if_neg (by decide), if_pos (by omega), if_pos (by rw [S_size]; omega), Int.toNat_natCast, hcut]
 have hmap : ∀ b : Bool, (if (b && namedL (t.drop kk) [58, 64, 47]) = true then (hostsL (cut t 2 kk)).map (fun h => (h, t.drop kk)) else ([] : List HP)).map toS = (if (b && namedL (t.drop kk) [58, 64, 47]) = true then (hostsL (cut t 2 kk)).map fun h => toS (h, t.drop kk) else []) := fun b => by
  split
  ·rw [List.map_map]; rfl
  ·rfl
 unfold headsK at H
 rw [hmap] at H
 have hJ := j4 _ H
 by_cases hlt : kk < t.length
 ·have h47 : ((47 : UInt8).toNat : Int) = 47 := rfl
  rw [beq_eq_false_iff_ne.2 (show ¬ kk = t.length by omega), Bool.false_or, List.getElem?_eq_getElem hlt] at hJ
  refine Comes.step hJ 200 fun k hk2 => ?_
  rw [r19_heads.l1, if_pos (by rw [S_size]; omega), if_pos (by rw [S_size]; omega), if_pos (by omega), bt_S t kk hlt, Int.toNat_natCast, hx, hn k hk2]
  by_cases hc : t[kk] = 47
  ·rw [if_pos (by rw [hc]; rfl), hc]
   rfl
  ·rw [if_neg (by rw [← h47]; exact fun e => hc ((byte_eq _ _).1 e)), beq_eq_false_iff_ne.2 (fun e => hc (Option.some.inj e))]
   rfl
 ·have : kk = t.length := by omega
  have hb : (kk == t.length) = true := beq_iff_eq.2 this
  rw [hb, Bool.true_or, Bool.true_and] at hJ
  refine Comes.step hJ 200 fun k hk2 => ?_
  rw [r19_heads.l1, if_pos (by rw [S_size]; omega), if_neg (by rw [S_size]; omega), if_pos (by omega), Int.toNat_natCast, hx, hn k hk2]
  rfl
section heads
variable (s : List UInt8) (hs : s.length ≤ 40)
include hs
theorem heads_l1 (i : Nat) (hi : i ≤ s.length) (t : List UInt8) (ht : t.length ≤ 40) (R : List S24) : ∀ (d kk : Nat) (out : List S24), kk + d = t.length + 1 → 2 ≤ kk → out.length + d * 1681 ≤ 4000000 →
  Comes (fun k => r19_heads.l0 k (S s) (out ++ (span (headsK t) kk d).map toS) ((i + 1 : Nat) : Int)) R →
  Comes (fun k => r19_heads.l1 k (S s) out (i : Int) (S t) (kk : Int)) R
 | 0, kk, out, h, h2, _, H => by
  rw [span, List.map_nil, List.append_nil] at H
  refine Comes.step H 0 fun k _ => ?_
  rw [r19_heads.l1, if_neg (by rw [S_size]; omega), wrap_succ i (by omega)]
 | d + 1, kk, out, h, h2, hl, H => by
  have h1 := headsK_len ht kk
  refine heads_one s i t ht kk h2 (by omega) R out (by omega) ?_
  refine heads_l1 i hi t ht R d (kk + 1) _ (by omega) (by omega) (by rw [List.length_append, List.length_map]; omega) ?_
  rw [span, List.map_append, ← List.append_assoc] at H
  exact H
theorem heads_rest (i : Nat) (hi : i ≤ s.length) (R : List S24) (out : List S24) (hl : out.length ≤ 3900000)
  (H : Comes (fun k => r19_heads.l0 k (S s) (out ++ (restF (s.drop i) (decide (i > 0))).map toS) ((i + 1 : Nat) : Int)) R) :
  Comes (fun k => r19_heads.j1 k (S s) out (i : Int) false) R := by
 have hx : (S s).extract i (S s).size = S (s.drop i) := S_from s i
 have ht : (s.drop i).length ≤ 40 := by rw [List.length_drop]; omega
 have h47 : ((47 : UInt8).toNat : Int) = 47 := rfl
 generalize hT : s.drop i = t at *
 -- what j2 comes to
 have j2 : Comes (fun k => r19_heads.j2 k (S s) out (i : Int) (S t) (!([47, 47] : List UInt8).isPrefixOf t)) R := by
  unfold restF at H
  by_cases hp : ([47, 47] : List UInt8).isPrefixOf t = true
  ·rw [if_pos hp] at H
   have h2 : 2 ≤ t.length := (List.isPrefixOf_iff_prefix.1 hp).length_le
   refine Comes.step (heads_l1 s hs i hi t ht R (t.length + 1 - 2) 2 out (by omega) (by omega) (by omega) H) 0 fun k _ => ?_
   rw [r19_heads.j2, hp, if_neg (by decide)]
   rfl
  ·rw [if_neg hp] at H
   have hn : ∀ k, 200 ≤ k → r19_named.f k (S t) (⟨#[58, 64, 47]⟩ : ByteArray) = some (namedL t [58, 64, 47]) := fun k hk =>
    namedE t [58, 64, 47] (by unfold Sm; omega) (by decide) (by decide) k (by simp only [List.length_cons, List.length_nil]; omega)
   refine Comes.step H 300 fun k hk => ?_
   rw [r19_heads.j2, Bool.eq_false_iff.2 hp, if_pos (by decide), hn k (by omega), wrap_succ i (by omega)]
   simp only [Option.bind_some]
   by_cases h1 : namedL t [58, 64, 47] = true
   ·rw [if_pos h1, h1, Bool.true_and]
    by_cases h0 : i > 0
    ·rw [if_pos (by omega), if_pos (by omega), decide_eq_true h0, Bool.true_or, if_pos rfl]
     rfl
    ·rw [if_neg (by omega), decide_eq_false h0, Bool.false_or, relE t (by unfold Sm; omega) k (by omega)]
     simp only [Option.bind_some]
     by_cases hr : relL t = true
     ·rw [if_pos hr, if_pos (by omega), if_pos hr]
      rfl
     ·rw [if_neg hr, if_neg hr, List.map_nil, List.append_nil]
   ·rw [if_neg h1, Bool.eq_false_iff.2 h1, Bool.false_and, if_neg (by decide), List.map_nil, List.append_nil]
 refine Comes.step j2 0 fun k _ => ?_
 rw [r19_heads.j1, if_neg (by decide), if_pos (by omega), if_pos (by rw [S_size]; omega), Int.toNat_natCast, hx]
 match t with
 | [] => rw [if_pos (by rw [S_size]; simp)]; rfl
 | [a] => rw [if_pos (by rw [S_size]; simp)]; simp [List.isPrefixOf]
 | a :: b :: u =>
  have b0 : bt (S (a :: b :: u)) 0 = (a.toNat : Int) := bt_S (a :: b :: u) 0 (by simp)
  have b1 : bt (S (a :: b :: u)) 1 = (b.toNat : Int) := bt_S (a :: b :: u) 1 (by simp)
  rw [if_neg (by rw [S_size, List.length_cons, List.length_cons]; omega), if_pos (by rw [S_size, List.length_cons]; omega), b0, b1]
  have e : ([47, 47] : List UInt8).isPrefixOf (a :: b :: u) = (47 == a && 47 == b) := by simp [List.isPrefixOf]
  rw [e]
  by_cases ha : a = 47
  ·rw [if_pos (by rw [ha]; rfl), if_pos (by rw [S_size, List.length_cons, List.length_cons]; omega), ha]
   congr 1
   rw [Bool.eq_iff_iff]
   simp only [beq_self_eq_true, Bool.true_and, bne_iff_ne, Bool.not_eq_true', beq_eq_false_iff_ne]
   exact ⟨fun h e => h (by rw [← e]; rfl), fun h e => h ((byte_eq _ _).1 (by rw [h47]; exact e.symm))⟩
  ·rw [if_neg (by rw [← h47]; exact fun e => ha ((byte_eq _ _).1 e)), beq_eq_false_iff_ne.2 (fun e => ha e.symm)]
   rfl
theorem heads_l0 (R : List S24) : ∀ (d i : Nat) (out : List S24), i + d = s.length + 1 → out.length + d * 70000 ≤ 3900000 → out ++ (span (headsI s) i d).map toS = R →
  Comes (fun k => r19_heads.l0 k (S s) out (i : Int)) R
 | 0, i, out, h, _, H => by
  rw [span, List.map_nil, List.append_nil] at H
  refine ⟨1, fun k hk => ?_⟩
  obtain ⟨k, rfl⟩ : ∃ m, k = m + 1 := ⟨k - 1, by omega⟩
  show r19_heads.l0 (k + 1) (S s) out (i : Int) = some R
  rw [r19_heads.l0, if_neg (by rw [S_size]; omega), H]
 | d + 1, i, out, h, hl, H => by
  have hi : i ≤ s.length := by omega
  have hI := headsI_len hs i
  rw [span, List.map_append, ← List.append_assoc] at H
  have ih := heads_l0 R d (i + 1) (out ++ (headsI s i).map toS) (by omega) (by rw [List.length_append, List.length_map]; omega) H
  have hj : Comes (fun k => r19_heads.j1 k (S s) out (i : Int) (!guardA s i)) R := by
   by_cases hg : guardA s i = true
   ·unfold headsI at ih
    rw [if_pos hg] at ih
    rw [hg]
    exact heads_rest s hs i hi R out (by omega) ih
   ·unfold headsI at ih
    rw [if_neg hg, List.map_nil, List.append_nil] at ih
    refine Comes.step ih 0 fun k _ => ?_
    rw [r19_heads.j1, Bool.eq_false_iff.2 hg, if_pos (by decide), wrap_succ i (by omega)]
  by_cases h0 : i = 0
  ·have hg : guardA s i = true := by unfold guardA; rw [h0]; rfl
   rw [hg] at hj
   refine Comes.step (f := fun k => r19_heads.j1 k (S s) out (i : Int) false) hj 0 fun k _ => ?_
   rw [r19_heads.l0, if_pos (by rw [S_size]; omega), if_neg (by omega)]
  ·have h58 : ((58 : UInt8).toNat : Int) = 58 := rfl
   have hlt : i - 1 < s.length := by omega
   have hg : guardA s i = (s[i - 1]? == some 58 && schemeOk (s.take (i - 1))) := by
    unfold guardA
    rw [beq_eq_false_iff_ne.2 h0]
    rfl
   refine Comes.step hj 200 fun k hk => ?_
   rw [r19_heads.l0, if_pos (by rw [S_size]; omega), if_pos (by omega), wrap_pred i (by omega) (by omega), if_pos (by omega), if_pos (by rw [S_size]; omega), bt_S s (i - 1) hlt, hg, List.getElem?_eq_getElem hlt]
   by_cases hc : s[i - 1] = 58
   ·rw [if_pos (by rw [hc]; rfl), if_pos (by rw [S_size]; omega), Int.toNat_natCast, S_upto, schemeE (s.take (i - 1)) (by unfold Sm; rw [List.length_take]; omega) k (by rw [List.length_take]; omega)]
    simp only [Option.bind_some]
    rw [hc]
    rfl
   ·rw [if_neg (by rw [← h58]; exact fun e => hc ((byte_eq _ _).1 e)), beq_eq_false_iff_ne.2 (fun e => hc (Option.some.inj e))]
    rfl
end heads
theorem heads_ev (s : List UInt8) (hs : s.length ≤ 40) : Comes (fun k => r19_heads.f k (S s)) ((headsL s).map toS) :=
 heads_l0 s hs _ (s.length + 1) 0 [] (by omega) (by simp only [List.length_nil]; omega) rfl
/-! all ways -/
def waysQ (s : List UInt8) (e q : Nat) : List HP := if (q == e || (s[q]? == some 63 && namedL (cut s (q + 1) e) [58, 64, 47, 63])) = true then headsL (s.take q) else []
def waysE (s : List UInt8) (e : Nat) : List HP := if (e == s.length || (s[e]? == some 35 && namedL (s.drop (e + 1)) [58, 64, 47, 63])) = true then downs (waysQ s e) (e + 1) else []
def waysL (s : List UInt8) : List HP := downs (waysE s) (s.length + 1)
theorem waysQ_len {s : List UInt8} (hs : s.length ≤ 40) (e q : Nat) : (waysQ s e q).length ≤ 2870000 := by
 unfold waysQ
 split
 ·exact headsL_len (by rw [List.length_take]; omega)
 ·simp
theorem wrap_down (d : Nat) (h : d ≤ 1000) : wrap64 (((d + 1 : Nat) : Int) - 1 - 1) = (d : Int) - 1 := by rw [wrap_id (by omega) (by omega)]; omega
section ways
variable (s : List UInt8) (hs : s.length ≤ 40)
include hs
theorem ways_l1 (e : Nat) (he : e ≤ s.length) (R : List S24) : ∀ (d : Nat) (out : List S24), d ≤ e + 1 → out.length + d * 2870000 ≤ 10000000000 →
  Comes (fun k => r19_Ways.l0 k (S s) (out ++ (downs (waysQ s e) d).map toS) ((e : Int) - 1)) R →
  Comes (fun k => r19_Ways.l1 k (S s) out (e : Int) ((d : Int) - 1)) R
 | 0, out, h, _, H => by
  rw [downs, List.map_nil, List.append_nil] at H
  refine Comes.step H 0 fun k _ => ?_
  have hw : wrap64 ((e : Int) - 1) = (e : Int) - 1 := wrap_id (by omega) (by omega)
  rw [r19_Ways.l1, if_neg (by omega), hw]
 | d + 1, out, h, hl, H => by
  have hQ := waysQ_len hs e d
  have hlen := headsL_len (s := s.take d) (by rw [List.length_take]; omega)
  rw [downs, List.map_append, ← List.append_assoc] at H
  have ih := ways_l1 e he R d (out ++ (waysQ s e d).map toS) (by omega) (by rw [List.length_append, List.length_map]; omega) H
  have hd1 : (((d + 1 : Nat) : Int) - 1) = (d : Int) := by omega
  have hw := wrap_down d (by omega)
  rw [hd1] at hw ⊢
  -- what is told when the heads are taken
  have take : waysQ s e d = headsL (s.take d) → Comes (fun k => (r19_heads.f k (S (s.take d))).bind fun t => (if out.length + t.length < 3518437208883 then (r19_Ways.l1 k (S s) (out ++ t) (e : Int) ((d : Int) - 1)) else (none))) R := by
   intro hq
   rw [hq] at ih
   refine Comes.bind (f := fun k t => (if out.length + t.length < 3518437208883 then (r19_Ways.l1 k (S s) (out ++ t) (e : Int) ((d : Int) - 1)) else (none))) (heads_ev (s.take d) (by rw [List.length_take]; omega)) ?_
   have hb : out.length + ((headsL (s.take d)).map toS).length < 3518437208883 := by rw [List.length_map]; omega
   simp only [if_pos hb]
   exact ih
  by_cases hlt : d < e
  ·have h63 : ((63 : UInt8).toNat : Int) = 63 := rfl
   have hds : d < s.length := by omega
   have hne : (d == e) = false := by rw [beq_eq_false_iff_ne]; omega
   have hn : ∀ k, 200 ≤ k → r19_named.f k (S (cut s (d + 1) e)) (⟨#[58, 64, 47, 63]⟩ : ByteArray) = some (namedL (cut s (d + 1) e) [58, 64, 47, 63]) := fun k hk =>
    namedE (cut s (d + 1) e) [58, 64, 47, 63] (by have := cut_len s (d + 1) e; unfold Sm; omega) (by decide) (by decide) k (by have := cut_len s (d + 1) e; simp only [List.length_cons, List.length_nil]; omega)
   have hstep : ∀ k, 200 ≤ k → r19_Ways.l1 (k + 1) (S s) out (e : Int) (d : Int) = (if s[d] = 63 then (if namedL (cut s (d + 1) e) [58, 64, 47, 63] = true then ((r19_heads.f k (S (s.take d))).bind fun t => (if out.length + t.length < 3518437208883 then (r19_Ways.l1 k (S s) (out ++ t) (e : Int) ((d : Int) - 1)) else (none))) else r19_Ways.l1 k (S s) out (e : Int) ((d : Int) - 1)) else r19_Ways.l1 k (S s) out (e : Int) ((d : Int) - 1)) := by
    intro k hk
    rw [r19_Ways.l1, if_pos (by omega), if_pos (by omega), if_pos (by omega), if_pos (by rw [S_size]; omega), bt_S s d hds, wrap_succ d (by omega), hw]
    by_cases hc : s[d] = 63
    ·rw [if_pos (by rw [hc]; rfl), if_pos hc, if_pos (by omega), if_pos (by omega), if_pos (by rw [S_size]; omega), Int.toNat_natCast, Int.toNat_natCast, Int.toNat_natCast, S_cut, hn k hk, if_pos (by rw [S_size]; omega), S_upto]
     rfl
    ·rw [if_neg (by rw [← h63]; exact fun e => hc ((byte_eq _ _).1 e)), if_neg hc]
   by_cases hc : s[d] = 63
   ·by_cases hn2 : namedL (cut s (d + 1) e) [58, 64, 47, 63] = true
    ·have hq : waysQ s e d = headsL (s.take d) := by
      unfold waysQ
      rw [hne, Bool.false_or, List.getElem?_eq_getElem hds, hc, hn2]
      rfl
     refine Comes.step (take hq) 200 fun k hk => ?_
     rw [hstep k hk, if_pos hc, if_pos hn2]
    ·have hq : waysQ s e d = [] := by
      unfold waysQ
      rw [hne, Bool.false_or, Bool.eq_false_iff.2 hn2, Bool.and_false]
      rfl
     rw [hq, List.map_nil, List.append_nil] at ih
     refine Comes.step ih 200 fun k hk => ?_
     rw [hstep k hk, if_pos hc, if_neg hn2]
   ·have hq : waysQ s e d = [] := by
     unfold waysQ
     rw [hne, Bool.false_or, List.getElem?_eq_getElem hds, beq_eq_false_iff_ne.2 (fun e => hc (Option.some.inj e))]
     rfl
    rw [hq, List.map_nil, List.append_nil] at ih
    refine Comes.step ih 200 fun k hk => ?_
    rw [hstep k hk, if_neg hc]
  ·have hde : d = e := by omega
   have hq : waysQ s e d = headsL (s.take d) := by
    unfold waysQ
    rw [hde, beq_self_eq_true]
    rfl
   refine Comes.step (take hq) 0 fun k hk => ?_
   rw [r19_Ways.l1, if_pos (by omega), if_neg (by omega), if_pos (by omega), if_pos (by rw [S_size]; omega), Int.toNat_natCast, S_upto, hw]
theorem waysE_len (e : Nat) (he : e ≤ s.length) : (waysE s e).length ≤ 118000000 := by
 unfold waysE
 split
 ·have := len_downs (waysQ_len hs e) (e + 1)
  omega
 ·simp
theorem ways_l0 (R : List S24) : ∀ (d : Nat) (out : List S24), d ≤ s.length + 1 → out.length + d * 118000000 ≤ 9000000000 → out ++ (downs (waysE s) d).map toS = R →
  Comes (fun k => r19_Ways.l0 k (S s) out ((d : Int) - 1)) R
 | 0, out, h, _, H => by
  rw [downs, List.map_nil, List.append_nil] at H
  refine ⟨1, fun k hk => ?_⟩
  obtain ⟨k, rfl⟩ : ∃ m, k = m + 1 := ⟨k - 1, by omega⟩
  show r19_Ways.l0 (k + 1) (S s) out (((0 : Nat) : Int) - 1) = some R
  rw [r19_Ways.l0, if_neg (by omega), H]
 | d + 1, out, h, hl, H => by
  have hE := waysE_len s hs d (by omega)
  rw [downs, List.map_append, ← List.append_assoc] at H
  have ih := ways_l0 R d (out ++ (waysE s d).map toS) (by omega) (by rw [List.length_append, List.length_map]; omega) H
  have hd1 : (((d + 1 : Nat) : Int) - 1) = (d : Int) := by omega
  have hw := wrap_down d (by omega)
  rw [hd1] at hw ⊢
  have hb2 : out.length + (d + 1) * 2870000 ≤ 10000000000 := Nat.le_trans (Nat.add_le_add_left (Nat.mul_le_mul_left (d + 1) (show 2870000 ≤ 118000000 by decide)) _) (Nat.le_trans hl (by decide))
  have hj : ∀ b : Bool, b = (d == s.length || (s[d]? == some 35 && namedL (s.drop (d + 1)) [58, 64, 47, 63])) → Comes (fun k => r19_Ways.j1 k (S s) out (d : Int) (!b)) R := by
   intro b hb
   unfold waysE at ih
   rw [← hb] at ih
   cases b with
   | true =>
    rw [if_pos rfl] at ih
    have h1 := ways_l1 s hs d (by omega) R (d + 1) out (Nat.le_refl _) hb2 ih
    rw [hd1] at h1
    refine Comes.step h1 0 fun k _ => ?_
    rw [r19_Ways.j1, if_neg (by decide)]
   | false =>
    rw [if_neg (by decide), List.map_nil, List.append_nil] at ih
    refine Comes.step ih 0 fun k _ => ?_
    rw [r19_Ways.j1, if_pos (by decide), hw]
  by_cases hlt : d < s.length
  ·have h35 : ((35 : UInt8).toNat : Int) = 35 := rfl
   have hx : (S s).extract (d + 1) (S s).size = S (s.drop (d + 1)) := S_from s (d + 1)
   have hn : ∀ k, 200 ≤ k → r19_named.f k (S (s.drop (d + 1))) (⟨#[58, 64, 47, 63]⟩ : ByteArray) = some (namedL (s.drop (d + 1)) [58, 64, 47, 63]) := fun k hk =>
    namedE (s.drop (d + 1)) [58, 64, 47, 63] (by unfold Sm; rw [List.length_drop]; omega) (by decide) (by decide) k (by rw [List.length_drop]; simp only [List.length_cons, List.length_nil]; omega)
   have hjj := hj _ rfl
   rw [beq_eq_false_iff_ne.2 (show ¬ d = s.length by omega), Bool.false_or, List.getElem?_eq_getElem hlt] at hjj
   refine Comes.step hjj 200 fun k hk => ?_
   rw [r19_Ways.l0, if_pos (by omega), if_pos (by rw [S_size]; omega), if_pos (by omega), bt_S s d hlt, wrap_succ d (by omega)]
   by_cases hc : s[d] = 35
   ·rw [if_pos (by rw [hc]; rfl), if_pos (by omega), if_pos (by rw [S_size]; omega), Int.toNat_natCast, hx, hn k hk, hc]
    rfl
   ·rw [if_neg (by rw [← h35]; exact fun e => hc ((byte_eq _ _).1 e)), beq_eq_false_iff_ne.2 (fun e => hc (Option.some.inj e))]
    rfl
  ·have hds : d = s.length := by omega
   have hjj := hj true (by rw [beq_iff_eq.2 hds]; rfl)
   refine Comes.step hjj 0 fun k _ => ?_
   rw [r19_Ways.l0, if_pos (by omega), if_neg (by rw [S_size]; omega)]
   rfl
end ways
theorem ways_ev (s : List UInt8) (hs : s.length ≤ 40) : Comes (fun k => r19_Ways.f k (S s)) ((waysL s).map toS) := by
 have h := ways_l0 s hs _ (s.length + 1) [] (Nat.le_refl _) (by simp only [List.length_nil]; omega) rfl
 have e : (((s.length + 1 : Nat) : Int) - 1) = ((S s).size : Int) := by rw [S_size]; omega
 rw [e] at h
 exact h
/-! what the ways are -/
theorem drop_cut (s : List UInt8) {i k : Nat} (h : i ≤ k) : s.drop i = cut s i k ++ s.drop k := by
 unfold cut
 have e : s.drop k = (s.drop i).drop (k - i) := by rw [List.drop_drop]; congr 1; omega
 rw [e, List.take_append_drop]
theorem take_mark {s : List UInt8} {i : Nat} {c : UInt8} (h0 : 0 < i) (h : s[i - 1]? = some c) : s = s.take (i - 1) ++ c :: s.drop i := by
 obtain ⟨hlt, e⟩ := List.getElem?_eq_some_iff.1 h
 have h1 : s.drop (i - 1) = s[i - 1] :: s.drop (i - 1 + 1) := List.drop_eq_getElem_cons hlt
 have h2 : i - 1 + 1 = i := by omega
 rw [h2, e] at h1
 rw [← h1, List.take_append_drop]
theorem mark_at (a b : List UInt8) (c : UInt8) : (a ++ c :: b)[a.length]? = some c := by simp
theorem portB_iff {s : List UInt8} {k : Nat} (hk : k ≤ s.length) : portB s k = true ↔ portR (s.drop k) := by
 unfold portB portR
 rw [Bool.or_eq_true, Bool.and_eq_true, beq_iff_eq, beq_iff_eq]
 constructor
 ·rintro (h | ⟨h1, h2⟩)
  ·left
   rw [h, List.drop_length]
  ·right
   obtain ⟨hlt, e⟩ := List.getElem?_eq_some_iff.1 h1
   exact ⟨_, by rw [List.drop_eq_getElem_cons hlt, e], h2⟩
 ·rintro (h | ⟨t, h, ht⟩)
  ·left
   have := congrArg List.length h
   rw [List.length_drop, List.length_nil] at this
   omega
  ·right
   have hlt : k < s.length := by
    have := congrArg List.length h
    rw [List.length_drop, List.length_cons] at this
    omega
   rw [List.drop_eq_getElem_cons hlt] at h
   injection h with h1 h2
   exact ⟨by rw [List.getElem?_eq_getElem hlt, h1], by rw [h2]; exact ht⟩
theorem mem_hosts {s h : List UInt8} : h ∈ hostsL s ↔ HostWay s h := by
 unfold hostsL
 rw [mem_span]
 constructor
 ·rintro ⟨i, _, hi, hx⟩
  unfold hostsI at hx
  by_cases hg : guardH s i = true
  ·rw [if_pos hg, mem_span] at hx
   obtain ⟨k, h1, h2, hx⟩ := hx
   unfold hostsF at hx
   by_cases hp : (portB s k && isHostL (cut s i k)) = true
   ·rw [if_pos hp, List.mem_singleton] at hx
    rw [Bool.and_eq_true] at hp
    have hd := drop_cut s h1
    rw [← hx] at hd hp
    refine ⟨s.drop k, (portB_iff (by omega)).1 hp.1, hp.2, ?_⟩
    unfold guardH at hg
    rw [Bool.or_eq_true, Bool.and_eq_true, beq_iff_eq, beq_iff_eq] at hg
    rcases hg with h0 | ⟨h3, h4⟩
    ·left
     rw [h0, List.drop_zero] at hd
     exact hd
    ·by_cases h0 : i = 0
     ·left
      rw [h0, List.drop_zero] at hd
      exact hd
     ·right
      refine ⟨s.take (i - 1), h4, ?_⟩
      rw [← hd]
      exact take_mark (by omega) h3
   ·rw [if_neg hp] at hx
    exact absurd hx (by simp)
  ·rw [if_neg hg] at hx
   exact absurd hx (by simp)
 ·rintro ⟨r, hr, hh, hs⟩
  rcases hs with rfl | ⟨u, hu, rfl⟩
  ·refine ⟨0, Nat.le_refl _, by omega, ?_⟩
   unfold hostsI
   rw [if_pos (by rfl), mem_span]
   refine ⟨h.length, by omega, by rw [List.length_append]; omega, ?_⟩
   have e : cut (h ++ r) 0 h.length = h := by unfold cut; rw [List.drop_zero, Nat.sub_zero, List.take_left' rfl]
   unfold hostsF
   rw [e, (portB_iff (by rw [List.length_append]; omega)).2 (by rw [List.drop_left' rfl]; exact hr), hh]
   simp
  ·refine ⟨u.length + 1, by omega, by rw [List.length_append, List.length_cons, List.length_append]; omega, ?_⟩
   have e1 : (u ++ 64 :: (h ++ r)) = (u ++ [64]) ++ (h ++ r) := by simp
   have ed : (u ++ 64 :: (h ++ r)).drop (u.length + 1) = h ++ r := by rw [e1, List.drop_left' (by simp)]
   have hg : guardH (u ++ 64 :: (h ++ r)) (u.length + 1) = true := by
    unfold guardH
    rw [Nat.add_sub_cancel, mark_at, List.take_left' rfl, hu]
    simp
   unfold hostsI
   rw [if_pos hg, mem_span]
   refine ⟨u.length + 1 + h.length, by omega, by rw [List.length_append, List.length_cons, List.length_append]; omega, ?_⟩
   have e : cut (u ++ 64 :: (h ++ r)) (u.length + 1) (u.length + 1 + h.length) = h := by unfold cut; rw [ed, Nat.add_sub_cancel_left, List.take_left' rfl]
   have e2 : (u ++ 64 :: (h ++ r)).drop (u.length + 1 + h.length) = r := by rw [← List.drop_drop, ed, List.drop_left' rfl]
   unfold hostsF
   rw [e, (portB_iff (by rw [List.length_append, List.length_cons, List.length_append]; omega)).2 (by rw [e2]; exact hr), hh]
   simp
theorem opn_iff {t : List UInt8} {k : Nat} (hk : k ≤ t.length) {c : UInt8} : (k == t.length || t[k]? == some c) = true ↔ opn [c] (t.drop k) := by
 rw [Bool.or_eq_true, beq_iff_eq, beq_iff_eq]
 unfold opn
 constructor
 ·rintro (h | h)
  ·left
   rw [h, List.drop_length]
  ·right
   obtain ⟨hlt, e⟩ := List.getElem?_eq_some_iff.1 h
   exact ⟨c, _, by rw [List.drop_eq_getElem_cons hlt, e], by simp⟩
 ·rintro (h | ⟨d, u, h, hd⟩)
  ·left
   have := congrArg List.length h
   rw [List.length_drop, List.length_nil] at this
   omega
  ·right
   have hlt : k < t.length := by
    have := congrArg List.length h
    rw [List.length_drop, List.length_cons] at this
    omega
   rw [List.drop_eq_getElem_cons hlt] at h
   injection h with h1 h2
   rw [List.mem_singleton] at hd
   rw [List.getElem?_eq_getElem hlt, h1, hd]
/-- What a rest behind a scheme may be. -/
def RestWay (rest : List UInt8) (pos : Bool) (h p : List UInt8) : Prop := namedL p [58, 64, 47] = true ∧
 ((([47, 47] : List UInt8).isPrefixOf rest = false ∧ (pos = true ∨ relL rest = true) ∧ h = [] ∧ p = rest) ∨ (∃ b, rest = 47 :: 47 :: (b ++ p) ∧ opn [47] p ∧ HostWay b h))
theorem mem_rest {t : List UInt8} {pos : Bool} {h p : List UInt8} : (h, p) ∈ restF t pos ↔ RestWay t pos h p := by
 unfold restF RestWay
 by_cases hp : ([47, 47] : List UInt8).isPrefixOf t = true
 ·rw [if_pos hp, mem_span]
  constructor
  ·rintro ⟨k, h1, h2, hx⟩
   have hlen : 2 ≤ t.length := (List.isPrefixOf_iff_prefix.1 hp).length_le
   unfold headsK at hx
   by_cases hc : ((k == t.length || t[k]? == some 47) && namedL (t.drop k) [58, 64, 47]) = true
   ·rw [if_pos hc, List.mem_map] at hx
    obtain ⟨h', hh, e⟩ := hx
    injection e with e1 e2
    subst e1
    rw [Bool.and_eq_true, e2] at hc
    refine ⟨hc.2, .inr ⟨cut t 2 k, ?_, ?_, mem_hosts.1 hh⟩⟩
    ·obtain ⟨u, hu⟩ := List.isPrefixOf_iff_prefix.1 hp
     have hd := drop_cut t h1
     rw [e2] at hd
     rw [← hd, ← hu]
     rfl
    ·rw [← e2]
     exact (opn_iff (by omega)).1 hc.1
   ·rw [if_neg hc] at hx
    exact absurd hx (by simp)
  ·rintro ⟨hn, h' | ⟨b, rfl, ho, hw⟩⟩
   ·rw [hp] at h'
    exact absurd h'.1 (by decide)
   ·have e2 : (47 :: 47 :: (b ++ p)).drop (2 + b.length) = p := by
     rw [← List.drop_drop]
     show (b ++ p).drop b.length = p
     rw [List.drop_left' rfl]
    have e1 : cut (47 :: 47 :: (b ++ p)) 2 (2 + b.length) = b := by
     unfold cut
     rw [Nat.add_sub_cancel_left]
     show (b ++ p).take b.length = b
     rw [List.take_left' rfl]
    refine ⟨2 + b.length, by omega, by simp only [List.length_cons, List.length_append]; omega, ?_⟩
    unfold headsK
    rw [(opn_iff (by simp only [List.length_cons, List.length_append]; omega)).2 (by rw [e2]; exact ho), e2, hn, if_pos (by rfl), e1, List.mem_map]
    exact ⟨h, mem_hosts.2 hw, rfl⟩
 ·rw [if_neg hp]
  constructor
  ·intro hx
   by_cases hc : (namedL t [58, 64, 47] && (pos || relL t)) = true
   ·rw [if_pos hc, List.mem_singleton] at hx
    injection hx with e1 e2
    rw [Bool.and_eq_true, Bool.or_eq_true] at hc
    rw [e2]
    exact ⟨hc.1, .inl ⟨Bool.eq_false_iff.2 hp, hc.2, e1, rfl⟩⟩
   ·rw [if_neg hc] at hx
    exact absurd hx (by simp)
  ·rintro ⟨hn, ⟨_, h2, rfl, rfl⟩ | ⟨b, rfl, _, _⟩⟩
   ·rw [if_pos (by rw [hn, Bool.true_and, Bool.or_eq_true]; exact h2), List.mem_singleton]
   ·exact absurd (by simp [List.isPrefixOf]) hp
theorem mem_heads {s h p : List UInt8} : (h, p) ∈ headsL s ↔ HeadWay s h p := by
 unfold headsL
 rw [mem_span]
 constructor
 ·rintro ⟨i, _, hi, hx⟩
  unfold headsI at hx
  by_cases hg : guardA s i = true
  ·rw [if_pos hg, mem_rest] at hx
   obtain ⟨hn, hx⟩ := hx
   unfold guardA at hg
   rw [Bool.or_eq_true, Bool.and_eq_true, beq_iff_eq, beq_iff_eq] at hg
   by_cases h0 : i = 0
   ·refine ⟨[], s, .inl ⟨rfl, rfl⟩, hn, ?_⟩
    rw [h0, List.drop_zero] at hx
    rcases hx with ⟨h1, h2, h3, h4⟩ | hx
    ·refine .inl ⟨h1, .inr (h2.resolve_left (by decide)), h3, h4⟩
    ·exact .inr hx
   ·rcases hg with h00 | ⟨h3, h4⟩
    ·exact absurd h00 h0
    ·refine ⟨s.take (i - 1), s.drop i, .inr ⟨h4, take_mark (by omega) h3⟩, hn, ?_⟩
     rcases hx with ⟨h1, _, h3, h4'⟩ | hx
     ·exact .inl ⟨h1, .inl (scheme_no1 h4).1, h3, h4'⟩
     ·exact .inr hx
  ·rw [if_neg hg] at hx
   exact absurd hx (by simp)
 ·rintro ⟨a, rest, ha, hn, hx⟩
  rcases ha with ⟨rfl, rfl⟩ | ⟨hok, rfl⟩
  ·refine ⟨0, Nat.le_refl _, by omega, ?_⟩
   unfold headsI
   rw [if_pos (by rfl), mem_rest, List.drop_zero]
   refine ⟨hn, ?_⟩
   rcases hx with ⟨h1, h2, h3, h4⟩ | hx
   ·exact .inl ⟨h1, .inr (h2.resolve_left (fun h => h rfl)), h3, h4⟩
   ·exact .inr hx
  ·refine ⟨a.length + 1, by omega, by rw [List.length_append, List.length_cons]; omega, ?_⟩
   have e1 : (a ++ 58 :: rest) = (a ++ [58]) ++ rest := by simp
   have ed : (a ++ 58 :: rest).drop (a.length + 1) = rest := by rw [e1, List.drop_left' (by simp)]
   have hg : guardA (a ++ 58 :: rest) (a.length + 1) = true := by
    unfold guardA
    rw [Nat.add_sub_cancel, mark_at, List.take_left' rfl, hok]
    simp
   unfold headsI
   rw [if_pos hg, mem_rest, ed]
   refine ⟨hn, ?_⟩
   rcases hx with ⟨h1, h2, h3, h4⟩ | hx
   ·exact .inl ⟨h1, .inl (decide_eq_true (by omega)), h3, h4⟩
   ·exact .inr hx
theorem mem_ways {w h p : List UInt8} : (h, p) ∈ waysL w ↔ Rf.Way w h p := by
 unfold waysL
 rw [mem_downs]
 constructor
 ·rintro ⟨e, he, hx⟩
  unfold waysE at hx
  by_cases hc : (e == w.length || (w[e]? == some 35 && namedL (w.drop (e + 1)) [58, 64, 47, 63])) = true
  ·rw [if_pos hc, mem_downs] at hx
   obtain ⟨q, hq, hx⟩ := hx
   unfold waysQ at hx
   by_cases hd : (q == e || (w[q]? == some 63 && namedL (cut w (q + 1) e) [58, 64, 47, 63])) = true
   ·rw [if_pos hd, mem_heads] at hx
    rw [Bool.or_eq_true, Bool.and_eq_true, beq_iff_eq, beq_iff_eq] at hc hd
    have hwq : w = w.take q ++ w.drop q := (List.take_append_drop _ _).symm
    have hQ : ∃ Q x, Rf.Mark 63 Q x ∧ w.drop q = Q ++ w.drop e := by
     rcases hd with hd | ⟨h1, h2⟩
     ·exact ⟨[], [], .inl ⟨rfl, rfl⟩, by rw [hd]; rfl⟩
     ·obtain ⟨hlt, e1⟩ := List.getElem?_eq_some_iff.1 h1
      by_cases hqe : q = e
      ·exact ⟨[], [], .inl ⟨rfl, rfl⟩, by rw [hqe]; rfl⟩
      ·refine ⟨63 :: cut w (q + 1) e, _, .inr ⟨rfl, h2⟩, ?_⟩
       rw [List.drop_eq_getElem_cons hlt, e1, drop_cut w (show q + 1 ≤ e by omega)]
       rfl
    have hF : ∃ F y, Rf.Mark 35 F y ∧ w.drop e = F := by
     rcases hc with hc | ⟨h1, h2⟩
     ·exact ⟨[], [], .inl ⟨rfl, rfl⟩, by rw [hc, List.drop_length]⟩
     ·obtain ⟨hlt, e1⟩ := List.getElem?_eq_some_iff.1 h1
      exact ⟨35 :: w.drop (e + 1), _, .inr ⟨rfl, h2⟩, by rw [List.drop_eq_getElem_cons hlt, e1]⟩
    obtain ⟨Q, x, m1, d1⟩ := hQ
    obtain ⟨F, y, m2, d2⟩ := hF
    refine ⟨w.take q, Q, x, F, y, hx, m1, m2, ?_⟩
    rw [List.append_assoc, ← d2, ← d1]
    exact hwq
   ·rw [if_neg hd] at hx
    exact absurd hx (by simp)
  ·rw [if_neg hc] at hx
   exact absurd hx (by simp)
 ·rintro ⟨s, q, x, f, y, hh, hq, hf, rfl⟩
  have hl : (s ++ q ++ f).length = s.length + q.length + f.length := by rw [List.length_append, List.length_append]
  refine ⟨s.length + q.length, by omega, ?_⟩
  have e1 : (s ++ q).length = s.length + q.length := List.length_append
  have hc : ((s.length + q.length) == (s ++ q ++ f).length || ((s ++ q ++ f)[s.length + q.length]? == some 35 && namedL ((s ++ q ++ f).drop (s.length + q.length + 1)) [58, 64, 47, 63])) = true := by
   rcases hf with ⟨rfl, _⟩ | ⟨rfl, hn⟩
   ·rw [hl]
    simp
   ·have e2 : (s ++ q ++ 35 :: y)[s.length + q.length]? = some 35 := by rw [← e1]; exact mark_at _ _ _
    have e3 : (s ++ q ++ 35 :: y).drop (s.length + q.length + 1) = y := by
     have : (s ++ q ++ 35 :: y) = (s ++ q ++ [35]) ++ y := by simp
     rw [this, List.drop_left' (by simp; omega)]
    rw [e2, e3, hn]
    simp
  unfold waysE
  rw [if_pos hc, mem_downs]
  refine ⟨s.length, by omega, ?_⟩
  have ht : (s ++ q ++ f).take s.length = s := by rw [List.append_assoc, List.take_left' rfl]
  have hd : (s.length == s.length + q.length || ((s ++ q ++ f)[s.length]? == some 63 && namedL (cut (s ++ q ++ f) (s.length + 1) (s.length + q.length)) [58, 64, 47, 63])) = true := by
   rcases hq with ⟨rfl, _⟩ | ⟨rfl, hn⟩
   ·simp
   ·have e2 : (s ++ 63 :: x ++ f)[s.length]? = some 63 := by rw [List.append_assoc]; exact mark_at _ _ _
    have e3 : cut (s ++ 63 :: x ++ f) (s.length + 1) (s.length + (63 :: x).length) = x := by
     have : (s ++ 63 :: x ++ f) = (s ++ [63]) ++ (x ++ f) := by simp
     unfold cut
     rw [this, List.drop_left' (by simp), List.take_left' (by simp only [List.length_cons]; omega)]
    rw [e2, e3, hn]
    simp
  unfold waysQ
  rw [if_pos hd, ht, mem_heads]
  exact hh
/-! the law -/
theorem told_not2 {p : Parts} (h : (tellL p).1 = false) : tellL p = (false, [], []) := by
 unfold tellL at *
 split
 ·rename_i hc
  rw [if_pos hc] at h
  exact absurd (show true = false from h) (by decide)
 ·rfl
theorem tells_l0 (w : List UInt8) (ok : Bool) (h p : List UInt8) (l : List HP) (hl : l.length ≤ 10000000000) (hall : ∀ x ∈ l, ok = true ∧ x = (h, p)) (hok : ok = decide (l.length > 0)) (hno : ok = false → h = [] ∧ p = []) : ∀ (d j : Nat), j + d = l.length →
  Comes (fun k => w19_RfcTells.l0 k (l.map toS) (j : Int) ok (S h) (S p)) true
 | 0, j, hj => by
  refine ⟨200, fun k hk => ?_⟩
  obtain ⟨k, rfl⟩ : ∃ m, k = m + 1 := ⟨k - 1, by omega⟩
  show w19_RfcTells.l0 (k + 1) (l.map toS) (j : Int) ok (S h) (S p) = some true
  have hd : decide (((l.map toS).length : Int) > 0) = ok := by rw [hok, List.length_map]; exact decide_eq_decide.2 (by omega)
  rw [w19_RfcTells.l0, if_neg (by rw [List.length_map]; omega), hd, if_pos (by simp)]
  cases ok with
  | true =>
   rw [if_pos rfl]
   exact Option.bind_eq_some_iff.2 ⟨_, awake19t k (by omega), rfl⟩
  | false =>
   obtain ⟨rfl, rfl⟩ := hno rfl
   rw [if_neg (by decide), if_pos (by simp)]
   exact Option.bind_eq_some_iff.2 ⟨_, awake19t k (by omega), rfl⟩
 | d + 1, j, hj => by
  have hlt : j < l.length := by omega
  have ih := tells_l0 w ok h p l hl hall hok hno d (j + 1) (by omega)
  obtain ⟨h1, h2⟩ := hall l[j] (List.getElem_mem hlt)
  have hr : rd_T24 (l.map toS) (j : Int) = toS (h, p) := by
   unfold rd_T24
   rw [Int.toNat_natCast, List.getD_eq_getElem?_getD, List.getElem?_map, List.getElem?_eq_getElem hlt, h2]
   rfl
  refine Comes.step ih 0 fun k _ => ?_
  rw [w19_RfcTells.l0, if_pos (by rw [List.length_map]; omega), if_pos (by omega), hr, h1, wrap_succ j (by omega), if_neg (by simp [toS])]
theorem tells_j0 (w : List UInt8) (hw : w.length ≤ 40) : Comes (fun k => w19_RfcTells.j0 k (S w)) true := by
 have hpar : Comes (fun k => rfc_Parse.f k (S w)) (toB (tellL (splitL w))) := ⟨300, fun k hk => Parse_ev w (by unfold Sm; omega) k (by omega)⟩
 have hlen : (waysL w).length ≤ 10000000000 := by
  unfold waysL
  have hE : ∀ e, e ≤ w.length → (waysE w e).length ≤ 118000000 := waysE_len w hw
  have key : ∀ d, d ≤ w.length + 1 → (downs (waysE w) d).length ≤ d * 118000000 := by
   intro d
   induction d with
   | zero => intro _; simp [downs]
   | succ d ih =>
    intro hd
    have h1 := ih (by omega)
    have h2 := hE d (by omega)
    rw [downs, List.length_append, Nat.succ_mul]
    omega
  have h1 := key (w.length + 1) (Nat.le_refl _)
  exact Nat.le_trans h1 (Nat.le_trans (Nat.mul_le_mul_right _ (show w.length + 1 ≤ 41 by omega)) (by decide))
 have hl0 : Comes (fun k => w19_RfcTells.l0 k ((waysL w).map toS) 0 (tellL (splitL w)).1 (S (tellL (splitL w)).2.1) (S (tellL (splitL w)).2.2)) true := by
  refine tells_l0 w _ _ _ (waysL w) hlen ?_ ?_ ?_ (waysL w).length 0 (by omega)
  ·rintro ⟨h, p⟩ hx
   rw [Way_tell (mem_ways.1 hx)]
   exact ⟨rfl, rfl⟩
  ·by_cases ht : (tellL (splitL w)).1 = true
   ·have : (( (tellL (splitL w)).2.1, (tellL (splitL w)).2.2) : HP) ∈ waysL w := mem_ways.2 (tell_Way (by rw [← ht]))
    rw [ht, decide_eq_true (List.length_pos_of_mem this)]
   ·have : waysL w = [] := by
     cases hq : waysL w with
     | nil => rfl
     | cons x t =>
      have hx : x ∈ waysL w := by rw [hq]; exact List.mem_cons_self ..
      have := Way_tell (mem_ways.1 (show (x.1, x.2) ∈ waysL w from hx))
      rw [this] at ht
      exact absurd rfl ht
    rw [this, Bool.eq_false_iff.2 ht]
    rfl
  ·intro h
   rw [told_not2 h]
   exact ⟨rfl, rfl⟩
 have h2 := Comes.bind (f := fun k t => w19_RfcTells.l0 k t 0 (tellL (splitL w)).1 (S (tellL (splitL w)).2.1) (S (tellL (splitL w)).2.2)) (ways_ev w hw) hl0
 have h3 := Comes.bind (f := fun k b => (r19_Ways.f k (S w)).bind fun t => w19_RfcTells.l0 k t 0 b.1 b.2.1 b.2.2) hpar h2
 refine Comes.step h3 0 fun k _ => ?_
 rw [w19_RfcTells.j0]
theorem RfcTells : w19_RfcTells.Pure := by
 intro a0 h0
 obtain ⟨w, rfl⟩ := S_surj a0
 have key : ∀ u : List UInt8, u.length ≤ 40 → ∃ k, w19_RfcTells.j0 k (S u) = some true := fun u hu => by
  obtain ⟨K, hK⟩ := tells_j0 u hu
  exact ⟨K, hK K (Nat.le_refl _)⟩
 unfold w19_RfcTells.f
 by_cases h : w.length > 40
 ·obtain ⟨k, hk⟩ := key (w.take 40) (by rw [List.length_take]; omega)
  refine ⟨k, ?_⟩
  rw [if_pos (by rw [S_size]; omega), if_pos (by omega), if_pos (by rw [S_size]; omega), S_upto]
  exact hk
 ·obtain ⟨k, hk⟩ := key w (by omega)
  refine ⟨k, ?_⟩
  rw [if_neg (by rw [S_size]; omega)]
  exact hk
end Go.Proofs.Ytiihgddpejmehaa.Pure
-- shrunk

/- WhatwgTells answers true for every text: the text, the scheme, what is told, and which are special, are the document's (no conditions but the row's size bounds). -/
import Derived.Test.YtiihgddpejmehaaGreatDoorWh4
import Derived.Test.YtiihgddpejmehaaGreatDoorZA14
import Derived.Test.YtiihgddpejmehaaGreatDoorZA8
import Derived.Test.YtiihgddpejmehaaGreatDoorZA9
namespace Go.Proofs.YtiihgddpejmehaaGreatDoor.Pure
open Go.RowKit Go.Proofs.YtiihgddpejmehaaGreatDoor.ZA Go.Proofs.YtiihgddpejmehaaGreatDoorW.PrintWords Go.Proofs.YtiihgddpejmehaaGreatDoorW.PrintLast Go.Proofs.YtiihgddpejmehaaGreatDoor.L Go.Proofs.YtiihgddpejmehaaGreatDoor.Str Go.Proofs.YtiihgddpejmehaaGreatDoor.Wh

theorem awake18t (k : Nat) (hk : 100 ≤ k) : shibbolethlaw18_awake.f k = some true := at_rounds (g := fun k => shibbolethlaw18_awake.f k) shibbolethlaw18_awake.mono hk (by kernel_rfl)
theorem short18t (l : List UInt8) : shibbolethlaw18_Short.f (S l) = some (S (l.take 3000)) := by
  unfold shibbolethlaw18_Short.f
  by_cases h : l.length > 3000
  · rw [if_pos (by rw [S_size]; omega), if_pos (by decide), if_pos (by rw [S_size]; omega)]
    rw [S_upto]
  · rw [if_neg (by rw [S_size]; omega), List.take_of_length_le (by omega)]
theorem tells_j0 (w : List UInt8) (hw : w.length ≤ 3000) (k : Nat) (hk : 20000 < k) : shibbolethlaw18_WhatwgTells.j0 (k + 1) (S w) false = some true := by
  rw [shibbolethlaw18_WhatwgTells.j0, if_neg (by decide)]
  refine Option.bind_eq_some_iff.2 ⟨_, Parse_ev w (by omega) k (by omega), Option.bind_eq_some_iff.2 ⟨_, rParse_ev w (by omega) k (by omega), ?_⟩⟩
  rw [if_pos (by unfold out; simp)]
  refine Option.bind_eq_some_iff.2 ⟨_, Text_eq w (by omega), Option.bind_eq_some_iff.2 ⟨_, rText_ev w (by unfold Sm; omega) k (by omega), ?_⟩⟩
  rw [if_pos rfl]
  refine Option.bind_eq_some_iff.2 ⟨_, Special_eq w (by omega), Option.bind_eq_some_iff.2 ⟨_, rSpecial_ev w (by unfold Sm; omega) k (by omega), ?_⟩⟩
  rw [if_pos (beq_self_eq_true _)]
  exact Option.bind_eq_some_iff.2 ⟨_, awake18t k (by omega), rfl⟩
theorem WhatwgTells : shibbolethlaw18_WhatwgTells.Pure := by
  intro a0 _
  obtain ⟨l, rfl⟩ := S_surj a0
  refine ⟨30001, ?_⟩
  unfold shibbolethlaw18_WhatwgTells.f
  refine Option.bind_eq_some_iff.2 ⟨_, short18t l, ?_⟩
  have hw : (l.take 3000).length ≤ 3000 := by rw [List.length_take]; omega
  generalize l.take 3000 = w at *
  have hs : Sm w := by unfold Sm; omega
  refine Option.bind_eq_some_iff.2 ⟨_, Scheme_ev w hs 30001 (by omega), Option.bind_eq_some_iff.2 ⟨_, rScheme_ev w hs 30001 (by omega), ?_⟩⟩
  have hj := tells_j0 w hw 30000 (by omega)
  unfold schemeN
  by_cases hok : (schemeL w).2.2 = true
  · obtain ⟨r, hr, hr2⟩ := scheme_cut w hok
    rw [if_pos hok, hok, hr2]
    generalize (schemeL w).1 = A at *
    have hlen := congrArg List.length hr
    rw [List.length_append, List.length_cons] at hlen
    have hdr : (S w).extract (A.length + 1) (S w).size = S r := by
      rw [S_from]
      congr 1
      rw [hr, List.drop_append]
      simp
    have htk : (S w).extract 0 A.length = S A := by
      rw [S_upto]
      congr 1
      rw [hr, List.take_left']
      rfl
    have hge : decide ((A.length : Int) ≥ 0) = true := decide_eq_true (by omega)
    have hws : wrap64 ((A.length : Int) + 1) = ((A.length + 1 : Nat) : Int) := wrap_succ A.length (by omega)
    rw [hge, hws, if_neg (by decide), if_pos rfl, if_pos (by omega), if_pos (by rw [S_size]; omega), Int.toNat_natCast, Int.toNat_natCast, htk, if_pos rfl, if_pos (by omega), if_pos (by rw [S_size]; omega), hdr, if_pos rfl]
    exact hj
  · have h1 : (schemeL w) = ([], [], false) := by
      unfold schemeL at hok ⊢
      split at hok
      · exact absurd rfl hok
      · rename_i hc; rw [if_neg hc]
    have h2 : (S ([] : List UInt8) ++ S []).toList = [] := by rw [S_append, S_toList]; rfl
    rw [if_neg hok, h1, if_neg (show ¬ (false != decide ((-1 : Int) ≥ 0)) = true by decide), if_neg (show ¬ false = true by decide), if_pos (show (S ([] : List UInt8)).size + (S ([] : List UInt8)).size ≤ 9223372036854775807 by decide)]
    show shibbolethlaw18_WhatwgTells.j0 30001 (S w) ((S ([] : List UInt8) ++ S []).toList != ([] : List UInt8)) = some true
    rw [h2]
    exact hj
end Go.Proofs.YtiihgddpejmehaaGreatDoor.Pure

/- My own print (tools/mp.py) of functions of this seat: each function as a plain Lean function, and the proof that the code does what that function says. -/
import Derived.ChangeKeysEq
import Derived.Test.YtiihgddpejmehaaZA0
namespace Go.Proofs.Ytiihgddpejmehaa.ZA
open Go.RowKit Go.Proofs.YtiihgddpejmehaaW.PrintWords Go.Proofs.YtiihgddpejmehaaW.PrintLast Go.Proofs.YtiihgddpejmehaaW.PrintMore
attribute [local go_sem] max2_int min2_int max_two min_two max_three min_three max_four min_four   -- for this text's walks alone
set_option linter.unusedVariables false
set_option linter.unusedSimpArgs false

theorem eqi_cons {P : Program} {w : World} {d n j : Nat} {e : TypeId} {xs ys : Array Value} {is : List Nat} {a b : Value} {r s : Bool} (ha : (part e xs (j * n)).run P w = .ok a w) (hb : (part e ys (j * n)).run P w = .ok b w) (he : (Op.equalIn d e a b).run P w = .ok r w)
    (hs : (Op.eqItems d e n xs ys is).run P w = .ok s w) : (Op.eqItems d e n xs ys (j :: is)).run P w = .ok (r && s) w := by
  simp only [Op.eqItems, Sem.run_bind, ha, hb, he, Result.andThen_ok]
  cases r
  · simp
  · simpa using hs
theorem eqA28 (d : Nat) (w : World) (x0 y0 : Bool) (x1 y1 : Bool) (x2 y2 : Bool) (x3 y3 : Bool) :
    (Op.equalIn (d + 2) 28 (.agg #[.bool x0, .bool x1, .bool x2, .bool x3]) (.agg #[.bool y0, .bool y1, .bool y2, .bool y3])).run Try.prog w = .ok (x0 == y0 && (x1 == y1 && (x2 == y2 && (x3 == y3)))) w := by
  obtain ⟨i, hi⟩ := Option.isSome_iff_exists.1 (show (Try.prog.info? 4).isSome = true by kernel_rfl)
  have hc : Try.prog.cellsOf 4 = 1 := by kernel_rfl
  rw [run_equalIn_array w (d + 1) _ _ Try.underlying28 hi, hc]
  have h := eqi_cons (P := Try.prog) (w := w) (d := d + 1) (n := 1) (j := 3) (e := 4) (r := x3 == y3) (xs := #[.bool x0, .bool x1, .bool x2, .bool x3]) (ys := #[.bool y0, .bool y1, .bool y2, .bool y3]) (by go_simp; rfl) (by go_simp; rfl) (by go_simp) (show (Op.eqItems (d + 1) 4 1 _ _ []).run Try.prog w = .ok true w by simp [Op.eqItems])
  rw [Bool.and_true] at h
  show (Op.eqItems (d + 1) 4 1 _ _ [0, 1, 2, 3]).run Try.prog w = _
  exact eqi_cons (j := 0) (by go_simp; rfl) (by go_simp; rfl) (by go_simp) (eqi_cons (j := 1) (by go_simp; rfl) (by go_simp; rfl) (by go_simp) (eqi_cons (j := 2) (by go_simp; rfl) (by go_simp; rfl) (by go_simp) h))
end Go.Proofs.Ytiihgddpejmehaa.ZA

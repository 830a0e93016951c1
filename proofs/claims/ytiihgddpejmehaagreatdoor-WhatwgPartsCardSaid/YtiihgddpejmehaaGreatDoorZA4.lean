/- My own print (tools/mp.py) of functions of this seat: each function as a plain Lean function, and the proof that the code does what that function says. -/
import Derived.Test.YtiihgddpejmehaaGreatDoorZA0
import Derived.Test.YtiihgddpejmehaaGreatDoorZA3
namespace Go.Proofs.YtiihgddpejmehaaGreatDoor.ZA
open Go.RowKit Go.Proofs.YtiihgddpejmehaaGreatDoorW.PrintWords Go.Proofs.YtiihgddpejmehaaGreatDoorW.PrintLast Go.Proofs.YtiihgddpejmehaaGreatDoorW.PrintMore
attribute [local go_sem] max2_int min2_int max_two min_two max_three min_three max_four min_four   -- for this text's walks alone
set_option linter.unusedVariables false
set_option linter.unusedSimpArgs false

/-! ### whatwg_Text: function 20 -/
-- words: functions 78
/-! sync.Once's slow road, and the lock (turned from the guide's worked example of a lazy value) -/
theorem whatwg_Text.disable (w : World) : (callFunc 171 #[]).run Tryz.prog w = .ok (.value (.tuple #[])) w := run_call_mark0 Tryz.func171 (by kernel_rfl) (by kernel_rfl) (by kernel_rfl) .disable (by kernel_rfl) w
theorem whatwg_Text.enable (w : World) : (callFunc 173 #[]).run Tryz.prog w = .ok (.value (.tuple #[])) w := run_call_mark0 Tryz.func173 (by kernel_rfl) (by kernel_rfl) (by kernel_rfl) .enable (by kernel_rfl) w
theorem whatwg_Text.acquire (a : Addr) (w : World) : (callFunc 174 #[.pointer (some a)]).run Tryz.prog w = .ok (.value (.tuple #[])) w := run_call_marked Tryz.func174 (by kernel_rfl) (by kernel_rfl) (by kernel_rfl) .acquire (by kernel_rfl) a w
theorem whatwg_Text.releaseMerge (a : Addr) (w : World) : (callFunc 176 #[.pointer (some a)]).run Tryz.prog w = .ok (.value (.tuple #[])) w := run_call_marked Tryz.func176 (by kernel_rfl) (by kernel_rfl) (by kernel_rfl) .releaseMerge (by kernel_rfl) a w
set_option maxRecDepth 100000 in
theorem whatwg_Text.store_deferred (a : Addr) (x : Value) (u : FrameMode) (w : World) (hc : w.cell? a = some x) (hz : w.frozen? a = false) :
    CallsD Tryz.prog 156 #[.pointer (some a), .bool true] u w fun e u' w' => u' = u ∧ (e = .returned (.tuple #[]) ∧ w' = w.drew.setCell a (.int .u32 1)) := by
  have hc' : w.drew.cell? a = some x := by go_simp
  have hz' : w.drew.frozen? a = false := by go_simp
  have hst := run_call_store (P := Tryz.prog) Tryz.func165 (by kernel_rfl) (by kernel_rfl) (by kernel_rfl) (by kernel_rfl) (k := .u32) (y := 1) hc' hz'
  go_enter_d Tryz.func156, Tryz.ntmps156
  go_wp2
  go_region_calls
  all_goals (go_end0; exact ⟨rfl, rfl⟩)
set_option maxRecDepth 100000 in
theorem whatwg_Text.unlock_deferred (a : Addr) (u : FrameMode) (w : World) (hc : w.cell? a = some (.int .i32 1)) (hz : w.frozen? a = false) :
    CallsD Tryz.prog 155 #[.pointer (some a)] u w fun e u' w' => u' = u ∧ (e = .returned (.tuple #[]) ∧ w' = w.setCell a (.int .i32 0)) := by
  have hd := whatwg_Text.disable
  have he := whatwg_Text.enable
  have hr := whatwg_Text.releaseMerge
  have hadd := run_call_add (P := Tryz.prog) Tryz.func177 (by kernel_rfl) (by kernel_rfl) (by kernel_rfl) .i32 (by kernel_rfl) (y := -1) (s := 0) hc hz (by simp [go_sem]; rfl)
  have hcv := run_convert_to_unsafe (P := Tryz.prog) (src := 210) (dst := 166) Tryz.underlying210 Tryz.underlying166 (by kernel_rfl) hc
  go_enter_d Tryz.func155, Tryz.ntmps155
  go_wp2
  go_end0
  go_wp2
  go_end0
  exact ⟨rfl, rfl⟩
set_option maxRecDepth 100000 in
theorem whatwg_Text.lock_free (a : Addr) (w : World) (hc : w.cell? a = some (.int .i32 0)) (hz : w.frozen? a = false) :
    Calls Tryz.prog 154 #[.pointer (some a)] w fun e w' => e = .returned (.tuple #[]) ∧ w' = w.setCell a (.int .i32 1) := by
  have hd := whatwg_Text.disable
  have he := whatwg_Text.enable
  have ha := whatwg_Text.acquire
  have hcas := run_call_cas_hit (P := Tryz.prog) Tryz.func172 (by kernel_rfl) (by kernel_rfl) (by kernel_rfl) .i32 (by kernel_rfl) (y := 1) hc hz
  have hc' : (w.setCell a (.int .i32 1)).cell? a = some (.int .i32 1) := World.cell?_setCell_same w a _ hc
  have hcv := run_convert_to_unsafe (P := Tryz.prog) (src := 210) (dst := 166) Tryz.underlying210 Tryz.underlying166 (by kernel_rfl) hc'
  go_enter Tryz.func154, Tryz.ntmps154
  go_wp2
  first | go_end0 | (simp only [Exit.inBlock, Exit.then]; refine bodyPost_ret (results_none rfl _ _ _) rfl ?_) | refine bodyPost_ret (results_none rfl _ _ _) rfl ?_
  go_wp2
  go_end0
  exact ⟨rfl, rfl⟩
/-! the replacer's table -/
def whatwg_Text.tri (c : Nat) : Bool := c == 9 || c == 10 || c == 13
abbrev whatwg_Text.nl : Value := .slice none 0 0
def whatwg_Text.tb (a b c s : Value) : Array Value := ((((Array.replicate 257 whatwg_Text.nl).setIfInBounds 256 s).setIfInBounds 13 c).setIfInBounds 10 b).setIfInBounds 9 a
theorem whatwg_Text.tb_size (a b c s : Value) : (whatwg_Text.tb a b c s).size = 257 := by simp [whatwg_Text.tb]
def whatwg_Text.tv (a b c : Value) (j : Nat) : Value := if j = 9 then a else if j = 10 then b else if j = 13 then c else whatwg_Text.nl
theorem whatwg_Text.tb_at (a b c s : Value) (j : Nat) (h : j < 256) : (whatwg_Text.tb a b c s)[j]? = some (whatwg_Text.tv a b c j) := by
  unfold whatwg_Text.tb whatwg_Text.tv
  rw [Array.getElem?_setIfInBounds, Array.getElem?_setIfInBounds, Array.getElem?_setIfInBounds, Array.getElem?_setIfInBounds, Array.getElem?_replicate]
  simp only [Array.size_setIfInBounds, Array.size_replicate]
  by_cases h9 : j = 9
  · subst h9; rfl
  · by_cases h10 : j = 10
    · subst h10; rfl
    · by_cases h13 : j = 13
      · subst h13; rfl
      · have h1 : ¬ 9 = j := fun e => h9 e.symm
        have h2 : ¬ 10 = j := fun e => h10 e.symm
        have h3 : ¬ 13 = j := fun e => h13 e.symm
        have h4 : ¬ 256 = j := by omega
        have h5 : j < 257 := by omega
        rw [if_neg h1, if_neg h2, if_neg h3, if_neg h4, if_pos h5, if_neg h9, if_neg h10, if_neg h13]
theorem whatwg_Text.tb_last (a b c s : Value) : (whatwg_Text.tb a b c s)[256]? = some s := by
  unfold whatwg_Text.tb
  rw [Array.getElem?_setIfInBounds, Array.getElem?_setIfInBounds, Array.getElem?_setIfInBounds, Array.getElem?_setIfInBounds]
  simp
theorem whatwg_Text.tb_9 (a b c s a' : Value) : (whatwg_Text.tb a b c s).setIfInBounds 9 a' = whatwg_Text.tb a' b c s := by
  unfold whatwg_Text.tb
  rw [Array.setIfInBounds_setIfInBounds]
theorem whatwg_Text.tb_10 (a b c s b' : Value) : (whatwg_Text.tb a b c s).setIfInBounds 10 b' = whatwg_Text.tb a b' c s := by
  unfold whatwg_Text.tb
  rw [Array.setIfInBounds_comm _ _ (by decide), Array.setIfInBounds_setIfInBounds]
theorem whatwg_Text.tb_13 (a b c s c' : Value) : (whatwg_Text.tb a b c s).setIfInBounds 13 c' = whatwg_Text.tb a b c' s := by
  unfold whatwg_Text.tb
  rw [Array.setIfInBounds_comm _ _ (by decide), Array.setIfInBounds_comm _ _ (show 10 ≠ 13 by decide), Array.setIfInBounds_setIfInBounds]
theorem whatwg_Text.tb_256 (a b c s s' : Value) : (whatwg_Text.tb a b c s).setIfInBounds 256 s' = whatwg_Text.tb a b c s' := by
  unfold whatwg_Text.tb
  rw [Array.setIfInBounds_comm _ _ (by decide), Array.setIfInBounds_comm _ _ (show 10 ≠ 256 by decide), Array.setIfInBounds_comm _ _ (show 13 ≠ 256 by decide), Array.setIfInBounds_setIfInBounds]
theorem whatwg_Text.tb_one (a b c s : Value) (ha : a.oneCell' = true) (hb : b.oneCell' = true) (hc : c.oneCell' = true) (hs : s.oneCell' = true) : (whatwg_Text.tb a b c s).all (·.oneCell') = true := by
  rw [Array.all_eq_true]
  intro i hi
  have h := Array.getElem?_eq_getElem hi
  rw [whatwg_Text.tb_size] at hi
  by_cases h2 : i < 256
  · rw [whatwg_Text.tb_at a b c s i h2] at h
    rw [← Option.some.inj h]
    unfold whatwg_Text.tv
    repeat' split
    all_goals first | assumption | rfl
  · obtain rfl : i = 256 := by omega
    rw [whatwg_Text.tb_last] at h
    rw [← Option.some.inj h]
    exact hs
theorem whatwg_Text.made3 (X : World) : (Instr.makeSlice 37 (.int .i64 0) (.int .i64 3)).run Tryz.prog X = .ok (.slice (some ⟨X.heap.size, 0, none⟩) 0 3) (X.alloc (.cells #[.string ⟨#[]⟩, .string ⟨#[]⟩, .string ⟨#[]⟩] 9)) := by
  have h : (Tryz.prog.info? 9).map (fun i => (i.zero, i.size, i.bytes)) = some (some (.string ⟨#[]⟩), 1, 16) := by kernel_rfl
  obtain ⟨i, hi, e⟩ := Option.map_eq_some_iff.1 h
  simp only [Prod.mk.injEq] at e
  have := run_makeSlice (P := Tryz.prog) X 37 9 i (.string ⟨#[]⟩) Tryz.underlying37 hi e.1 .i64 .i64 0 3 (by omega) (by omega) (by rw [e.2.1]; decide) (by rw [e.2.2]; decide) (by decide)
  rw [this, e.2.1]
  have e3 : madeCells (Value.string ⟨#[]⟩).cells (Int.toNat 3 * 1) = #[.string ⟨#[]⟩, .string ⟨#[]⟩, .string ⟨#[]⟩] := by kernel_rfl
  rw [e3]
  rfl
theorem whatwg_Text.zero190 : Tryz.zeroCells190 = Array.replicate 257 whatwg_Text.nl := by kernel_rfl
theorem whatwg_Text.stored190 (W : World) (o : Obj) (T : Nat) : (storeCells ⟨W.heap.size + 1, 0, none⟩ (Tryz.zeroCells190.toList.set 256 (.slice (some ⟨T, 0, none⟩) 0 3)) 0).run Tryz.prog ((W.alloc o).alloc (.cells Tryz.zeroCells190 190)) = .ok () ((W.alloc o).alloc (.cells (whatwg_Text.tb whatwg_Text.nl whatwg_Text.nl whatwg_Text.nl (.slice (some ⟨T, 0, none⟩) 0 3)) 190)) := by
  have h := run_storeCells_new (P := Tryz.prog) (W.alloc o) 190 Tryz.zeroCells190 (Tryz.zeroCells190.setIfInBounds 256 (.slice (some ⟨T, 0, none⟩) 0 3)) (by kernel_rfl) (by kernel_rfl) (by kernel_rfl)
  have hs : (W.alloc o).heap.size = W.heap.size + 1 := by simp
  rw [hs, Array.toList_setIfInBounds] at h
  have e : Tryz.zeroCells190.setIfInBounds 256 (.slice (some ⟨T, 0, none⟩) 0 3) = whatwg_Text.tb whatwg_Text.nl whatwg_Text.nl whatwg_Text.nl (.slice (some ⟨T, 0, none⟩) 0 3) := by kernel_rfl
  rw [h, e]
theorem whatwg_Text.conv1 (X : World) (n : Int) (c : UInt8) (h : UInt8.ofNat n.toNat = c) : (convert 44 9 (.slice (some ⟨X.heap.size, 0, none⟩) 1 1)).run Tryz.prog (X.alloc (.cells #[.int .u8 n] 5)) = .ok (.string ⟨#[c]⟩) (X.alloc (.cells #[.int .u8 n] 5)) := by
  have hx := run_convert_bytes_arg (P := Tryz.prog) (X.alloc (.cells #[.int .u8 n] 5)) 44 5 Tryz.underlying44 Tryz.underlying5 X.heap.size 0 1 1 [n] rfl (fun i hi => by
    obtain rfl : i = 0 := by omega
    exact (blk_cell (blk_new X _) 0).trans rfl) 9 Tryz.underlying9
  rw [hx]
  unfold strOfNums
  simp [h]
/-- The bytes that are put in, the last first. -/
def whatwg_Text.olds : Nat → UInt8 | 0 => 13 | 1 => 10 | _ => 9
/-- How far the table is: r bytes put in. -/
structure whatwg_Text.Mid (W : World) (G T r : Nat) (X : World) : Prop where
  below : Below W.heap.size W X
  tab : ∃ a b c, X.heap[G]? = some (.cells (whatwg_Text.tb a b c (.slice (some ⟨T, 0, none⟩) r 3)) 190 (0, 0)) ∧ (if 1 ≤ r then ∃ p k, c = .slice (some p) 0 k else c = whatwg_Text.nl) ∧ (if 2 ≤ r then ∃ p k, b = .slice (some p) 0 k else b = whatwg_Text.nl) ∧ (if 3 ≤ r then ∃ p k, a = .slice (some p) 0 k else a = whatwg_Text.nl)
  row : ∃ x y z, X.heap[T]? = some (.cells #[x, y, z] 9 (0, 0)) ∧ (1 ≤ r → x = .string ⟨#[13]⟩) ∧ (2 ≤ r → y = .string ⟨#[10]⟩) ∧ (3 ≤ r → z = .string ⟨#[9]⟩)
set_option maxRecDepth 100000 in
set_option maxHeartbeats 4000000 in
theorem whatwg_Text.build (B O cap : Nat) (W : World) (hc : W.cell? ⟨B, 4, none⟩ = some (.slice (some ⟨O, 0, none⟩) 6 cap))
    (h0 : W.cell? ⟨O, 0, none⟩ = some (.string ⟨#[9]⟩)) (h1 : W.cell? ⟨O, 1, none⟩ = some (.string ⟨#[]⟩)) (h2 : W.cell? ⟨O, 2, none⟩ = some (.string ⟨#[10]⟩))
    (h3 : W.cell? ⟨O, 3, none⟩ = some (.string ⟨#[]⟩)) (h4 : W.cell? ⟨O, 4, none⟩ = some (.string ⟨#[13]⟩)) (h5 : W.cell? ⟨O, 5, none⟩ = some (.string ⟨#[]⟩)) :
    Calls Tryz.prog 135 #[.pointer (some ⟨B, 0, none⟩)] W fun e w' => ∃ G T, e = .returned (.iface 191 (.pointer (some ⟨G, 0, none⟩))) ∧ Aside0 (W.heap.size ≤ G) ∧ Aside0 (W.heap.size ≤ T) ∧ Aside0 (whatwg_Text.Mid W G T 3 w') := by
  have hmk := whatwg_Text.made3
  have heq := fun (w : World) (a : Option Addr) (l c : Nat) => run_eql_slice_nil (P := Tryz.prog) w 44 5 a l c Tryz.underlying44
  have hs13 := fun (X : World) => whatwg_Text.conv1 X 13 13 rfl
  have hs10 := fun (X : World) => whatwg_Text.conv1 X 10 10 rfl
  have hs9 := fun (X : World) => whatwg_Text.conv1 X 9 9 rfl
  have hbs := fun (X : World) => Lib.run_convert_string_bytes (P := Tryz.prog) X 9 44 5 ⟨#[]⟩ Tryz.underlying9 Tryz.underlying44 Tryz.underlying5
  go_enter Tryz.func135, Tryz.ntmps135
  go_wp2
  refine wp_loop_rounds 4 ?_
  rw [rounds_succ]
  go_wp2
  rw [rounds_succ]
  go_wp2
  rw [rounds_succ]
  go_wp2
  rw [rounds_succ]
  go_wp2
  rw [whatwg_Text.stored190]
  simp only [Result.andThen]
  rw [Oper.upon_skip]
  have hM : Aside0 (whatwg_Text.Mid W (W.heap.size + 1) W.heap.size 0 ((W.alloc (.cells #[.string ⟨#[]⟩, .string ⟨#[]⟩, .string ⟨#[]⟩] 9)).alloc (.cells (whatwg_Text.tb whatwg_Text.nl whatwg_Text.nl whatwg_Text.nl (.slice (some ⟨W.heap.size, 0, none⟩) 0 3)) 190))) := ⟨{
    below := below_alloc (below_alloc (Below.refl _ _) _) _
    tab := ⟨_, _, _, by have h := blk_new (W.alloc (.cells #[.string ⟨#[]⟩, .string ⟨#[]⟩, .string ⟨#[]⟩] 9)) (.cells (whatwg_Text.tb whatwg_Text.nl whatwg_Text.nl whatwg_Text.nl (.slice (some ⟨W.heap.size, 0, none⟩) 0 3)) 190); rw [show (W.alloc (.cells #[.string ⟨#[]⟩, .string ⟨#[]⟩, .string ⟨#[]⟩] 9)).heap.size = W.heap.size + 1 from by simp] at h; exact h, rfl, rfl, rfl⟩
    row := ⟨_, _, _, blk_alloc (blk_new W _) _, fun h => absurd h (by decide), fun h => absurd h (by decide), fun h => absurd h (by decide)⟩ }⟩
  obtain ⟨G, hG⟩ : ∃ G, W.heap.size + 1 = G := ⟨_, rfl⟩
  obtain ⟨T, hT⟩ : ∃ T, W.heap.size = T := ⟨_, rfl⟩
  have HG := Aside0.mk (show W.heap.size ≤ G by omega)
  have HT := Aside0.mk (show W.heap.size ≤ T by omega)
  have HGT := Aside0.mk (show G ≠ T by omega)
  rw [hG, hT] at hM
  rw [hG, hT]
  clear hG hT
  revert hM
  generalize ((W.alloc (.cells #[.string ⟨#[]⟩, .string ⟨#[]⟩, .string ⟨#[]⟩] 9)).alloc (.cells (whatwg_Text.tb whatwg_Text.nl whatwg_Text.nl whatwg_Text.nl (.slice (some ⟨T, 0, none⟩) 0 3)) 190)) = X
  intro hM
  go_wp2
  go_loopw [12] (fun i wr => ∃ r : Nat, r ≤ 3 ∧ i = .int .i64 (4 - 2 * (r : Int)) ∧ Aside0 (whatwg_Text.Mid W G T r wr)) (fun i _ => (intOf i + 2).toNat)
  case atStart => exact ⟨0, by omega, rfl, hM⟩
  case round =>
    clear hM
    obtain ⟨r, hr, rfl, hM⟩ := hrel
    have HM := Aside0.mk hM
    obtain ⟨hb, ⟨ta, tb, tc, htab, hc13, hc10, hc9⟩, x, y, z, hrow, hx, hy, hz⟩ := hM.out
    clear hM
    have k0 := pw_cell_below hb h0
    have k1 := pw_cell_below hb h1
    have k2 := pw_cell_below hb h2
    have k3 := pw_cell_below hb h3
    have k4 := pw_cell_below hb h4
    have k5 := pw_cell_below hb h5
    have g9 := (blk_cell htab 9).trans (whatwg_Text.tb_at ta tb tc _ 9 (by decide))
    have g10 := (blk_cell htab 10).trans (whatwg_Text.tb_at ta tb tc _ 10 (by decide))
    have g13 := (blk_cell htab 13).trans (whatwg_Text.tb_at ta tb tc _ 13 (by decide))
    have gs := (blk_cell htab 256).trans (whatwg_Text.tb_last ta tb tc _)
    have t0 : wr.cell? ⟨T, 0, none⟩ = some x := (blk_cell hrow 0).trans rfl
    have t1 : wr.cell? ⟨T, 1, none⟩ = some y := (blk_cell hrow 1).trans rfl
    have t2 : wr.cell? ⟨T, 2, none⟩ = some z := (blk_cell hrow 2).trans rfl
    have fG9 := blk_frozen htab 9
    have fG10 := blk_frozen htab 10
    have fG13 := blk_frozen htab 13
    have fGs := blk_frozen htab 256
    have fT0 := blk_frozen hrow 0
    have fT1 := blk_frozen hrow 1
    have fT2 := blk_frozen hrow 2
    have hlG := blk_lt htab
    have hlT := blk_lt hrow
    have hGT := HGT.out
    have HB := Aside0.mk hb
    have HTAB := Aside0.mk htab
    have HROW := Aside0.mk hrow
    clear hb htab hrow
    rcases (show r = 0 ∨ r = 1 ∨ r = 2 ∨ r = 3 by omega) with rfl | rfl | rfl | rfl
    · have e13 : tc = whatwg_Text.nl := by simpa using hc13
      subst e13
      have g13' : wr.cell? ⟨G, 13, none⟩ = some (.slice none 0 0) := g13
      rw [show (4 - 2 * ((0 : Nat) : Int)) = 4 from by decide]
      have hi13 : ((⟨#[13]⟩ : ByteArray)[0]'(by decide)).toNat = 13 := by decide
      have HBS := Aside0.mk hbs
      have HC := Aside0.mk (And.intro hc13 (And.intro hc10 hc9))
      have HX := Aside0.mk (And.intro hx (And.intro hy hz))
      clear k0 k1 k2 k3 g9 g10 g13 t1 t2 fT1 fT2 fG9 fG10 fG13 hs10 hs9 hmk hbs h0 h1 h2 h3 h4 h5 hc HM hc13 hc10 hc9 hx hy hz
      go_upto_region 34 with (fail)
      have tab2 : ((((wr.setCell ⟨T, 0, none⟩ (.string ⟨#[13]⟩)).setCell ⟨G, 256, none⟩ (.slice (some ⟨T, 0, none⟩) 1 3)).alloc (.cells #[.int .u8 13] 5)).alloc (.cells #[.string ⟨#[13]⟩] 9)).heap[G]? = some (.cells (whatwg_Text.tb ta tb whatwg_Text.nl (.slice (some ⟨T, 0, none⟩) 1 3)) 190 (0, 0)) := blk_alloc (blk_alloc (blk_put (blk_far HTAB.out (p := ⟨T, 0, none⟩) HGT.out _) 256 _ (whatwg_Text.tb_256 _ _ _ _ _)) _) _
      have row2 : ((((wr.setCell ⟨T, 0, none⟩ (.string ⟨#[13]⟩)).setCell ⟨G, 256, none⟩ (.slice (some ⟨T, 0, none⟩) 1 3)).alloc (.cells #[.int .u8 13] 5)).alloc (.cells #[.string ⟨#[13]⟩] 9)).heap[T]? = some (.cells #[.string ⟨#[13]⟩, y, z] 9 (0, 0)) := blk_alloc (blk_alloc (blk_far (blk_put HROW.out 0 _ rfl) (p := ⟨G, 256, none⟩) (Ne.symm HGT.out) _) _) _
      have below2 : Below W.heap.size W ((((wr.setCell ⟨T, 0, none⟩ (.string ⟨#[13]⟩)).setCell ⟨G, 256, none⟩ (.slice (some ⟨T, 0, none⟩) 1 3)).alloc (.cells #[.int .u8 13] 5)).alloc (.cells #[.string ⟨#[13]⟩] 9)) := below_alloc (below_alloc ((HB.out.setCell (p := ⟨T, 0, none⟩) HT.out _).setCell (p := ⟨G, 256, none⟩) HG.out _) _) _
      clear t0 fT0 fGs gs g13' k4 k5 HTAB HROW HB hlG hlT hGT hs13 heq
      revert tab2 row2 below2
      generalize ((((wr.setCell ⟨T, 0, none⟩ (.string ⟨#[13]⟩)).setCell ⟨G, 256, none⟩ (.slice (some ⟨T, 0, none⟩) 1 3)).alloc (.cells #[.int .u8 13] 5)).alloc (.cells #[.string ⟨#[13]⟩] 9)) = X2
      intro tab2 row2 below2
      have hbs2 := HBS.out X2
      have hlG := blk_lt tab2
      have hlT := blk_lt row2
      have tab3 : (Lib.bytesWorld X2 5 ⟨#[]⟩).heap[G]? = _ := (Lib.bytesWorld_at_old X2 5 ⟨#[]⟩ G hlG).trans tab2
      have row3 : (Lib.bytesWorld X2 5 ⟨#[]⟩).heap[T]? = _ := (Lib.bytesWorld_at_old X2 5 ⟨#[]⟩ T hlT).trans row2
      have below3 : Below W.heap.size W (Lib.bytesWorld X2 5 ⟨#[]⟩) := bytes_below below2 below2.size 5 _
      revert hbs2 tab3 row3 below3
      generalize Lib.bytesWorld X2 5 ⟨#[]⟩ = X3
      generalize grownCap X2 (⟨#[]⟩ : ByteArray).size 0 5 = K3
      generalize X2.heap.size = N3
      intro hbs2 tab3 row3 below3
      have g3 : X3.cell? ⟨G, 13, none⟩ = some (.slice none 0 0) := (blk_cell tab3 13).trans (whatwg_Text.tb_at _ _ _ _ 13 (by decide))
      have f3 := blk_frozen tab3 13
      have TAB3 := Aside0.mk tab3
      have ROW3 := Aside0.mk row3
      have BEL3 := Aside0.mk below3
      clear tab2 row2 below2 tab3 row3 below3 hlG hlT HBS
      go_wp2
      exact ⟨⟨1, by omega, rfl, ⟨{ below := BEL3.out.setCell (p := ⟨G, 13, none⟩) HG.out _, tab := ⟨_, _, _, blk_put TAB3.out 13 _ (whatwg_Text.tb_13 _ _ _ _ _), by rw [if_pos (by decide)]; exact ⟨_, _, rfl⟩, by simpa using HC.out.2.1, by simpa using HC.out.2.2⟩, row := ⟨_, _, _, blk_far ROW3.out (p := ⟨G, 13, none⟩) (Ne.symm HGT.out) _, fun _ => rfl, fun h => absurd h (by decide), fun h => absurd h (by decide)⟩ }⟩⟩, by simp [intOf]⟩
    · have e10 : tb = whatwg_Text.nl := by simpa using hc10
      subst e10
      have g10' : wr.cell? ⟨G, 10, none⟩ = some (.slice none 0 0) := g10
      rw [show (4 - 2 * ((1 : Nat) : Int)) = 2 from by decide]
      have hi10 : ((⟨#[10]⟩ : ByteArray)[0]'(by decide)).toNat = 10 := by decide
      have HBS := Aside0.mk hbs
      have HC := Aside0.mk (And.intro hc13 (And.intro hc10 hc9))
      have HX := Aside0.mk (And.intro hx (And.intro hy hz))
      clear k0 k1 k4 k5 g9 g10 g13 t0 t2 fT0 fT2 fG9 fG10 fG13 hs13 hs9 hmk hbs h0 h1 h2 h3 h4 h5 hc HM hc13 hc10 hc9 hx hy hz
      go_upto_region 34 with (fail)
      have tab2 : ((((wr.setCell ⟨T, 1, none⟩ (.string ⟨#[10]⟩)).setCell ⟨G, 256, none⟩ (.slice (some ⟨T, 0, none⟩) 2 3)).alloc (.cells #[.int .u8 10] 5)).alloc (.cells #[.string ⟨#[10]⟩] 9)).heap[G]? = some (.cells (whatwg_Text.tb ta whatwg_Text.nl tc (.slice (some ⟨T, 0, none⟩) 2 3)) 190 (0, 0)) := blk_alloc (blk_alloc (blk_put (blk_far HTAB.out (p := ⟨T, 1, none⟩) HGT.out _) 256 _ (whatwg_Text.tb_256 _ _ _ _ _)) _) _
      have row2 : ((((wr.setCell ⟨T, 1, none⟩ (.string ⟨#[10]⟩)).setCell ⟨G, 256, none⟩ (.slice (some ⟨T, 0, none⟩) 2 3)).alloc (.cells #[.int .u8 10] 5)).alloc (.cells #[.string ⟨#[10]⟩] 9)).heap[T]? = some (.cells #[x, .string ⟨#[10]⟩, z] 9 (0, 0)) := blk_alloc (blk_alloc (blk_far (blk_put HROW.out 1 _ rfl) (p := ⟨G, 256, none⟩) (Ne.symm HGT.out) _) _) _
      have below2 : Below W.heap.size W ((((wr.setCell ⟨T, 1, none⟩ (.string ⟨#[10]⟩)).setCell ⟨G, 256, none⟩ (.slice (some ⟨T, 0, none⟩) 2 3)).alloc (.cells #[.int .u8 10] 5)).alloc (.cells #[.string ⟨#[10]⟩] 9)) := below_alloc (below_alloc ((HB.out.setCell (p := ⟨T, 1, none⟩) HT.out _).setCell (p := ⟨G, 256, none⟩) HG.out _) _) _
      clear t1 fT1 fGs gs g10' k2 k3 HTAB HROW HB hlG hlT hGT hs10 heq
      revert tab2 row2 below2
      generalize ((((wr.setCell ⟨T, 1, none⟩ (.string ⟨#[10]⟩)).setCell ⟨G, 256, none⟩ (.slice (some ⟨T, 0, none⟩) 2 3)).alloc (.cells #[.int .u8 10] 5)).alloc (.cells #[.string ⟨#[10]⟩] 9)) = X2
      intro tab2 row2 below2
      have hbs2 := HBS.out X2
      have hlG := blk_lt tab2
      have hlT := blk_lt row2
      have tab3 : (Lib.bytesWorld X2 5 ⟨#[]⟩).heap[G]? = _ := (Lib.bytesWorld_at_old X2 5 ⟨#[]⟩ G hlG).trans tab2
      have row3 : (Lib.bytesWorld X2 5 ⟨#[]⟩).heap[T]? = _ := (Lib.bytesWorld_at_old X2 5 ⟨#[]⟩ T hlT).trans row2
      have below3 : Below W.heap.size W (Lib.bytesWorld X2 5 ⟨#[]⟩) := bytes_below below2 below2.size 5 _
      revert hbs2 tab3 row3 below3
      generalize Lib.bytesWorld X2 5 ⟨#[]⟩ = X3
      generalize grownCap X2 (⟨#[]⟩ : ByteArray).size 0 5 = K3
      generalize X2.heap.size = N3
      intro hbs2 tab3 row3 below3
      have g3 : X3.cell? ⟨G, 10, none⟩ = some (.slice none 0 0) := (blk_cell tab3 10).trans (whatwg_Text.tb_at _ _ _ _ 10 (by decide))
      have f3 := blk_frozen tab3 10
      have TAB3 := Aside0.mk tab3
      have ROW3 := Aside0.mk row3
      have BEL3 := Aside0.mk below3
      clear tab2 row2 below2 tab3 row3 below3 hlG hlT HBS
      go_wp2
      exact ⟨⟨2, by omega, rfl, ⟨{ below := BEL3.out.setCell (p := ⟨G, 10, none⟩) HG.out _, tab := ⟨_, _, _, blk_put TAB3.out 10 _ (whatwg_Text.tb_10 _ _ _ _ _), by simpa using HC.out.1, by rw [if_pos (by decide)]; exact ⟨_, _, rfl⟩, by simpa using HC.out.2.2⟩, row := ⟨_, _, _, blk_far ROW3.out (p := ⟨G, 10, none⟩) (Ne.symm HGT.out) _, fun _ => HX.out.1 (by decide), fun _ => rfl, fun h => absurd h (by decide)⟩ }⟩⟩, by simp [intOf]⟩
    · have e9 : ta = whatwg_Text.nl := by simpa using hc9
      subst e9
      have g9' : wr.cell? ⟨G, 9, none⟩ = some (.slice none 0 0) := g9
      rw [show (4 - 2 * ((2 : Nat) : Int)) = 0 from by decide]
      have hi9 : ((⟨#[9]⟩ : ByteArray)[0]'(by decide)).toNat = 9 := by decide
      have HBS := Aside0.mk hbs
      have HC := Aside0.mk (And.intro hc13 (And.intro hc10 hc9))
      have HX := Aside0.mk (And.intro hx (And.intro hy hz))
      clear k2 k3 k4 k5 g9 g10 g13 t0 t1 fT0 fT1 fG9 fG10 fG13 hs13 hs10 hmk hbs h0 h1 h2 h3 h4 h5 hc HM hc13 hc10 hc9 hx hy hz
      go_upto_region 34 with (fail)
      have tab2 : ((((wr.setCell ⟨T, 2, none⟩ (.string ⟨#[9]⟩)).setCell ⟨G, 256, none⟩ (.slice (some ⟨T, 0, none⟩) 3 3)).alloc (.cells #[.int .u8 9] 5)).alloc (.cells #[.string ⟨#[9]⟩] 9)).heap[G]? = some (.cells (whatwg_Text.tb whatwg_Text.nl tb tc (.slice (some ⟨T, 0, none⟩) 3 3)) 190 (0, 0)) := blk_alloc (blk_alloc (blk_put (blk_far HTAB.out (p := ⟨T, 2, none⟩) HGT.out _) 256 _ (whatwg_Text.tb_256 _ _ _ _ _)) _) _
      have row2 : ((((wr.setCell ⟨T, 2, none⟩ (.string ⟨#[9]⟩)).setCell ⟨G, 256, none⟩ (.slice (some ⟨T, 0, none⟩) 3 3)).alloc (.cells #[.int .u8 9] 5)).alloc (.cells #[.string ⟨#[9]⟩] 9)).heap[T]? = some (.cells #[x, y, .string ⟨#[9]⟩] 9 (0, 0)) := blk_alloc (blk_alloc (blk_far (blk_put HROW.out 2 _ rfl) (p := ⟨G, 256, none⟩) (Ne.symm HGT.out) _) _) _
      have below2 : Below W.heap.size W ((((wr.setCell ⟨T, 2, none⟩ (.string ⟨#[9]⟩)).setCell ⟨G, 256, none⟩ (.slice (some ⟨T, 0, none⟩) 3 3)).alloc (.cells #[.int .u8 9] 5)).alloc (.cells #[.string ⟨#[9]⟩] 9)) := below_alloc (below_alloc ((HB.out.setCell (p := ⟨T, 2, none⟩) HT.out _).setCell (p := ⟨G, 256, none⟩) HG.out _) _) _
      clear t2 fT2 fGs gs g9' k0 k1 HTAB HROW HB hlG hlT hGT hs9 heq
      revert tab2 row2 below2
      generalize ((((wr.setCell ⟨T, 2, none⟩ (.string ⟨#[9]⟩)).setCell ⟨G, 256, none⟩ (.slice (some ⟨T, 0, none⟩) 3 3)).alloc (.cells #[.int .u8 9] 5)).alloc (.cells #[.string ⟨#[9]⟩] 9)) = X2
      intro tab2 row2 below2
      have hbs2 := HBS.out X2
      have hlG := blk_lt tab2
      have hlT := blk_lt row2
      have tab3 : (Lib.bytesWorld X2 5 ⟨#[]⟩).heap[G]? = _ := (Lib.bytesWorld_at_old X2 5 ⟨#[]⟩ G hlG).trans tab2
      have row3 : (Lib.bytesWorld X2 5 ⟨#[]⟩).heap[T]? = _ := (Lib.bytesWorld_at_old X2 5 ⟨#[]⟩ T hlT).trans row2
      have below3 : Below W.heap.size W (Lib.bytesWorld X2 5 ⟨#[]⟩) := bytes_below below2 below2.size 5 _
      revert hbs2 tab3 row3 below3
      generalize Lib.bytesWorld X2 5 ⟨#[]⟩ = X3
      generalize grownCap X2 (⟨#[]⟩ : ByteArray).size 0 5 = K3
      generalize X2.heap.size = N3
      intro hbs2 tab3 row3 below3
      have g3 : X3.cell? ⟨G, 9, none⟩ = some (.slice none 0 0) := (blk_cell tab3 9).trans (whatwg_Text.tb_at _ _ _ _ 9 (by decide))
      have f3 := blk_frozen tab3 9
      have TAB3 := Aside0.mk tab3
      have ROW3 := Aside0.mk row3
      have BEL3 := Aside0.mk below3
      clear tab2 row2 below2 tab3 row3 below3 hlG hlT HBS
      go_wp2
      exact ⟨⟨3, by omega, rfl, ⟨{ below := BEL3.out.setCell (p := ⟨G, 9, none⟩) HG.out _, tab := ⟨_, _, _, blk_put TAB3.out 9 _ (whatwg_Text.tb_9 _ _ _ _ _), by simpa using HC.out.1, by simpa using HC.out.2.1, by rw [if_pos (by decide)]; exact ⟨_, _, rfl⟩⟩, row := ⟨_, _, _, blk_far ROW3.out (p := ⟨G, 9, none⟩) (Ne.symm HGT.out) _, fun _ => HX.out.1 (by decide), fun _ => HX.out.2.1 (by decide), fun _ => rfl⟩ }⟩⟩, by simp [intOf]⟩
    · rw [show (4 - 2 * ((3 : Nat) : Int)) = -2 from by decide]
      clear k0 k1 k2 k3 k4 k5 g9 g10 g13 gs t0 t1 t2 fG9 fG10 fG13 fGs fT0 fT1 fT2 hlG hlT hGT HB HTAB HROW hc13 hc10 hc9 hx hy hz h0 h1 h2 h3 h4 h5 hc hmk heq hs13 hs10 hs9 hbs
      go_wp2
      go_ret
      exact ⟨G, T, rfl, HG, HT, HM.out⟩

set_option maxRecDepth 100000 in
set_option maxHeartbeats 4000000 in
theorem whatwg_Text.once (B O cap : Nat) (x3 : Value) (W : World) (hOB : O < W.heap.size) (hBl : B < W.heap.size) (c3 : W.cell? ⟨B, 3, none⟩ = some x3) (hc : W.cell? ⟨B, 4, none⟩ = some (.slice (some ⟨O, 0, none⟩) 6 cap)) (f3 : W.frozen? ⟨B, 3, none⟩ = false) (f4 : W.frozen? ⟨B, 4, none⟩ = false)
    (h0 : W.cell? ⟨O, 0, none⟩ = some (.string ⟨#[9]⟩)) (h1 : W.cell? ⟨O, 1, none⟩ = some (.string ⟨#[]⟩)) (h2 : W.cell? ⟨O, 2, none⟩ = some (.string ⟨#[10]⟩))
    (h3 : W.cell? ⟨O, 3, none⟩ = some (.string ⟨#[]⟩)) (h4 : W.cell? ⟨O, 4, none⟩ = some (.string ⟨#[13]⟩)) (h5 : W.cell? ⟨O, 5, none⟩ = some (.string ⟨#[]⟩)) :
    Calls Tryz.prog 100 #[.pointer (some ⟨B, 0, none⟩)] W fun e w' => ∃ G T w1, e = .returned (.tuple #[]) ∧ Aside0 (W.heap.size ≤ G) ∧ Aside0 (W.heap.size ≤ T) ∧ Aside0 (whatwg_Text.Mid W G T 3 w1) ∧ w' = (w1.setCell ⟨B, 3, none⟩ (.iface 191 (.pointer (some ⟨G, 0, none⟩)))).setCell ⟨B, 4, none⟩ (.slice none 0 0) := by
  have hb := Aside0.mk (whatwg_Text.build B O cap W hc h0 h1 h2 h3 h4 h5)
  have C3 := Aside0.mk c3
  have C4 := Aside0.mk hc
  clear h0 h1 h2 h3 h4 h5 hc c3
  go_enter Tryz.func100, Tryz.ntmps100
  go_wp2_with (go_at_call 135; refine hb.out.mono ?_; rintro e w1 ⟨G, T, rfl, hG, hT, hM⟩; have q3 := pw_cell_below hM.out.below C3.out; have q4 := pw_cell_below hM.out.below C4.out; have z3 : w1.frozen? ⟨B, 3, none⟩ = false := (hM.out.below.frozen (p := ⟨B, 3, none⟩) hBl).trans f3; have z4 : w1.frozen? ⟨B, 4, none⟩ = false := (hM.out.below.frozen (p := ⟨B, 4, none⟩) hBl).trans f4)
  go_end0
  exact ⟨G, T, w1, rfl, hG, hT, hM, rfl⟩

/-- The replacer is made: what lies where. -/
structure whatwg_Text.Done (n : Nat) (W : World) (B G : Nat) (X : World) : Prop where
  below : Below n W X
  iface : X.cell? ⟨B, 3, none⟩ = some (.iface 191 (.pointer (some ⟨G, 0, none⟩)))
  tab : ∃ T a b c p q r k l m, X.heap[G]? = some (.cells (whatwg_Text.tb a b c (.slice (some ⟨T, 0, none⟩) 3 3)) 190 (0, 0)) ∧ a = .slice (some p) 0 k ∧ b = .slice (some q) 0 l ∧ c = .slice (some r) 0 m ∧ X.heap[T]? = some (.cells #[.string ⟨#[13]⟩, .string ⟨#[10]⟩, .string ⟨#[9]⟩] 9 (0, 0))
theorem whatwg_Text.done_of {n B G T : Nat} {x3 : Value} {W W1 X Y : World} (hn : n ≤ B) (hW : Below n W W1) (hG : W1.heap.size ≤ G) (hT : W1.heap.size ≤ T) (hB : B < W1.heap.size) (hM : whatwg_Text.Mid W1 G T 3 X) (c3 : W1.cell? ⟨B, 3, none⟩ = some x3)
    (hY : Y = (((X.setCell ⟨B, 3, none⟩ (.iface 191 (.pointer (some ⟨G, 0, none⟩)))).setCell ⟨B, 4, none⟩ (.slice none 0 0)).drew.setCell ⟨B, 0, none⟩ (.int .u32 1)).setCell ⟨B, 1, none⟩ (.int .i32 0)) : whatwg_Text.Done n W B G Y := by
  subst hY
  obtain ⟨hb, ⟨a, b, c, htab, ⟨r, m, hc⟩, ⟨q, l, hb2⟩, ⟨p, k, ha⟩⟩, x, y, z, hrow, hx, hy, hz⟩ := hM
  rw [hx (by decide), hy (by decide), hz (by decide)] at hrow
  have hGB : G ≠ B := by omega
  have hTB : T ≠ B := by omega
  refine ⟨?_, ?_, T, a, b, c, p, q, r, k, l, m, ?_, ha, hb2, hc, ?_⟩
  · have h1 : Below n W X := hW.trans ⟨hb.os, hb.tape, hb.output, hb.size, fun i hi => hb.block i (by omega)⟩
    exact (((((h1.setCell (p := ⟨B, 3, none⟩) hn _).setCell (p := ⟨B, 4, none⟩) hn _).drew).setCell (p := ⟨B, 0, none⟩) hn _).setCell (p := ⟨B, 1, none⟩) hn _)
  · have h3 := pw_cell_below hb c3
    rw [World.cell?_setCell_other _ ⟨B, 1, none⟩ ⟨B, 3, none⟩ _ (by simp), World.cell?_setCell_other _ ⟨B, 0, none⟩ ⟨B, 3, none⟩ _ (by simp), World.cell?_drew, World.cell?_setCell_other _ ⟨B, 4, none⟩ ⟨B, 3, none⟩ _ (by simp)]
    exact World.cell?_setCell_same _ _ _ h3
  · exact blk_far (blk_far (blk_drew (blk_far (blk_far htab (p := ⟨B, 3, none⟩) hGB _) (p := ⟨B, 4, none⟩) hGB _)) (p := ⟨B, 0, none⟩) hGB _) (p := ⟨B, 1, none⟩) hGB _
  · exact blk_far (blk_far (blk_drew (blk_far (blk_far hrow (p := ⟨B, 3, none⟩) hTB _) (p := ⟨B, 4, none⟩) hTB _)) (p := ⟨B, 0, none⟩) hTB _) (p := ⟨B, 1, none⟩) hTB _
set_option maxRecDepth 100000 in
set_option maxHeartbeats 4000000 in
theorem whatwg_Text.slow (n B O cap : Nat) (x3 : Value) (W : World) (hn : n ≤ B) (hnW : n ≤ W.heap.size) (hOB : O < W.heap.size) (hO : O ≠ B) (hBl : B < W.heap.size) (c0 : W.cell? ⟨B, 0, none⟩ = some (.int .u32 0)) (c1 : W.cell? ⟨B, 1, none⟩ = some (.int .i32 0)) (c3 : W.cell? ⟨B, 3, none⟩ = some x3) (hc : W.cell? ⟨B, 4, none⟩ = some (.slice (some ⟨O, 0, none⟩) 6 cap))
    (f0 : W.frozen? ⟨B, 0, none⟩ = false) (f1 : W.frozen? ⟨B, 1, none⟩ = false) (f3 : W.frozen? ⟨B, 3, none⟩ = false) (f4 : W.frozen? ⟨B, 4, none⟩ = false)
    (h0 : W.cell? ⟨O, 0, none⟩ = some (.string ⟨#[9]⟩)) (h1 : W.cell? ⟨O, 1, none⟩ = some (.string ⟨#[]⟩)) (h2 : W.cell? ⟨O, 2, none⟩ = some (.string ⟨#[10]⟩))
    (h3 : W.cell? ⟨O, 3, none⟩ = some (.string ⟨#[]⟩)) (h4 : W.cell? ⟨O, 4, none⟩ = some (.string ⟨#[13]⟩)) (h5 : W.cell? ⟨O, 5, none⟩ = some (.string ⟨#[]⟩)) :
    Calls Tryz.prog 134 #[.pointer (some ⟨B, 0, none⟩), .func (.func 100) #[.pointer (some ⟨B, 0, none⟩)] #[]] W fun e w' => ∃ G, e = .returned (.tuple #[]) ∧ Aside0 (whatwg_Text.Done n W B G w') := by
  have far : ∀ j, (W.setCell ⟨B, 1, none⟩ (.int .i32 1)).cell? ⟨O, j, none⟩ = W.cell? ⟨O, j, none⟩ := fun j => World.cell?_setCell_other _ ⟨B, 1, none⟩ ⟨O, j, none⟩ _ (by simp [Ne.symm hO])
  have hsz : (W.setCell ⟨B, 1, none⟩ (.int .i32 1)).heap.size = W.heap.size := by simp [World.setCell]
  have d0 : (W.setCell ⟨B, 1, none⟩ (.int .i32 1)).cell? ⟨B, 0, none⟩ = some (.int .u32 0) := (World.cell?_setCell_other _ ⟨B, 1, none⟩ ⟨B, 0, none⟩ _ (by simp)).trans c0
  have d1 : (W.setCell ⟨B, 1, none⟩ (.int .i32 1)).cell? ⟨B, 1, none⟩ = some (.int .i32 1) := World.cell?_setCell_same W ⟨B, 1, none⟩ _ c1
  have d3 : (W.setCell ⟨B, 1, none⟩ (.int .i32 1)).cell? ⟨B, 3, none⟩ = some x3 := (World.cell?_setCell_other _ ⟨B, 1, none⟩ ⟨B, 3, none⟩ _ (by simp)).trans c3
  have d4 := (World.cell?_setCell_other W ⟨B, 1, none⟩ ⟨B, 4, none⟩ (.int .i32 1) (by simp)).trans hc
  have z0 : (W.setCell ⟨B, 1, none⟩ (.int .i32 1)).frozen? ⟨B, 0, none⟩ = false := by simp [f0]
  have z1 : (W.setCell ⟨B, 1, none⟩ (.int .i32 1)).frozen? ⟨B, 1, none⟩ = false := by simp [f1]
  have z3 : (W.setCell ⟨B, 1, none⟩ (.int .i32 1)).frozen? ⟨B, 3, none⟩ = false := by simp [f3]
  have z4 : (W.setCell ⟨B, 1, none⟩ (.int .i32 1)).frozen? ⟨B, 4, none⟩ = false := by simp [f4]
  have hbel : Below n W (W.setCell ⟨B, 1, none⟩ (.int .i32 1)) := (Below.refl n W).setCell (p := ⟨B, 1, none⟩) hn _
  have LK := Aside0.mk (whatwg_Text.lock_free ⟨B, 1, none⟩ W c1 f1)
  have ON := Aside0.mk (whatwg_Text.once B O cap x3 (W.setCell ⟨B, 1, none⟩ (.int .i32 1)) (by rw [hsz]; exact hOB) (by rw [hsz]; exact hBl) d3 d4 z3 z4 ((far 0).trans h0) ((far 1).trans h1) ((far 2).trans h2) ((far 3).trans h3) ((far 4).trans h4) ((far 5).trans h5))
  have hl := run_call_load (P := Tryz.prog) Tryz.func153 (by kernel_rfl) (by kernel_rfl) (by kernel_rfl) .u32 (by kernel_rfl) d0
  have hnot : ∀ (x : Bool) (w : World), (Op.unary .not (.bool x)).run Tryz.prog w = .ok (.bool (!x)) w := fun _ _ => rfl
  have HB := Aside0.mk (show B < (W.setCell ⟨B, 1, none⟩ (.int .i32 1)).heap.size by rw [hsz]; exact hBl)
  have HF := Aside0.mk (And.intro d0 (And.intro d1 (And.intro d3 (And.intro z0 z1))))
  have HBL := Aside0.mk hbel
  clear far hsz d1 d3 d4 z0 z1 z3 z4 hbel c0 c1 c3 hc f0 f1 f3 f4 h0 h1 h2 h3 h4 h5
  generalize W.setCell ⟨B, 1, none⟩ (.int .i32 1) = W1 at *
  go_enter_defers Tryz.func134, Tryz.ntmps134
  go_wp2_with (first | (go_at_call 154; refine LK.out.mono ?_; rintro e w' ⟨rfl, rfl⟩) | (go_at_call 133; go_in) | (go_at_call 100; refine ON.out.mono ?_; rintro e w' ⟨G, T, w1, rfl, hG, hT, hM, rfl⟩))
  have b3 := hM.out.below
  have e0 := (hM.out.below.cell (p := ⟨B, 0, none⟩) HB.out).trans HF.out.1
  have e1 := (hM.out.below.cell (p := ⟨B, 1, none⟩) HB.out).trans HF.out.2.1
  have y0 := (hM.out.below.frozen (p := ⟨B, 0, none⟩) HB.out).trans HF.out.2.2.2.1
  have y1 := (hM.out.below.frozen (p := ⟨B, 1, none⟩) HB.out).trans HF.out.2.2.2.2
  go_wp2
  refine leaves_cons (f := 156) (args := #[.pointer (some ⟨B, 0, none⟩), .bool true]) (by simp) (by simp [go_sem]) ?_
  refine (whatwg_Text.store_deferred ⟨B, 0, none⟩ (.int .u32 0) .returning _ ?_ (by simp [y0])).mono ?_
  · exact (World.cell?_setCell_other _ ⟨B, 4, none⟩ ⟨B, 0, none⟩ _ (by simp)).trans ((World.cell?_setCell_other _ ⟨B, 3, none⟩ ⟨B, 0, none⟩ _ (by simp)).trans e0)
  rintro e u' w'' ⟨rfl, rfl, rfl⟩
  refine leaves_cons (f := 155) (args := #[.pointer (some ⟨B, 1, none⟩)]) (by simp [settle]) (by simp [go_sem]) ?_
  refine (whatwg_Text.unlock_deferred ⟨B, 1, none⟩ _ _ ?_ (by simp [y1])).mono ?_
  · refine (World.cell?_setCell_other _ ⟨B, 0, none⟩ ⟨B, 1, none⟩ _ (by simp)).trans ?_
    rw [World.cell?_drew]
    exact (World.cell?_setCell_other _ ⟨B, 4, none⟩ ⟨B, 1, none⟩ _ (by simp)).trans ((World.cell?_setCell_other _ ⟨B, 3, none⟩ ⟨B, 1, none⟩ _ (by simp)).trans e1)
  rintro e u' w'' ⟨rfl, rfl, rfl⟩
  have hD := whatwg_Text.done_of hn HBL.out hG.out hT.out HB.out hM.out HF.out.2.2.1 rfl
  exact ⟨.tuple #[], results_none rfl _ _ _, G, rfl, ⟨hD⟩⟩
set_option maxRecDepth 100000 in
set_option maxHeartbeats 4000000 in
theorem whatwg_Text.do_ (n B O cap : Nat) (x3 : Value) (W : World) (hn : n ≤ B) (hnW : n ≤ W.heap.size) (hOB : O < W.heap.size) (hO : O ≠ B) (hBl : B < W.heap.size) (c0 : W.cell? ⟨B, 0, none⟩ = some (.int .u32 0)) (c1 : W.cell? ⟨B, 1, none⟩ = some (.int .i32 0)) (c3 : W.cell? ⟨B, 3, none⟩ = some x3) (hc : W.cell? ⟨B, 4, none⟩ = some (.slice (some ⟨O, 0, none⟩) 6 cap))
    (f0 : W.frozen? ⟨B, 0, none⟩ = false) (f1 : W.frozen? ⟨B, 1, none⟩ = false) (f3 : W.frozen? ⟨B, 3, none⟩ = false) (f4 : W.frozen? ⟨B, 4, none⟩ = false)
    (h0 : W.cell? ⟨O, 0, none⟩ = some (.string ⟨#[9]⟩)) (h1 : W.cell? ⟨O, 1, none⟩ = some (.string ⟨#[]⟩)) (h2 : W.cell? ⟨O, 2, none⟩ = some (.string ⟨#[10]⟩))
    (h3 : W.cell? ⟨O, 3, none⟩ = some (.string ⟨#[]⟩)) (h4 : W.cell? ⟨O, 4, none⟩ = some (.string ⟨#[13]⟩)) (h5 : W.cell? ⟨O, 5, none⟩ = some (.string ⟨#[]⟩)) :
    Calls Tryz.prog 99 #[.pointer (some ⟨B, 0, none⟩), .func (.func 100) #[.pointer (some ⟨B, 0, none⟩)] #[]] W fun e w' => ∃ G, e = .returned (.tuple #[]) ∧ Aside0 (whatwg_Text.Done n W B G w') := by
  have SL := Aside0.mk (whatwg_Text.slow n B O cap x3 W hn hnW hOB hO hBl c0 c1 c3 hc f0 f1 f3 f4 h0 h1 h2 h3 h4 h5)
  have hl := run_call_load (P := Tryz.prog) Tryz.func153 (by kernel_rfl) (by kernel_rfl) (by kernel_rfl) .u32 (by kernel_rfl) c0
  have hnot : ∀ (x : Bool) (w : World), (Op.unary .not (.bool x)).run Tryz.prog w = .ok (.bool (!x)) w := fun _ _ => rfl
  clear c1 c3 hc f0 f1 f3 f4 h0 h1 h2 h3 h4 h5
  go_enter Tryz.func99, Tryz.ntmps99
  go_wp2_with (first | (go_at_call 134; refine SL.out.mono ?_; rintro e w' ⟨G, rfl, hD⟩) | (go_at_call 133; go_in))
  go_end0
  exact ⟨G, rfl, hD⟩


def whatwg_Text.drop1 (c : UInt8) : Bool := c == 9 || c == 10 || c == 13
def whatwg_Text.strip (l : List UInt8) : List UInt8 := l.filter fun c => !whatwg_Text.drop1 c
theorem whatwg_Text.strip_snoc (l : List UInt8) (c : UInt8) : whatwg_Text.strip (l ++ [c]) = whatwg_Text.strip l ++ (if whatwg_Text.drop1 c = true then [] else [c]) := by
  unfold whatwg_Text.strip
  rw [List.filter_append]
  cases h : whatwg_Text.drop1 c <;> simp [h]
theorem whatwg_Text.strip_le (l : List UInt8) : (whatwg_Text.strip l).length ≤ l.length := List.length_filter_le _ _
theorem whatwg_Text.strip_count : ∀ l : List UInt8, ((whatwg_Text.strip l).length : Int) + Lib.countByte l 13 + Lib.countByte l 10 + Lib.countByte l 9 = l.length
  | [] => rfl
  | c :: t => by
    have ih := whatwg_Text.strip_count t
    unfold Lib.countByte at *
    unfold whatwg_Text.strip at *
    rw [List.filter_cons, List.count_cons, List.count_cons, List.count_cons, List.length_cons]
    by_cases h9 : c = 9
    · subst h9
      have hd : whatwg_Text.drop1 (9 : UInt8) = true := by decide
      simp [hd]
      omega
    · by_cases h10 : c = 10
      · subst h10
        have hd : whatwg_Text.drop1 (10 : UInt8) = true := by decide
        simp [hd]
        omega
      · by_cases h13 : c = 13
        · subst h13
          have hd : whatwg_Text.drop1 (13 : UInt8) = true := by decide
          simp [hd]
          omega
        · have hd : whatwg_Text.drop1 c = false := by simp [whatwg_Text.drop1, h9, h10, h13]
          simp [hd, h9, h10, h13]
          omega
theorem whatwg_Text.strip_same {l : List UInt8} (h : (whatwg_Text.strip l).length = l.length) : whatwg_Text.strip l = l := List.filter_eq_self.2 fun x hx => (List.length_filter_eq_length_iff.1 h) x hx
/-- The table, where it is read. -/
structure whatwg_Text.Tab (G T : Nat) (X : World) : Prop where
  tab : ∃ a b c p q r k l m, X.heap[G]? = some (.cells (whatwg_Text.tb a b c (.slice (some ⟨T, 0, none⟩) 3 3)) 190 (0, 0)) ∧ a = .slice (some p) 0 k ∧ b = .slice (some q) 0 l ∧ c = .slice (some r) 0 m
  row : X.heap[T]? = some (.cells #[.string ⟨#[13]⟩, .string ⟨#[10]⟩, .string ⟨#[9]⟩] 9 (0, 0))
theorem whatwg_Text.Tab.below {G T : Nat} {X Y : World} (h : whatwg_Text.Tab G T X) (hb : Below X.heap.size X Y) : whatwg_Text.Tab G T Y := by
  obtain ⟨⟨a, b, c, p, q, r, k, l, m, ht, e⟩, hr⟩ := h
  exact ⟨⟨a, b, c, p, q, r, k, l, m, blk_below ht hb, e⟩, blk_below hr hb⟩
theorem whatwg_Text.Tab.set {G T N j : Nat} {X : World} (h : whatwg_Text.Tab G T X) (hg : G ≠ N) (ht : T ≠ N) (v : Value) : whatwg_Text.Tab G T (X.setCell ⟨N, j, none⟩ v) := by
  obtain ⟨⟨a, b, c, p, q, r, k, l, m, htb, e⟩, hr⟩ := h
  exact ⟨⟨a, b, c, p, q, r, k, l, m, blk_far htb (p := ⟨N, j, none⟩) hg v, e⟩, blk_far hr (p := ⟨N, j, none⟩) ht v⟩
/-- What stands in the table at a byte. -/
theorem whatwg_Text.Tab.at_ {G T : Nat} {X : World} (h : whatwg_Text.Tab G T X) (c : UInt8) : (whatwg_Text.drop1 c = true → ∃ p k, X.cell? ⟨G, c.toNat, none⟩ = some (.slice (some p) 0 k)) ∧ (whatwg_Text.drop1 c = false → X.cell? ⟨G, c.toNat, none⟩ = some (.slice none 0 0)) := by
  obtain ⟨⟨ta, tb, tc, p, q, r, k, l, m, ht, rfl, rfl, rfl⟩, _⟩ := h
  have hc := (blk_cell ht c.toNat).trans (whatwg_Text.tb_at _ _ _ _ c.toNat c.toNat_lt)
  unfold whatwg_Text.tv at hc
  have e : ∀ n : UInt8, c.toNat = n.toNat ↔ c = n := fun n => ⟨fun h => UInt8.toNat_inj.1 h, fun h => by rw [h]⟩
  have e9 := e 9
  have e10 := e 10
  have e13 := e 13
  simp only [show (9 : UInt8).toNat = 9 from rfl, show (10 : UInt8).toNat = 10 from rfl, show (13 : UInt8).toNat = 13 from rfl] at e9 e10 e13
  simp only [e9, e10, e13] at hc
  unfold whatwg_Text.drop1
  by_cases h9 : c = 9
  · rw [if_pos h9] at hc
    exact ⟨fun _ => ⟨_, _, hc⟩, fun h => absurd h (by simp [h9])⟩
  · rw [if_neg h9] at hc
    by_cases h10 : c = 10
    · rw [if_pos h10] at hc
      exact ⟨fun _ => ⟨_, _, hc⟩, fun h => absurd h (by simp [h10])⟩
    · rw [if_neg h10] at hc
      by_cases h13 : c = 13
      · rw [if_pos h13] at hc
        exact ⟨fun _ => ⟨_, _, hc⟩, fun h => absurd h (by simp [h13])⟩
      · rw [if_neg h13] at hc
        exact ⟨fun h => absurd h (by simp [h9, h10, h13]), fun _ => hc⟩
theorem whatwg_Text.Tab.list {G T : Nat} {X : World} (h : whatwg_Text.Tab G T X) : X.cell? ⟨G, 256, none⟩ = some (.slice (some ⟨T, 0, none⟩) 3 3) ∧ X.cell? ⟨T, 0, none⟩ = some (.string ⟨#[13]⟩) ∧ X.cell? ⟨T, 1, none⟩ = some (.string ⟨#[10]⟩) ∧ X.cell? ⟨T, 2, none⟩ = some (.string ⟨#[9]⟩) := by
  obtain ⟨⟨ta, tb, tc, p, q, r, k, l, m, ht, _⟩, hr⟩ := h
  exact ⟨(blk_cell ht 256).trans (whatwg_Text.tb_last _ _ _ _), (blk_cell hr 0).trans rfl, (blk_cell hr 1).trans rfl, (blk_cell hr 2).trans rfl⟩
/-- The new text's bytes, as far as they are written. -/
def whatwg_Text.rowC (l : List UInt8) (n : Nat) : Array Value := (l.map (fun b => Value.int .u8 (b.toNat : Int)) ++ List.replicate (n - l.length) (Value.int .u8 0)).toArray
theorem whatwg_Text.rowC_size (l : List UInt8) (n : Nat) (h : l.length ≤ n) : (whatwg_Text.rowC l n).size = n := by
  simp [whatwg_Text.rowC]
  omega
theorem whatwg_Text.rowC_put (l : List UInt8) (n : Nat) (h : l.length < n) (c : UInt8) : (whatwg_Text.rowC l n).setIfInBounds l.length (.int .u8 (c.toNat : Int)) = whatwg_Text.rowC (l ++ [c]) n := by
  unfold whatwg_Text.rowC
  rw [List.setIfInBounds_toArray]
  congr 1
  have e : l.length = (l.map (fun b => Value.int .u8 (b.toNat : Int))).length := by rw [List.length_map]
  have e2 : n - l.length = (n - (l ++ [c]).length) + 1 := by rw [List.length_append, List.length_singleton]; omega
  rw [e2, List.replicate_succ]
  conv => lhs; rw [e]
  rw [List.set_append_right _ _ (Nat.le_refl _), Nat.sub_self, List.set_cons_zero, List.map_append]
  simp
theorem whatwg_Text.rowC_at (l : List UInt8) (n : Nat) (j : Nat) (h : j < n) (hl : l.length ≤ n) : ∃ v, (whatwg_Text.rowC l n)[j]? = some v := by
  have : j < (whatwg_Text.rowC l n).size := by rw [whatwg_Text.rowC_size l n hl]; exact h
  exact ⟨_, Array.getElem?_eq_getElem this⟩
theorem whatwg_Text.rowC_byte (l : List UInt8) (j : Nat) (h : j < l.length) : (whatwg_Text.rowC l l.length)[j]? = some (.int .u8 ((l.map fun b => (b.toNat : Int)).getD j 0)) := by
  unfold whatwg_Text.rowC
  simp [List.getD_eq_getElem?_getD, h]
theorem whatwg_Text.made (Y : World) (n : Nat) (h : n ≤ 140737488351232) : (Instr.makeSlice 44 (.int .i64 (n : Int)) (.int .i64 (n : Int))).run Tryz.prog Y = .ok (.slice (some ⟨Y.heap.size, 0, none⟩) n n) (Y.alloc (.cells (whatwg_Text.rowC [] n) 5)) := by
  have h5 : (Tryz.prog.info? 5).map (fun i => (i.zero, i.size, i.bytes)) = some (some (.int .u8 0), 1, 1) := by kernel_rfl
  obtain ⟨i, hi, e⟩ := Option.map_eq_some_iff.1 h5
  simp only [Prod.mk.injEq] at e
  have := run_make (P := Tryz.prog) Y 44 5 i (.int .u8 0) Tryz.underlying44 hi e.1 .i64 .i64 n n (by omega) (by omega) (by rw [e.2.2]; omega) (by omega)
  rw [this, e.2.1]
  have e3 : madeCells (Value.int .u8 0).cells (n * 1) = whatwg_Text.rowC [] n := by
    unfold madeCells whatwg_Text.rowC
    apply Array.ext
    · simp
    · intro k h1 h2
      simp [Value.cells]
      rw [Nat.mod_one]
      rfl
  simp only [Int.toNat_natCast, e3]
theorem whatwg_Text.copied (W : World) (ty : TypeId) (d a : Option Addr) (x y z : Nat) : (Builtin.copy_ #[44, 44] ty #[.slice d x y, .slice a 0 z]).run Tryz.prog W = .ok (goInt 0) W :=
  run_copy_none W 44 44 ty 5 d a x y 0 z Tryz.underlying44 (by kernel_rfl) (by simp)
set_option maxRecDepth 100000 in
set_option maxHeartbeats 2000000 in
theorem whatwg_Text.repl (G T : Nat) (s : ByteArray) (X : World) (hs : s.size ≤ 140737488351232) (hT : whatwg_Text.Tab G T X) :
    Calls Tryz.prog 219 #[.pointer (some ⟨G, 0, none⟩), .string s] X fun e w' => e = .returned (.string ⟨(whatwg_Text.strip s.data.toList).toArray⟩) ∧ Below X.heap.size X w' := by
  have TB := Aside0.mk hT
  obtain ⟨g256, t0, t1, t2⟩ := hT.list
  clear hT
  have hneq := fun (w : World) (a : Option Addr) (l c : Nat) => run_neq_slice_nil (P := Tryz.prog) w 44 5 a l c Tryz.underlying44
  go_enter Tryz.func219, Tryz.ntmps219
  go_upto_if 26 with (fail)
  go_cut [5, 6] (fun s5 s6 wx => s5 = .int .i64 ((whatwg_Text.strip s.data.toList).length : Int) ∧ s6 = .bool (decide ((whatwg_Text.strip s.data.toList).length < s.size)) ∧ Aside0 (Below X.heap.size X wx))
  case first =>
    have hsc := whatwg_Text.strip_count s.data.toList
    have hle := whatwg_Text.strip_le s.data.toList
    rw [data_length] at hsc hle



    by_cases h24 : 24 ≤ s.size
    · have d24 : decide ((24 : Int) ≤ (s.size : Int)) = true := decide_eq_true (by omega)
      rw [d24]
      have hcnt := fun (c : UInt8) (w : World) => strings_Count.one s c w
      have HCNT := Aside0.mk hcnt
      have HSC := Aside0.mk hsc
      clear hcnt hsc
      go_wp2
      go_loopw [5, 6, 32] (fun s5 s6 s32 wr => ∃ (k : Nat) (D : Int), k ≤ 3 ∧ s32 = .int .i64 k ∧ s5 = .int .i64 ((s.size : Int) - D) ∧ s6 = .bool (decide (0 < D)) ∧ 0 ≤ D ∧ Aside0 (D = (if 1 ≤ k then Lib.countByte s.data.toList 13 else 0) + (if 2 ≤ k then Lib.countByte s.data.toList 10 else 0) + (if 3 ≤ k then Lib.countByte s.data.toList 9 else 0)) ∧ Aside0 (Below X.heap.size X wr)) (fun _ _ k _ => 3 - (intOf k).toNat)
      case atStart => exact ⟨0, 0, by omega, rfl, by go_num, rfl, by omega, ⟨rfl⟩, ⟨Below.refl _ _⟩⟩
      case round =>
        obtain ⟨k, D, hk, rfl, rfl, rfl, hD0, HD, HB⟩ := hrel
        rcases (show k = 0 ∨ k = 1 ∨ k = 2 ∨ k = 3 by omega) with rfl | rfl | rfl | rfl
        · have q := pw_cell_below HB.out t0
          obtain ⟨p, r, hp⟩ := ((TB.out.below HB.out).at_ 13).1 rfl
          have HP := Aside0.mk (show wr.cell? ⟨G, 13, none⟩ = some (.slice (some p) 0 r) from hp)
          have HC := Aside0.mk (HCNT.out 13 wr)
          have hD1 : D = 0 := by have h := HD.out; simp at h; omega
          have hco : D + Lib.countByte s.data.toList 13 ≤ s.size := by have := HSC.out; omega
          have hi13 : ((⟨#[13]⟩ : ByteArray)[0]'(by decide)).toNat = 13 := by decide
          have hD2 : Aside0 (D + Lib.countByte s.data.toList 13 = (if 1 ≤ 1 then Lib.countByte s.data.toList 13 else 0) + (if 2 ≤ 1 then Lib.countByte s.data.toList 10 else 0) + (if 3 ≤ 1 then Lib.countByte s.data.toList 9 else 0)) := ⟨by rw [hD1]; simp⟩
          clear hp HCNT HD HSC t0 t1 t2 g256 hle hD1
          revert HC hco hD2
          generalize Lib.countByte s.data.toList 13 = CO
          intro HC hco hD2
          by_cases hz : CO = 0
          · have hzb : (CO != 0) = false := by simp [hz]
            have HZ := Aside0.mk hz
            clear hz
            go_wp2_with (go_at_call 78; refine HC.out.mono ?_; rintro e w1 ⟨rfl, hb1⟩)
            go_roundw
            case rel => exact ⟨1, D, by omega, by go_num, rfl, rfl, hD0, ⟨by have h := hD2.out; have h2 := HZ.out; simp at h ⊢; omega⟩, ⟨below_step HB.out hb1⟩⟩
            case measure => simp [intOf]
          · have hzb : (CO != 0) = true := by simp [hz]
            have HZ := Aside0.mk hz
            clear hz
            go_wp2_with (go_at_call 78; refine HC.out.mono ?_; rintro e w1 ⟨rfl, hb1⟩; have hp1 := pw_cell_below hb1 HP.out)
            go_quiet (fail)
            go_wp2
            go_roundw
            case rel => exact ⟨1, D + CO, by omega, by go_num, by congr 1; omega, by rw [decide_eq_true (by have := HZ.out; omega)], by omega, hD2, ⟨by have h := below_step HB.out hb1; exact ⟨h.os, h.tape, h.output, h.size, h.block⟩⟩⟩
            case measure => simp [intOf]
        · have q := pw_cell_below HB.out t1
          obtain ⟨p, r, hp⟩ := ((TB.out.below HB.out).at_ 10).1 rfl
          have HP := Aside0.mk (show wr.cell? ⟨G, 10, none⟩ = some (.slice (some p) 0 r) from hp)
          have HC := Aside0.mk (HCNT.out 10 wr)
          have hD1 : D = Lib.countByte s.data.toList 13 := by have h := HD.out; simp at h; omega
          have hco : D + Lib.countByte s.data.toList 10 ≤ s.size := by have := HSC.out; omega
          have hi10 : ((⟨#[10]⟩ : ByteArray)[0]'(by decide)).toNat = 10 := by decide
          have hD2 : Aside0 (D + Lib.countByte s.data.toList 10 = (if 1 ≤ 2 then Lib.countByte s.data.toList 13 else 0) + (if 2 ≤ 2 then Lib.countByte s.data.toList 10 else 0) + (if 3 ≤ 2 then Lib.countByte s.data.toList 9 else 0)) := ⟨by rw [hD1]; simp⟩
          clear hp HCNT HD HSC t0 t1 t2 g256 hle hD1
          revert HC hco hD2
          generalize Lib.countByte s.data.toList 10 = CO
          intro HC hco hD2
          by_cases hz : CO = 0
          · have hzb : (CO != 0) = false := by simp [hz]
            have HZ := Aside0.mk hz
            clear hz
            go_wp2_with (go_at_call 78; refine HC.out.mono ?_; rintro e w1 ⟨rfl, hb1⟩)
            go_roundw
            case rel => exact ⟨2, D, by omega, by go_num, rfl, rfl, hD0, ⟨by have h := hD2.out; have h2 := HZ.out; simp at h ⊢; omega⟩, ⟨below_step HB.out hb1⟩⟩
            case measure => simp [intOf]
          · have hzb : (CO != 0) = true := by simp [hz]
            have HZ := Aside0.mk hz
            clear hz
            go_wp2_with (go_at_call 78; refine HC.out.mono ?_; rintro e w1 ⟨rfl, hb1⟩; have hp1 := pw_cell_below hb1 HP.out)
            go_quiet (fail)
            go_wp2
            go_roundw
            case rel => exact ⟨2, D + CO, by omega, by go_num, by congr 1; omega, by rw [decide_eq_true (by have := HZ.out; omega)], by omega, hD2, ⟨by have h := below_step HB.out hb1; exact ⟨h.os, h.tape, h.output, h.size, h.block⟩⟩⟩
            case measure => simp [intOf]
        · have q := pw_cell_below HB.out t2
          obtain ⟨p, r, hp⟩ := ((TB.out.below HB.out).at_ 9).1 rfl
          have HP := Aside0.mk (show wr.cell? ⟨G, 9, none⟩ = some (.slice (some p) 0 r) from hp)
          have HC := Aside0.mk (HCNT.out 9 wr)
          have hD1 : D = Lib.countByte s.data.toList 13 + Lib.countByte s.data.toList 10 := by have h := HD.out; simp at h; omega
          have hco : D + Lib.countByte s.data.toList 9 ≤ s.size := by have := HSC.out; omega
          have hi9 : ((⟨#[9]⟩ : ByteArray)[0]'(by decide)).toNat = 9 := by decide
          have hD2 : Aside0 (D + Lib.countByte s.data.toList 9 = (if 1 ≤ 3 then Lib.countByte s.data.toList 13 else 0) + (if 2 ≤ 3 then Lib.countByte s.data.toList 10 else 0) + (if 3 ≤ 3 then Lib.countByte s.data.toList 9 else 0)) := ⟨by rw [hD1]; simp⟩
          clear hp HCNT HD HSC t0 t1 t2 g256 hle hD1
          revert HC hco hD2
          generalize Lib.countByte s.data.toList 9 = CO
          intro HC hco hD2
          by_cases hz : CO = 0
          · have hzb : (CO != 0) = false := by simp [hz]
            have HZ := Aside0.mk hz
            clear hz
            go_wp2_with (go_at_call 78; refine HC.out.mono ?_; rintro e w1 ⟨rfl, hb1⟩)
            go_roundw
            case rel => exact ⟨3, D, by omega, by go_num, rfl, rfl, hD0, ⟨by have h := hD2.out; have h2 := HZ.out; simp at h ⊢; omega⟩, ⟨below_step HB.out hb1⟩⟩
            case measure => simp [intOf]
          · have hzb : (CO != 0) = true := by simp [hz]
            have HZ := Aside0.mk hz
            clear hz
            go_wp2_with (go_at_call 78; refine HC.out.mono ?_; rintro e w1 ⟨rfl, hb1⟩; have hp1 := pw_cell_below hb1 HP.out)
            go_quiet (fail)
            go_wp2
            go_roundw
            case rel => exact ⟨3, D + CO, by omega, by go_num, by congr 1; omega, by rw [decide_eq_true (by have := HZ.out; omega)], by omega, hD2, ⟨by have h := below_step HB.out hb1; exact ⟨h.os, h.tape, h.output, h.size, h.block⟩⟩⟩
            case measure => simp [intOf]
        · have hD1 := HD.out
          have hk : D = (s.size : Int) - (whatwg_Text.strip s.data.toList).length := by have := HSC.out; simp at hD1; omega
          have HK := Aside0.mk hk
          clear hD1 hk HSC HCNT hle t0 t1 t2 g256
          go_wp2
          go_meet
          exact ⟨by congr 1; have := HK.out; omega, by congr 1; exact decide_eq_decide.2 (by have := HK.out; omega), HB⟩
    · have d24 : decide ((24 : Int) ≤ (s.size : Int)) = false := decide_eq_false (by omega)
      clear hsc hle t0 t1 t2
      go_wp2
      clear g256
      go_loop [5, 6, 10] (fun s5 s6 s10 => ∃ i k : Nat, i ≤ s.size ∧ s10 = .int .i64 i ∧ s5 = .int .i64 ((s.size : Int) - ((i : Int) - (k : Int))) ∧ s6 = .bool (decide (k < i)) ∧ k ≤ i ∧ Aside0 ((whatwg_Text.strip (s.data.toList.take i)).length = k)) (fun _ _ i => s.size - (intOf i).toNat)
      case atStart => exact ⟨0, 0, by omega, rfl, by go_num, rfl, by omega, ⟨rfl⟩⟩
      case round =>
        obtain ⟨i, k, hi, rfl, rfl, rfl, hki, hk⟩ := hrel
        by_cases hlt : i < s.size
        · have hdl : decide (i < s.size) = true := decide_eq_true hlt
          have hlt2 : i < s.data.toList.length := by rw [data_length]; exact hlt
          have hk2 : Aside0 ((whatwg_Text.strip (s.data.toList.take (i + 1))).length = k + (if whatwg_Text.drop1 (s[i]'hlt) = true then 0 else 1)) := ⟨by
            rw [List.take_succ_eq_append_getElem hlt2, whatwg_Text.strip_snoc, List.length_append, hk.out]
            show k + _ = _
            have e : s.data.toList[i]'hlt2 = s[i]'hlt := rfl
            rw [e]
            split <;> rfl⟩
          have hat := TB.out.at_ (s[i]'hlt)
          have hx := bt_at s (i : Int)
          obtain ⟨N, hN⟩ : ∃ N : Int, (s.size : Int) - ((i : Int) - (k : Int)) = N := ⟨_, rfl⟩
          rw [hN]
          have hN0 : 0 ≤ N := by omega
          have hN1 : N ≤ 140737488351232 := by omega
          have HN := Aside0.mk hN
          clear hN hk
          by_cases hd : whatwg_Text.drop1 (s[i]'hlt) = true
          · obtain ⟨p, q, hc⟩ := hat.1 hd
            have HK := Aside0.mk (hk2.out.trans (by rw [if_pos hd]))
            have hlt3 := (s[i]'hlt).toNat_lt
            clear hat hk2 hd hx
            go_wp2
            refine ⟨⟨i + 1, k, by omega, by go_num, ?_, ?_, by omega, ⟨HK.out⟩⟩, by simp [intOf]; omega⟩
            · congr 1; have := HN.out; omega
            · rw [decide_eq_true (by omega)]
          · have hc := hat.2 (Bool.eq_false_iff.2 hd)
            have HK := Aside0.mk (hk2.out.trans (by rw [if_neg hd]))
            have hlt3 := (s[i]'hlt).toNat_lt
            clear hat hk2 hd hx
            go_wp2
            refine ⟨⟨i + 1, k + 1, by omega, by go_num, ?_, ?_, by omega, ⟨HK.out⟩⟩, by simp [intOf]; omega⟩
            · congr 1; have := HN.out; omega
            · congr 1; exact decide_eq_decide.2 (by omega)
        · have hdl : decide (i < s.size) = false := decide_eq_false hlt
          have hkk : k = (whatwg_Text.strip s.data.toList).length := by
            rw [← hk.out, List.take_of_length_le (by rw [data_length]; omega)]
          have HK := Aside0.mk hkk
          clear hk hkk
          go_wp2
          go_meet
          exact ⟨by rw [← HK.out]; go_num, by rw [← HK.out]; simp; omega, ⟨Below.refl _ _⟩⟩
  case rest =>
    obtain ⟨rfl, rfl, hB⟩ := hcut
    have TC := Aside0.mk (TB.out.below hB.out)
    have hle := whatwg_Text.strip_le s.data.toList
    rw [data_length] at hle
    clear g256 t0 t1 t2 TB
    by_cases hany : (whatwg_Text.strip s.data.toList).length < s.size
    · have hd : decide ((whatwg_Text.strip s.data.toList).length < s.size) = true := decide_eq_true hany
      rw [hd]
      have hmk := whatwg_Text.made wc (whatwg_Text.strip s.data.toList).length (by omega)
      have hrow := blk_new wc (.cells (whatwg_Text.rowC [] (whatwg_Text.strip s.data.toList).length) 5)
      have hbel := below_alloc hB.out (.cells (whatwg_Text.rowC [] (whatwg_Text.strip s.data.toList).length) 5)
      have htab := TC.out.below (below_alloc (Below.refl wc.heap.size wc) (.cells (whatwg_Text.rowC [] (whatwg_Text.strip s.data.toList).length) 5))
      have hNX : X.heap.size ≤ wc.heap.size := hB.out.size
      obtain ⟨n, hn⟩ : ∃ n, (whatwg_Text.strip s.data.toList).length = n := ⟨_, rfl⟩
      rw [hn] at hmk hrow hbel htab hany
      rw [hn]
      have HN := Aside0.mk hn
      clear hn hd hle
      obtain ⟨Y, hY⟩ : ∃ Y, wc.alloc (.cells (whatwg_Text.rowC [] n) 5) = Y := ⟨_, rfl⟩
      obtain ⟨N, hN⟩ : ∃ N, wc.heap.size = N := ⟨_, rfl⟩
      rw [hY] at hmk hrow hbel htab
      rw [hN] at hmk hrow hNX
      have HR := Aside0.mk hrow
      have HL := Aside0.mk hbel
      have HT := Aside0.mk htab
      have HNX := Aside0.mk hNX
      have HGN := Aside0.mk (show G ≠ N ∧ T ≠ N by
        obtain ⟨⟨_, _, _, _, _, _, _, _, _, h1, _⟩, h2⟩ := TC.out
        have := blk_lt h1
        have := blk_lt h2
        omega)
      clear hrow hbel htab hB TC hN hNX hY
      go_wp2
      go_loopw [13, 14] (fun s13 s14 wr => ∃ i k : Nat, i ≤ s.size ∧ k ≤ n ∧ s14 = .int .i64 i ∧ s13 = .int .i64 k ∧ Aside0 ((whatwg_Text.strip (s.data.toList.take i)).length = k) ∧ Aside0 (wr.heap[N]? = some (.cells (whatwg_Text.rowC (whatwg_Text.strip (s.data.toList.take i)) n) 5 (0, 0))) ∧ Aside0 (Below X.heap.size X wr) ∧ Aside0 (whatwg_Text.Tab G T wr)) (fun _ i _ => s.size - (intOf i).toNat)
      case atStart => exact ⟨0, 0, by omega, by omega, rfl, rfl, ⟨rfl⟩, HR, HL, HT⟩
      case round =>
        clear hmk HR HL HT
        obtain ⟨i, k, hi, hkn, rfl, rfl, hk, hrow, hbel, htab⟩ := hrel
        by_cases hlt : i < s.size
        · have hdl : decide (i < s.size) = true := decide_eq_true hlt
          have hlt2 : i < s.data.toList.length := by rw [data_length]; exact hlt
          have hsn : whatwg_Text.strip (s.data.toList.take (i + 1)) = whatwg_Text.strip (s.data.toList.take i) ++ (if whatwg_Text.drop1 (s[i]'hlt) = true then [] else [s[i]'hlt]) := by
            rw [List.take_succ_eq_append_getElem hlt2, whatwg_Text.strip_snoc]
            rfl
          have hle2 : (whatwg_Text.strip (s.data.toList.take (i + 1))).length ≤ n := by
            have h1 : s.data.toList = s.data.toList.take (i + 1) ++ s.data.toList.drop (i + 1) := (List.take_append_drop _ _).symm
            have h2 := HN.out
            unfold whatwg_Text.strip at *
            rw [h1, List.filter_append, List.length_append] at h2
            omega
          have hat := htab.out.at_ (s[i]'hlt)
          have hlt3 := (s[i]'hlt).toNat_lt
          have HSN := Aside0.mk hsn
          have HLE := Aside0.mk hle2
          clear hsn hle2 hlt2
          by_cases hd : whatwg_Text.drop1 (s[i]'hlt) = true
          · obtain ⟨p, q, hc⟩ := hat.1 hd
            have hsame := Aside0.mk (HSN.out.trans (by rw [if_pos hd, List.append_nil]))
            obtain ⟨A, hA⟩ : ∃ A : Option Addr, (if n = k then some (⟨N, 0, none⟩ : Addr) else some ((⟨N, 0, none⟩ : Addr).add (k * 1))) = A := ⟨_, rfl⟩
            have hcp := whatwg_Text.copied
            have hsl : ∀ W : World, (Instr.slice 44 (.slice (some ⟨N, 0, none⟩) n n) (some (.int .i64 (k : Int))) none none).run Tryz.prog W = .ok (.slice A (n - k) (n - k)) W := fun W => by
              have e := run_slice_l (P := Tryz.prog) (w := W) (t := 44) (a := some ⟨N, 0, none⟩) (len := n) (cap := n) (by kernel_rfl) .i64 (k : Int) (by omega) (by omega)
              rw [e, ← hA]
              have hz : (sizeOf (Tryz.prog.elem 44)).run Tryz.prog W = .ok 1 W := by go_simp
              rw [hz]
              simp only [Result.andThen, sliced, Int.toNat_natCast]
              congr 3
            clear hat hd HSN HLE hA
            go_wp2
            go_region_with (fail)
            all_goals
              go_wp2
              refine ⟨⟨i + 1, k, by omega, hkn, by go_num, by go_num, ⟨by rw [hsame.out]; exact hk.out⟩, ⟨?_⟩, ⟨⟨hbel.out.os, hbel.out.tape, hbel.out.output, hbel.out.size, hbel.out.block⟩⟩, ⟨⟨htab.out.tab, htab.out.row⟩⟩⟩, by simp [intOf]; omega⟩
              rw [hsame.out]
              exact hrow.out
          · have hc := hat.2 (Bool.eq_false_iff.2 hd)
            have hcons := Aside0.mk (HSN.out.trans (by rw [if_neg hd]))
            have hkl : k < n := by have h1 := HLE.out; rw [hcons.out, List.length_append, hk.out] at h1; simp at h1; omega
            have hz : wr.cell? ⟨N, k, none⟩ = _ := (blk_cell hrow.out k)
            have hf := blk_frozen hrow.out k
            obtain ⟨v, hv⟩ := whatwg_Text.rowC_at (whatwg_Text.strip (s.data.toList.take i)) n k hkl (by rw [hk.out]; exact hkn)
            rw [hv] at hz
            clear hat hd HSN HLE hv
            go_wp2
            refine ⟨⟨i + 1, k + 1, by omega, by omega, by go_num, by go_num, ⟨?_⟩, ⟨?_⟩, ⟨hbel.out.setCell (p := ⟨N, k, none⟩) HNX.out _⟩, ⟨htab.out.set HGN.out.1 HGN.out.2 _⟩⟩, by simp [intOf]; omega⟩
            · rw [hcons.out, List.length_append, hk.out]; rfl
            · refine blk_put hrow.out k _ ?_
              rw [hcons.out, ← whatwg_Text.rowC_put _ _ (by rw [hk.out]; exact hkl), hk.out]
        · have hdl : decide (i < s.size) = false := decide_eq_false hlt
          have hall : s.data.toList.take i = s.data.toList := List.take_of_length_le (by rw [data_length]; omega)
          have hlen := HN.out
          rw [hall] at hk hrow
          have hcv := fun (W : World) (hc : ∀ j, j < n → W.cell? ⟨N, 0 + j, none⟩ = some (.int .u8 (((whatwg_Text.strip s.data.toList).map fun b => (b.toNat : Int)).getD j 0))) => run_convert_bytes_arg (P := Tryz.prog) W 44 5 Tryz.underlying44 Tryz.underlying5 N 0 n n ((whatwg_Text.strip s.data.toList).map fun b => (b.toNat : Int)) (by rw [List.length_map]; exact hlen) hc 9 Tryz.underlying9
          have hcv2 := hcv wr (fun j hj => by
            rw [Nat.zero_add, blk_cell hrow.out j, ← hlen]
            exact whatwg_Text.rowC_byte _ _ (by rw [hlen]; exact hj))
          have hst : strOfNums ((whatwg_Text.strip s.data.toList).map fun b => (b.toNat : Int)) = ⟨(whatwg_Text.strip s.data.toList).toArray⟩ := by
            unfold strOfNums
            simp [List.map_map, Function.comp_def]
          rw [hst] at hcv2
          obtain ⟨R, hR⟩ : ∃ R : ByteArray, ⟨(whatwg_Text.strip s.data.toList).toArray⟩ = R := ⟨_, rfl⟩
          rw [hR] at hcv2
          have HR := Aside0.mk hR
          clear hcv hst hR hall hlen hk hrow htab
          go_wp2
          go_ret
          refine ⟨?_, hbel.out⟩
          rw [← HR.out]
          rfl
    · have hd : decide ((whatwg_Text.strip s.data.toList).length < s.size) = false := decide_eq_false hany
      rw [hd]
      have e := Aside0.mk (whatwg_Text.strip_same (l := s.data.toList) (by rw [data_length]; omega))
      clear hle hany hd
      go_wp2
      go_ret
      refine ⟨?_, hB.out⟩
      rw [e.out]
      rfl


/-- A replacer, not yet made. -/
structure whatwg_Text.Fresh (n B : Nat) (W X : World) : Prop where
  below : Below n W X
  hB : n ≤ B
  there : ∃ O cap, O ≠ B ∧ X.heap[B]? = some (.cells #[.int .u32 0, .int .i32 0, .int .u32 0, .nilIface, .slice (some ⟨O, 0, none⟩) 6 cap] 146 (0, 0)) ∧ O < X.heap.size ∧
    X.cell? ⟨O, 0, none⟩ = some (.string ⟨#[9]⟩) ∧ X.cell? ⟨O, 1, none⟩ = some (.string ⟨#[]⟩) ∧ X.cell? ⟨O, 2, none⟩ = some (.string ⟨#[10]⟩) ∧ X.cell? ⟨O, 3, none⟩ = some (.string ⟨#[]⟩) ∧ X.cell? ⟨O, 4, none⟩ = some (.string ⟨#[13]⟩) ∧ X.cell? ⟨O, 5, none⟩ = some (.string ⟨#[]⟩)
def whatwg_Text.six : List Value := [.string ⟨#[9]⟩, .string ⟨#[]⟩, .string ⟨#[10]⟩, .string ⟨#[]⟩, .string ⟨#[13]⟩, .string ⟨#[]⟩]
set_option maxRecDepth 100000 in
set_option maxHeartbeats 4000000 in
theorem whatwg_Text.made_ (n Q c : Nat) (W : World) (hn : n ≤ W.heap.size) (hq : ∀ j u, whatwg_Text.six[j]? = some u → W.cell? ⟨Q, j, none⟩ = some u) :
    Calls Tryz.prog 58 #[.slice (some ⟨Q, 0, none⟩) 6 c] W fun e w' => ∃ B, e = .returned (.pointer (some ⟨B, 0, none⟩)) ∧ Aside0 (whatwg_Text.Fresh n B W w') := by
  have q0 := hq 0 _ rfl
  have q1 := hq 1 _ rfl
  have q2 := hq 2 _ rfl
  have q3 := hq 3 _ rfl
  have q4 := hq 4 _ rfl
  have q5 := hq 5 _ rfl
  clear hq
  go_enter Tryz.func58, Tryz.ntmps58
  go_wp2
  go_ret
  generalize (Question.appendCap 6 0 9).cut (W.tape W.drawn (Question.appendCap 6 0 9)) = cp
  have hsz : (W.alloc (.cells (#[.string ⟨#[9]⟩, .string ⟨#[]⟩, .string ⟨#[10]⟩, .string ⟨#[]⟩, .string ⟨#[13]⟩, .string ⟨#[]⟩] ++ Builtin.zeroCells #[.string ⟨#[]⟩] (cp - 6)) 9)).heap.size = W.heap.size + 1 := by simp
  have hb := blk_new (W.alloc (.cells (#[.string ⟨#[9]⟩, .string ⟨#[]⟩, .string ⟨#[10]⟩, .string ⟨#[]⟩, .string ⟨#[13]⟩, .string ⟨#[]⟩] ++ Builtin.zeroCells #[.string ⟨#[]⟩] (cp - 6)) 9)) (.cells #[.int .u32 0, .int .i32 0, .int .u32 0, .nilIface, .slice (some ⟨W.heap.size, 0, none⟩) 6 cp] 146)
  rw [hsz] at hb
  have ho := blk_alloc (blk_new W (.cells (#[.string ⟨#[9]⟩, .string ⟨#[]⟩, .string ⟨#[10]⟩, .string ⟨#[]⟩, .string ⟨#[13]⟩, .string ⟨#[]⟩] ++ Builtin.zeroCells #[.string ⟨#[]⟩] (cp - 6)) 9)) (.cells #[.int .u32 0, .int .i32 0, .int .u32 0, .nilIface, .slice (some ⟨W.heap.size, 0, none⟩) 6 cp] 146)
  refine ⟨W.heap.size + 1, rfl, ⟨⟨?_, by omega, W.heap.size, cp, by omega, blk_drew hb, ?_, ?_, ?_, ?_, ?_, ?_, ?_⟩⟩⟩
  · exact below_drew (((Below.refl n W).alloc hn _).alloc (by rw [hsz]; omega) _)
  · exact blk_lt (blk_drew ho)
  all_goals
    rw [World.cell?_drew, blk_cell ho]
    exact (Array.getElem?_append_left (by simp)).trans rfl
theorem whatwg_Text.meth (a : Addr) (w : World) : (method 350 191 (.pointer (some a)) "Replace").run Tryz.prog w = .ok (219, .pointer (some a)) w := by kernel_rfl
set_option maxRecDepth 100000 in
set_option maxHeartbeats 4000000 in
theorem whatwg_Text.replace (n B : Nat) (s : ByteArray) (W0 W : World) (hs : s.size ≤ 140737488351232) (hF : whatwg_Text.Fresh n B W0 W) :
    Calls Tryz.prog 59 #[.pointer (some ⟨B, 0, none⟩), .string s] W fun e w' => e = .returned (.string ⟨(whatwg_Text.strip s.data.toList).toArray⟩) ∧ Aside0 (Below n W w') := by
  obtain ⟨hb, hnB, O, cap, hOB, hrow, hO, h0, h1, h2, h3, h4, h5⟩ := hF
  have DO := Aside0.mk (whatwg_Text.do_ n B O cap .nilIface W hnB (Nat.le_trans hnB (Nat.le_of_lt (blk_lt hrow))) hO hOB (blk_lt hrow) ((blk_cell hrow 0).trans rfl) ((blk_cell hrow 1).trans rfl) ((blk_cell hrow 3).trans rfl) ((blk_cell hrow 4).trans rfl) (blk_frozen hrow 0) (blk_frozen hrow 1) (blk_frozen hrow 3) (blk_frozen hrow 4) h0 h1 h2 h3 h4 h5)
  have HN1 := Aside0.mk (Nat.le_trans hnB (Nat.le_of_lt (blk_lt hrow)))
  have hmf : ∀ (fn : Fn) (first cap : Array Value) (w : World), (Instr.makeFunc fn first cap).run Tryz.prog w = .ok (.func fn first cap) w := fun _ _ _ _ => rfl
  clear hb hrow h0 h1 h2 h3 h4 h5
  go_enter Tryz.func59, Tryz.ntmps59
  have hme := whatwg_Text.meth
  go_wp2_with (first | (go_at_call 99; refine DO.out.mono ?_; rintro e w1 ⟨G, rfl, hD⟩; have hc3 := hD.out.iface) | (go_at_call 219; obtain ⟨hbel, _, T, a, b, c, p, q, r, k, l, m, htab, ha, hb2, hc, hrow⟩ := hD.out; have HBel := Aside0.mk hbel; refine (whatwg_Text.repl G T s w1 hs ⟨⟨a, b, c, p, q, r, k, l, m, htab, ha, hb2, hc⟩, hrow⟩).mono ?_; clear hbel htab ha hb2 hc hrow; rintro e w2 ⟨rfl, hb3⟩))
  go_ret
  exact ⟨rfl, ⟨HBel.out.trans ⟨hb3.os, hb3.tape, hb3.output, hb3.size, fun i hi => hb3.block i (Nat.lt_of_lt_of_le hi (Nat.le_trans HN1.out HBel.out.size))⟩⟩⟩
def whatwg_Text.blank (c : UInt8) : Bool := decide (c.toNat ≤ 32)
/-- Without the bytes of at most 0x20 ahead, and behind. -/
def whatwg_Text.left (l : List UInt8) : List UInt8 := l.dropWhile whatwg_Text.blank
def whatwg_Text.right (l : List UInt8) : List UInt8 := (l.reverse.dropWhile whatwg_Text.blank).reverse
def whatwg_Text.textL (l : List UInt8) : List UInt8 := whatwg_Text.strip (whatwg_Text.right (whatwg_Text.left l))
def whatwg_Text.f (a0 : ByteArray) : Option ByteArray := if a0.size ≤ 140737488351232 then some ⟨(whatwg_Text.textL a0.data.toList).toArray⟩ else none
theorem whatwg_Text.cases (t : ByteArray) : t.data.toList = [] ∨ ∃ c l, t.data.toList = c :: l := by
  cases h : t.data.toList with
  | nil => exact .inl rfl
  | cons c l => exact .inr ⟨c, l, rfl⟩
theorem whatwg_Text.snoc_cases (t : ByteArray) : t.data.toList = [] ∨ ∃ l c, t.data.toList = l ++ [c] := by
  rcases List.eq_nil_or_concat t.data.toList with h | ⟨l, c, h⟩
  · exact .inl h
  · exact .inr ⟨l, c, by rw [h, List.concat_eq_append]⟩
theorem whatwg_Text.left_cons {c : UInt8} {l : List UInt8} (h : c.toNat ≤ 32) : whatwg_Text.left (c :: l) = whatwg_Text.left l := by
  unfold whatwg_Text.left
  rw [List.dropWhile_cons, if_pos (by unfold whatwg_Text.blank; exact decide_eq_true h)]
theorem whatwg_Text.left_stop {c : UInt8} {l : List UInt8} (h : ¬ c.toNat ≤ 32) : whatwg_Text.left (c :: l) = c :: l := by
  unfold whatwg_Text.left
  rw [List.dropWhile_cons, if_neg (by unfold whatwg_Text.blank; simpa using h)]
theorem whatwg_Text.right_snoc {c : UInt8} {l : List UInt8} (h : c.toNat ≤ 32) : whatwg_Text.right (l ++ [c]) = whatwg_Text.right l := by
  unfold whatwg_Text.right
  rw [List.reverse_append, List.reverse_singleton, List.singleton_append, List.dropWhile_cons, if_pos (by unfold whatwg_Text.blank; exact decide_eq_true h)]
theorem whatwg_Text.right_stop {c : UInt8} {l : List UInt8} (h : ¬ c.toNat ≤ 32) : whatwg_Text.right (l ++ [c]) = l ++ [c] := by
  unfold whatwg_Text.right
  rw [List.reverse_append, List.reverse_singleton, List.singleton_append, List.dropWhile_cons, if_neg (by unfold whatwg_Text.blank; simpa using h)]
  simp
/-- What is behind the two loops. -/
theorem whatwg_Text.tailq (B : Nat) (s : ByteArray) (w W : World) (hs : s.size ≤ 140737488351232) (hF : whatwg_Text.Fresh w.heap.size B w W) :
    Calls Tryz.prog 59 #[.pointer (some ⟨B, 0, none⟩), .string s] W fun e w' => e = .returned (.string ⟨(whatwg_Text.strip s.data.toList).toArray⟩) ∧ Aside0 (Below w.heap.size W w') := whatwg_Text.replace w.heap.size B s w W hs hF
set_option maxRecDepth 100000 in
set_option maxHeartbeats 2000000 in
theorem whatwg_Text.any (a0 : ByteArray) (w : World) (h0 : a0.size ≤ 140737488351232) :
    Calls Tryz.prog 20 #[.string a0] w fun e w' => e = .returned (.string ⟨(whatwg_Text.textL a0.data.toList).toArray⟩) ∧ Below w.heap.size w w' := by
  go_enter Tryz.func20, Tryz.ntmps20
  go_wp2
  go_loopg [0] a0.size (fun gk s0 wr => ∃ t : ByteArray, s0 = .string t ∧ t.size ≤ gk ∧ gk ≤ a0.size ∧ Aside0 (whatwg_Text.left t.data.toList = whatwg_Text.left a0.data.toList) ∧ wr = w)
  case atStart => exact ⟨a0, rfl, Nat.le_refl _, Nat.le_refl _, ⟨rfl⟩, rfl⟩
  case round =>
    obtain ⟨t, rfl, ht, hg, hL, rfl⟩ := hrel
    by_cases hb : ∃ c l, t.data.toList = c :: l ∧ c.toNat ≤ 32
    · obtain ⟨c, l, hcl, hb⟩ := hb
      have hsz : 0 < t.size := by rw [← data_length, hcl]; simp
      have e1 : ¬ t.toList = [] := by rw [Lib.toList_data, hcl]; simp
      have e2 : (!t.toList.isEmpty) = true := by rw [Lib.toList_data, hcl]; rfl
      have hx : ∀ h : 0 < t.size, (t[0]'h).toNat = c.toNat := fun h => by
        have : t.data.toList[0]'(by rw [data_length]; exact h) = c := by simp [hcl]
        exact congrArg UInt8.toNat this
      have hd : decide ((c.toNat : Int) ≤ 32) = true := decide_eq_true (by omega)
      have HCL := Aside0.mk hcl
      have hgk : gk ≠ 0 := by omega
      obtain ⟨g, rfl⟩ : ∃ g, gk = g + 1 := ⟨gk - 1, by omega⟩
      clear hcl hgk
      go_wp2
      have hx1 : (t.extract 1 t.size).data.toList = l := by rw [Lib.extract_data, HCL.out]; simp; rw [List.take_of_length_le]; rw [← data_length, HCL.out]; simp
      have hz1 : (t.extract 1 t.size).size = l.length := by rw [← data_length, hx1]
      have hz2 : t.size = l.length + 1 := by rw [← data_length, HCL.out]; simp
      go_roundg g
      case measure => omega
      case rel => exact ⟨_, rfl, by omega, by omega, ⟨by rw [hx1, ← hL.out, HCL.out, whatwg_Text.left_cons hb]⟩, rfl⟩
    · have hT : Aside0 (t.data.toList = whatwg_Text.left a0.data.toList) := ⟨by
        rw [← hL.out]
        rcases whatwg_Text.cases t with he | ⟨c, l, hcl⟩
        · rw [he]; rfl
        · rw [hcl, whatwg_Text.left_stop (fun h => hb ⟨c, l, hcl, h⟩)]⟩
      have htz : t.size ≤ a0.size := by omega
      have hcase : t.toList = [] ∨ ∃ c : UInt8, ¬ c.toNat ≤ 32 ∧ 0 < t.size ∧ (¬ t.toList = []) ∧ (!t.toList.isEmpty) = true ∧ ∀ h : 0 < t.size, (t[0]'h).toNat = c.toNat := by
        rcases whatwg_Text.cases t with he | ⟨c, l, hcl⟩
        · exact .inl (by rw [Lib.toList_data]; exact he)
        · refine .inr ⟨c, fun h => hb ⟨c, l, hcl, h⟩, by rw [← data_length, hcl]; simp, by rw [Lib.toList_data, hcl]; simp, by rw [Lib.toList_data, hcl]; rfl, fun h => ?_⟩
          have : t.data.toList[0]'(by rw [data_length]; exact h) = c := by simp [hcl]
          exact congrArg UInt8.toNat this
      clear hb hL ht hg
      rcases hcase with e1 | ⟨c, hc, hsz, e1, e2, hx⟩
      · have e2 : (!t.toList.isEmpty) = false := by rw [e1]; rfl
        go_wp2
        clear e1 e2
        go_loopg [0] t.size (fun gk s0 wr2 => ∃ u : ByteArray, s0 = .string u ∧ u.size ≤ gk ∧ gk ≤ t.size ∧ Aside0 (whatwg_Text.right u.data.toList = whatwg_Text.right t.data.toList) ∧ wr2 = wr)
        case atStart => exact ⟨t, rfl, Nat.le_refl _, Nat.le_refl _, ⟨rfl⟩, rfl⟩
        case round =>
          obtain ⟨u, rfl, hu, hgt, hR, rfl⟩ := hrel
          by_cases hb : ∃ l c, u.data.toList = l ++ [c] ∧ c.toNat ≤ 32
          · obtain ⟨l, c, hcl, hb⟩ := hb
            have hm : u.size = l.length + 1 := by rw [← data_length, hcl]; simp
            have e1 : ¬ u.toList = [] := by rw [Lib.toList_data, hcl]; simp
            have e2 : (!u.toList.isEmpty) = true := by rw [Lib.toList_data, hcl]; simp
            have hx : ∀ h : l.length < u.size, (u[l.length]'h).toNat = c.toNat := fun h => by
              have : u.data.toList[l.length]'(by rw [data_length]; exact h) = c := by simp [hcl]
              exact congrArg UInt8.toNat this
            have hm1 : (u.size : Int) - 1 = (l.length : Int) := by omega
            have hlt : l.length < u.size := by omega
            have hd : decide ((c.toNat : Int) ≤ 32) = true := decide_eq_true (by omega)
            have HCL := Aside0.mk hcl
            have HM := Aside0.mk hm
            have hgk : gk ≠ 0 := by omega
            obtain ⟨g, rfl⟩ : ∃ g, gk = g + 1 := ⟨gk - 1, by omega⟩
            clear hcl hgk hm
            go_wp2
            have hx1 : (u.extract 0 l.length).data.toList = l := by rw [Lib.extract_data, HCL.out]; simp
            have hz1 : (u.extract 0 l.length).size = l.length := by rw [← data_length, hx1]
            have hz2 := HM.out
            go_roundg g
            case measure => omega
            case rel => exact ⟨_, rfl, by omega, by omega, ⟨by rw [hx1, ← hR.out, HCL.out, whatwg_Text.right_snoc hb]⟩, rfl⟩
          · have hU : Aside0 (u.data.toList = whatwg_Text.right (whatwg_Text.left a0.data.toList)) := ⟨by
              rw [← hT.out, ← hR.out]
              rcases whatwg_Text.snoc_cases u with he | ⟨l, c, hcl⟩
              · rw [he]; rfl
              · rw [hcl, whatwg_Text.right_stop (fun h => hb ⟨l, c, hcl, h⟩)]⟩
            have huz : u.size ≤ 140737488351232 := by omega
            have hcase : u.toList = [] ∨ ∃ (c : UInt8) (m : Nat), ¬ c.toNat ≤ 32 ∧ m < u.size ∧ (u.size : Int) - 1 = (m : Int) ∧ (¬ u.toList = []) ∧ (!u.toList.isEmpty) = true ∧ ∀ h : m < u.size, (u[m]'h).toNat = c.toNat := by
              rcases whatwg_Text.snoc_cases u with he | ⟨l, c, hcl⟩
              · exact .inl (by rw [Lib.toList_data]; exact he)
              · have hm : u.size = l.length + 1 := by rw [← data_length, hcl]; simp
                refine .inr ⟨c, l.length, fun h => hb ⟨l, c, hcl, h⟩, by omega, by omega, by rw [Lib.toList_data, hcl]; simp, by rw [Lib.toList_data, hcl]; simp, fun h => ?_⟩
                have : u.data.toList[l.length]'(by rw [data_length]; exact h) = c := by simp [hcl]
                exact congrArg UInt8.toNat this
            clear hb hR hu hgt hT
            have hq : ∀ j v, whatwg_Text.six[j]? = some v → (wr.alloc (.cells #[.string ⟨#[9]⟩, .string ⟨#[]⟩, .string ⟨#[10]⟩, .string ⟨#[]⟩, .string ⟨#[13]⟩, .string ⟨#[]⟩] 9)).cell? ⟨wr.heap.size, j, none⟩ = some v := fun j v h => by
              rw [blk_cell (blk_new wr _) j, ← Array.getElem?_toList]
              exact h
            have MK := Aside0.mk (whatwg_Text.made_ wr.heap.size wr.heap.size 6 (wr.alloc (.cells #[.string ⟨#[9]⟩, .string ⟨#[]⟩, .string ⟨#[10]⟩, .string ⟨#[]⟩, .string ⟨#[13]⟩, .string ⟨#[]⟩] 9)) (by simp) hq)
            clear hq
            rcases hcase with e1 | ⟨c, m, hc, hmz, hm1, e1, e2, hx⟩
            · have e2 : (!u.toList.isEmpty) = false := by rw [e1]; rfl
              go_wp2_with (first | (go_at_call 58; refine MK.out.mono ?_; rintro e w1 ⟨B, rfl, hF⟩) | (go_at_call 59; refine (whatwg_Text.replace wr.heap.size B u _ w1 huz hF.out).mono ?_; rintro e w2 ⟨rfl, hb2⟩))
              go_ret
              refine ⟨?_, (below_alloc (Below.refl wr.heap.size wr) _).trans (hF.out.below.trans hb2.out)⟩
              rw [hU.out]
              rfl
            · have hd : decide ((c.toNat : Int) ≤ 32) = false := decide_eq_false (by omega)
              go_wp2_with (first | (go_at_call 58; refine MK.out.mono ?_; rintro e w1 ⟨B, rfl, hF⟩) | (go_at_call 59; refine (whatwg_Text.replace wr.heap.size B u _ w1 huz hF.out).mono ?_; rintro e w2 ⟨rfl, hb2⟩))
              go_ret
              refine ⟨?_, (below_alloc (Below.refl wr.heap.size wr) _).trans (hF.out.below.trans hb2.out)⟩
              rw [hU.out]
              rfl
      · have hd : decide ((c.toNat : Int) ≤ 32) = false := decide_eq_false (by omega)
        go_wp2
        clear hd hx e2 e1 hsz hc
        go_loopg [0] t.size (fun gk s0 wr2 => ∃ u : ByteArray, s0 = .string u ∧ u.size ≤ gk ∧ gk ≤ t.size ∧ Aside0 (whatwg_Text.right u.data.toList = whatwg_Text.right t.data.toList) ∧ wr2 = wr)
        case atStart => exact ⟨t, rfl, Nat.le_refl _, Nat.le_refl _, ⟨rfl⟩, rfl⟩
        case round =>
          obtain ⟨u, rfl, hu, hgt, hR, rfl⟩ := hrel
          by_cases hb : ∃ l c, u.data.toList = l ++ [c] ∧ c.toNat ≤ 32
          · obtain ⟨l, c, hcl, hb⟩ := hb
            have hm : u.size = l.length + 1 := by rw [← data_length, hcl]; simp
            have e1 : ¬ u.toList = [] := by rw [Lib.toList_data, hcl]; simp
            have e2 : (!u.toList.isEmpty) = true := by rw [Lib.toList_data, hcl]; simp
            have hx : ∀ h : l.length < u.size, (u[l.length]'h).toNat = c.toNat := fun h => by
              have : u.data.toList[l.length]'(by rw [data_length]; exact h) = c := by simp [hcl]
              exact congrArg UInt8.toNat this
            have hm1 : (u.size : Int) - 1 = (l.length : Int) := by omega
            have hlt : l.length < u.size := by omega
            have hd : decide ((c.toNat : Int) ≤ 32) = true := decide_eq_true (by omega)
            have HCL := Aside0.mk hcl
            have HM := Aside0.mk hm
            have hgk : gk ≠ 0 := by omega
            obtain ⟨g, rfl⟩ : ∃ g, gk = g + 1 := ⟨gk - 1, by omega⟩
            clear hcl hgk hm
            go_wp2
            have hx1 : (u.extract 0 l.length).data.toList = l := by rw [Lib.extract_data, HCL.out]; simp
            have hz1 : (u.extract 0 l.length).size = l.length := by rw [← data_length, hx1]
            have hz2 := HM.out
            go_roundg g
            case measure => omega
            case rel => exact ⟨_, rfl, by omega, by omega, ⟨by rw [hx1, ← hR.out, HCL.out, whatwg_Text.right_snoc hb]⟩, rfl⟩
          · have hU : Aside0 (u.data.toList = whatwg_Text.right (whatwg_Text.left a0.data.toList)) := ⟨by
              rw [← hT.out, ← hR.out]
              rcases whatwg_Text.snoc_cases u with he | ⟨l, c, hcl⟩
              · rw [he]; rfl
              · rw [hcl, whatwg_Text.right_stop (fun h => hb ⟨l, c, hcl, h⟩)]⟩
            have huz : u.size ≤ 140737488351232 := by omega
            have hcase : u.toList = [] ∨ ∃ (c : UInt8) (m : Nat), ¬ c.toNat ≤ 32 ∧ m < u.size ∧ (u.size : Int) - 1 = (m : Int) ∧ (¬ u.toList = []) ∧ (!u.toList.isEmpty) = true ∧ ∀ h : m < u.size, (u[m]'h).toNat = c.toNat := by
              rcases whatwg_Text.snoc_cases u with he | ⟨l, c, hcl⟩
              · exact .inl (by rw [Lib.toList_data]; exact he)
              · have hm : u.size = l.length + 1 := by rw [← data_length, hcl]; simp
                refine .inr ⟨c, l.length, fun h => hb ⟨l, c, hcl, h⟩, by omega, by omega, by rw [Lib.toList_data, hcl]; simp, by rw [Lib.toList_data, hcl]; simp, fun h => ?_⟩
                have : u.data.toList[l.length]'(by rw [data_length]; exact h) = c := by simp [hcl]
                exact congrArg UInt8.toNat this
            clear hb hR hu hgt hT
            have hq : ∀ j v, whatwg_Text.six[j]? = some v → (wr.alloc (.cells #[.string ⟨#[9]⟩, .string ⟨#[]⟩, .string ⟨#[10]⟩, .string ⟨#[]⟩, .string ⟨#[13]⟩, .string ⟨#[]⟩] 9)).cell? ⟨wr.heap.size, j, none⟩ = some v := fun j v h => by
              rw [blk_cell (blk_new wr _) j, ← Array.getElem?_toList]
              exact h
            have MK := Aside0.mk (whatwg_Text.made_ wr.heap.size wr.heap.size 6 (wr.alloc (.cells #[.string ⟨#[9]⟩, .string ⟨#[]⟩, .string ⟨#[10]⟩, .string ⟨#[]⟩, .string ⟨#[13]⟩, .string ⟨#[]⟩] 9)) (by simp) hq)
            clear hq
            rcases hcase with e1 | ⟨c, m, hc, hmz, hm1, e1, e2, hx⟩
            · have e2 : (!u.toList.isEmpty) = false := by rw [e1]; rfl
              go_wp2_with (first | (go_at_call 58; refine MK.out.mono ?_; rintro e w1 ⟨B, rfl, hF⟩) | (go_at_call 59; refine (whatwg_Text.replace wr.heap.size B u _ w1 huz hF.out).mono ?_; rintro e w2 ⟨rfl, hb2⟩))
              go_ret
              refine ⟨?_, (below_alloc (Below.refl wr.heap.size wr) _).trans (hF.out.below.trans hb2.out)⟩
              rw [hU.out]
              rfl
            · have hd : decide ((c.toNat : Int) ≤ 32) = false := decide_eq_false (by omega)
              go_wp2_with (first | (go_at_call 58; refine MK.out.mono ?_; rintro e w1 ⟨B, rfl, hF⟩) | (go_at_call 59; refine (whatwg_Text.replace wr.heap.size B u _ w1 huz hF.out).mono ?_; rintro e w2 ⟨rfl, hb2⟩))
              go_ret
              refine ⟨?_, (below_alloc (Below.refl wr.heap.size wr) _).trans (hF.out.below.trans hb2.out)⟩
              rw [hU.out]
              rfl
theorem whatwg_Text.calls (a0 : ByteArray) (r : ByteArray) (w : World) (h : whatwg_Text.f a0 = some r) :
    Calls Tryz.prog 20 #[.string a0] w fun e w' => e = .returned (.string r) ∧ Below w.heap.size w w' := by
  unfold whatwg_Text.f at h
  by_cases hc : a0.size ≤ 140737488351232
  · rw [if_pos hc] at h
    have h := Option.some.inj h
    subst h
    exact whatwg_Text.any a0 w hc
  · rw [if_neg hc] at h; exact absurd h (by simp)

end Go.Proofs.YtiihgddpejmehaaGreatDoor.ZA

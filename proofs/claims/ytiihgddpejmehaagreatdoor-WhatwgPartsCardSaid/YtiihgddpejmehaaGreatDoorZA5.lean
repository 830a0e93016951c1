/- My own print (tools/mp.py) of functions of this seat: each function as a plain Lean function, and the proof that the code does what that function says. -/
import Derived.Test.YtiihgddpejmehaaGreatDoorZA0
import Derived.Test.YtiihgddpejmehaaGreatDoorZA2
import Derived.Test.YtiihgddpejmehaaGreatDoorZA3
namespace Go.Proofs.YtiihgddpejmehaaGreatDoor.ZA
open Go.RowKit Go.Proofs.YtiihgddpejmehaaGreatDoorW.PrintWords Go.Proofs.YtiihgddpejmehaaGreatDoorW.PrintLast Go.Proofs.YtiihgddpejmehaaGreatDoorW.PrintMore
attribute [local go_sem] max2_int min2_int max_two min_two max_three min_three max_four min_four   -- for this text's walks alone
set_option linter.unusedVariables false
set_option linter.unusedSimpArgs false

/-! ### stringslite_CutPrefix: function 83 -/
def stringslite_CutPrefix.f (a0 : ByteArray) (a1 : ByteArray) : Option (ByteArray × Bool) := (stringslite_HasPrefix.f a0 a1).bind fun t150 => (if t150 = true then (if 0 ≤ (a1.size : Int) then (if (a1.size : Int) ≤ (a0.size : Int) then (some (a0.extract ((a1.size : Int) : Int).toNat a0.size, true)) else (none)) else (none)) else (some (a0, false)))
set_option maxHeartbeats 8000000 in
set_option maxRecDepth 100000 in
theorem stringslite_CutPrefix.calls (a0 : ByteArray) (a1 : ByteArray) (r1 : ByteArray) (r2 : Bool) (w : World) (h : stringslite_CutPrefix.f a0 a1 = some (r1, r2)) :
    Calls Tryz.prog 83 #[.string a0, .string a1] w fun e w' => e = .returned (.tuple #[.string r1, .bool r2]) ∧ Drawn0 w w' := by
  have H : ((stringslite_HasPrefix.f a0 a1).bind fun t150 => (if t150 = true then (if 0 ≤ (a1.size : Int) then (if (a1.size : Int) ≤ (a0.size : Int) then (some (a0.extract ((a1.size : Int) : Int).toNat a0.size, true)) else (none)) else (none)) else (some (a0, false)))) = some (r1, r2) := h
  clear h
  replace H := Option.bind_eq_some_iff.mp H
  obtain ⟨t150, A30, H⟩ := H
  replace H : (if t150 = true then (if 0 ≤ (a1.size : Int) then (if (a1.size : Int) ≤ (a0.size : Int) then (some (a0.extract ((a1.size : Int) : Int).toNat a0.size, true)) else (none)) else (none)) else (some (a0, false))) = some (r1, r2) := H
  have A3 := Aside0.mk A30
  clear A30
  by_cases c4 : t150 = true
  · subst c4
    have H1 : (if 0 ≤ (a1.size : Int) then (if (a1.size : Int) ≤ (a0.size : Int) then (some (a0.extract ((a1.size : Int) : Int).toNat a0.size, true)) else (none)) else (none)) = some (r1, r2) := by rw [if_pos rfl] at H; exact H
    clear H
    have H := H1
    clear H1
    by_cases c5 : 0 ≤ (a1.size : Int)
    · rw [if_pos c5] at H
      have c5b0 := eq_true c5
      have c5b1 : decide (0 ≤ (a1.size : Int)) = true := decide_eq_true c5
      clear c5
      by_cases c6 : (a1.size : Int) ≤ (a0.size : Int)
      · rw [if_pos c6] at H
        have c6b0 := eq_true c6
        have c6b1 : decide ((a1.size : Int) ≤ (a0.size : Int)) = true := decide_eq_true c6
        clear c6
        simp only [Option.some.injEq, Prod.mk.injEq] at H
        obtain ⟨rfl, rfl⟩ := H
        go_enter Tryz.func83, Tryz.ntmps83
        go_wp2_with (first | ((with_reducible refine gate_callee (f := 66) rfl ?_); refine goesL_ (some 8) rfl rfl Tryz.func66 (by kernel_rfl) rfl #[.string a0, .string a1] rfl (by (try simp only [List.map_toArray, List.map_cons, List.map_nil]); first | done | rfl | (simp only [List.length_drop, List.length_take]; rfl)) ?_; (with_reducible refine (stringslite_HasPrefix.calls a0 a1 true _ A3.out).mono ?_); rintro e w' ⟨rfl, ⟨nd, rfl⟩⟩; refine ⟨_, rfl, ?_⟩))
        go_ret2
        exact ⟨by first | rfl | (simp; done) | (simp [*]; done), by repeat (first | exact Drawn0.refl _ | apply Drawn0.step)⟩
      · rw [if_neg c6] at H
        exact absurd H (by simp)
    · rw [if_neg c5] at H
      exact absurd H (by simp)
  · replace c4 := Bool.eq_false_iff.mpr c4
    subst c4
    have H1 : (some (a0, false)) = some (r1, r2) := by rw [if_neg (show ¬ (false = true) by decide)] at H; exact H
    clear H
    have H := H1
    clear H1
    simp only [Option.some.injEq, Prod.mk.injEq] at H
    obtain ⟨rfl, rfl⟩ := H
    go_enter Tryz.func83, Tryz.ntmps83
    go_wp2_with (first | ((with_reducible refine gate_callee (f := 66) rfl ?_); refine goesL_ (some 8) rfl rfl Tryz.func66 (by kernel_rfl) rfl #[.string a0, .string a1] rfl (by (try simp only [List.map_toArray, List.map_cons, List.map_nil]); first | done | rfl | (simp only [List.length_drop, List.length_take]; rfl)) ?_; (with_reducible refine (stringslite_HasPrefix.calls a0 a1 false _ A3.out).mono ?_); rintro e w' ⟨rfl, ⟨nd, rfl⟩⟩; refine ⟨_, rfl, ?_⟩))
    go_ret2
    exact ⟨by first | rfl | (simp; done) | (simp [*]; done), by repeat (first | exact Drawn0.refl _ | apply Drawn0.step)⟩

/-! ### strings_CutPrefix: function 48 -/
def strings_CutPrefix.f (a0 : ByteArray) (a1 : ByteArray) : Option (ByteArray × Bool) := (stringslite_CutPrefix.f a0 a1).bind fun bt151 => (some (bt151.1, bt151.2))
set_option maxHeartbeats 8000000 in
set_option maxRecDepth 100000 in
theorem strings_CutPrefix.calls (a0 : ByteArray) (a1 : ByteArray) (r1 : ByteArray) (r2 : Bool) (w : World) (h : strings_CutPrefix.f a0 a1 = some (r1, r2)) :
    Calls Tryz.prog 48 #[.string a0, .string a1] w fun e w' => e = .returned (.tuple #[.string r1, .bool r2]) ∧ Drawn0 w w' := by
  have H : ((stringslite_CutPrefix.f a0 a1).bind fun bt151 => (some (bt151.1, bt151.2))) = some (r1, r2) := h
  clear h
  replace H := Option.bind_eq_some_iff.mp H
  obtain ⟨⟨t151, t152⟩, A30, H⟩ := H
  replace H : (some (t151, t152)) = some (r1, r2) := H
  have A3 := Aside0.mk A30
  clear A30
  simp only [Option.some.injEq, Prod.mk.injEq] at H
  obtain ⟨rfl, rfl⟩ := H
  go_enter Tryz.func48, Tryz.ntmps48
  go_wp2_with (first | ((with_reducible refine gate_callee (f := 83) rfl ?_); refine goesL_ (some 8) rfl rfl Tryz.func83 (by kernel_rfl) rfl #[.string a0, .string a1] rfl (by (try simp only [List.map_toArray, List.map_cons, List.map_nil]); first | done | rfl | (simp only [List.length_drop, List.length_take]; rfl)) ?_; (with_reducible refine (stringslite_CutPrefix.calls a0 a1 t151 t152 _ A3.out).mono ?_); rintro e w' ⟨rfl, ⟨nd, rfl⟩⟩; refine ⟨_, rfl, ?_⟩))
  go_ret2
  exact ⟨by first | rfl | (simp; done) | (simp [*]; done), by repeat (first | exact Drawn0.refl _ | apply Drawn0.step)⟩

/-! ### strings_TrimLeft: function 50 -/
open Go.Shelf in
def sh_lays161_ren : Go.Shelf.Ren := ⟨fun | 161 => 50 | 231 => 85 | 227 => 86 | 233 => 87 | 235 => 88 | 228 => 123 | 197 => 94 | 151 => 124 | 260 => 131 | 152 => 150 | 137 => 76 | 119 => 161 | 224 => 147 | 225 => 146 | 217 => 117 | 266 => 145 | n => n, fun | 9 => 9 | 4 => 4 | 3 => 3 | 5 => 5 | 117 => 120 | 116 => 119 | 0 => 0 | 124 => 123 | 105 => 125 | 21 => 21 | 119 => 174 | 46 => 171 | 139 => 177 | 138 => 176 | n => n, fun | 3 => 1 | 4 => 2 | n => n⟩
open Go.Shelf in
theorem sh_lays161 : Go.Proofs.Lays.n161 Tryz.prog sh_lays161_ren := {
  mixed := by kernel_rfl
  f119 := Tryz.func161.trans (congrArg some (by kernel_rfl))
  f137 := Tryz.func76.trans (congrArg some (by kernel_rfl))
  f151 := Tryz.func124.trans (congrArg some (by kernel_rfl))
  f152 := Tryz.func150.trans (congrArg some (by kernel_rfl))
  f161 := Tryz.func50.trans (congrArg some (by kernel_rfl))
  f197 := Tryz.func94.trans (congrArg some (by kernel_rfl))
  f217 := Tryz.func117.trans (congrArg some (by kernel_rfl))
  f224 := Tryz.func147.trans (congrArg some (by kernel_rfl))
  f225 := Tryz.func146.trans (congrArg some (by kernel_rfl))
  f227 := Tryz.func86.trans (congrArg some (by kernel_rfl))
  f228 := Tryz.func123.trans (congrArg some (by kernel_rfl))
  f231 := Tryz.func85.trans (congrArg some (by kernel_rfl))
  f233 := Tryz.func87.trans (congrArg some (by kernel_rfl))
  f235 := Tryz.func88.trans (congrArg some (by kernel_rfl))
  f260 := Tryz.func131.trans (congrArg some (by kernel_rfl))
  f266 := Tryz.func145.trans (congrArg some (by kernel_rfl))
  t0 := Tryz.underlying0
  a0 := Tryz.isAgg0
  z0 := Tryz.sizeOf0
  v0 := Tryz.zeroValue0
  t3 := Tryz.underlying3
  a3 := Tryz.isAgg3
  z3 := Tryz.sizeOf3
  v3 := Tryz.zeroValue3
  t4 := Tryz.underlying4
  a4 := Tryz.isAgg4
  z4 := Tryz.sizeOf4
  v4 := Tryz.zeroValue4
  t5 := Tryz.underlying5
  a5 := Tryz.isAgg5
  z5 := Tryz.sizeOf5
  v5 := Tryz.zeroValue5
  t9 := Tryz.underlying9
  a9 := Tryz.isAgg9
  z9 := Tryz.sizeOf9
  v9 := Tryz.zeroValue9
  t21 := Tryz.underlying21
  a21 := Tryz.isAgg21
  z21 := Tryz.sizeOf21
  v21 := Tryz.zeroValue21
  t46 := Tryz.underlying171
  a46 := Tryz.isAgg171
  z46 := Tryz.sizeOf171
  v46 := Tryz.zeroValue171
  t105 := Tryz.underlying125
  a105 := Tryz.isAgg125
  z105 := Tryz.sizeOf125
  v105 := Tryz.zeroValue125
  t116 := Tryz.underlying119
  a116 := Tryz.isAgg119
  z116 := Tryz.sizeOf119
  t117 := Tryz.underlying120
  a117 := Tryz.isAgg120
  z117 := Tryz.sizeOf120
  v117 := Tryz.zeroValue120
  t119 := Tryz.underlying174
  a119 := Tryz.isAgg174
  z119 := Tryz.sizeOf174
  t124 := Tryz.underlying123
  a124 := Tryz.isAgg123
  z124 := Tryz.sizeOf123
  v124 := Tryz.zeroValue123
  t138 := Tryz.underlying176
  a138 := Tryz.isAgg176
  z138 := Tryz.sizeOf176
  v138 := Tryz.zeroValue176
  t139 := Tryz.underlying177
  a139 := Tryz.isAgg177
  z139 := Tryz.sizeOf177
  v139 := Tryz.zeroValue177
  g3 := by kernel_rfl
  g4 := by kernel_rfl }
theorem strings_TrimLeft.h116 : (Tryz.prog.info? (sh_lays161_ren.t 116)).map (fun i => (i.zero, i.size)) = some (some (.agg (Array.replicate 256 (.bool false))), 256) := by kernel_rfl
/-- The bytes that stand in a set of ASCII bytes, left out at the head. -/
def strings_TrimLeft.f (a0 a1 : ByteArray) : Option ByteArray := if a0.size ≤ 140737488351232 ∧ a1.size < 4294967281 ∧ a1.data.toList.all (fun b => decide (b.toNat < 128)) = true then some ⟨(Lib.trimLeftS a0.data.toList a1.data.toList).toArray⟩ else none
theorem strings_TrimLeft.calls (a0 a1 : ByteArray) (r : ByteArray) (w : World) (h : strings_TrimLeft.f a0 a1 = some r) :
    Calls Tryz.prog 50 #[.string a0, .string a1] w fun e w' => e = .returned (.string r) ∧ Below w.heap.size w w' := by
  unfold strings_TrimLeft.f at h
  by_cases hc : a0.size ≤ 140737488351232 ∧ a1.size < 4294967281 ∧ a1.data.toList.all (fun b => decide (b.toNat < 128)) = true
  · rw [if_pos hc] at h
    have h := Option.some.inj h
    subst h
    exact Any.strings_TrimLeft_laid sh_lays161 strings_TrimLeft.h116 a0 a1 w hc.2.1 (ascii_of_all hc.2.2)
  · rw [if_neg hc] at h; exact absurd h (by simp)

/-! ### whatwg_anyAt: function 89 -/
def whatwg_anyAt.f (a0 a1 : ByteArray) : Option Int :=
  if (a1.data.toList.all fun x => decide (x.toNat < 128)) = true then some (Runes.anyIdx a0.data.toList a1.data.toList) else none
set_option maxHeartbeats 1000000 in
set_option maxRecDepth 100000 in
theorem whatwg_anyAt.any (s m : ByteArray) (hasc : ∀ j (h : j < m.size), (m[j]'h).toNat < 128) (w : World) :
    Calls Tryz.prog 89 #[.string s, .string m] w fun e w' => ∃ r : Int, e = .returned (.int .i64 r) ∧ r = Runes.anyIdx s.data.toList m.data.toList ∧ Below w.heap.size w w' := by
  have HASC := Aside0.mk hasc
  clear hasc
  have HM : Aside0 (∀ (x : UInt8), x ∈ m.data.toList ↔ ∃ j, ∃ h : j < m.size, m[j]'h = x) := ⟨by
    intro x
    rw [List.mem_iff_getElem]
    constructor
    · rintro ⟨j, h, e⟩; exact ⟨j, by rw [Lib.size_eq]; exact h, e⟩
    · rintro ⟨j, h, e⟩; exact ⟨j, by rw [← Lib.size_eq]; exact h, e⟩⟩
  go_enter Tryz.func89, Tryz.ntmps89
  go_wp2
  go_loopw [] (fun wr => ∃ pos : Nat, wr.heap[w.heap.size]? = some (.stringIter s pos) ∧ Aside0 (∀ j (h : j < s.size), j < pos → (s[j]'h) ∉ m.data.toList) ∧ Aside0 (Below w.heap.size w wr)) (fun wr => s.size - wr.iterPos w.heap.size)
  case atStart =>
    refine ⟨0, by simpa [World.iter] using heap_alloc_new w _, ⟨fun j _ h => absurd h (by omega)⟩, ⟨?_⟩⟩
    exact below_alloc (Below.refl _ _) _
  case round =>
    obtain ⟨pos, hit, hno, hB⟩ := hrel
    by_cases hp : pos < s.size
    · have hnx : ∀ ty, (Instr.next (.pointer (some ⟨w.heap.size, 0, none⟩)) true ty).run Tryz.prog wr = _ := fun ty => Lib.run_next_any_at wr w.heap.size s pos ty hit hp
      have hd := Aside0.mk (Runes.decode_ascii_or s pos hp)
      have hwd : 1 ≤ (Utf8.decode s pos).2 := by
        rcases hd.out with ⟨_, e⟩ | ⟨_, _, e, _⟩
        · rw [e]; omega
        · exact e
      have HPOS := Aside0.mk (show wr.iterPos w.heap.size = pos by simp [World.iterPos, hit])
      have hlt : w.heap.size < wr.heap.size := (Array.getElem?_eq_some_iff.1 hit).1
      have hit2 := Aside0.mk (Lib.iterAt_heap wr w.heap.size s pos (pos + (Utf8.decode s pos).2) hit)
      have hB2 : Aside0 (Below w.heap.size w (wr.iterAt w.heap.size s (pos + (Utf8.decode s pos).2))) := ⟨⟨hB.out.os, hB.out.tape, hB.out.output, by simpa [World.iterAt] using hB.out.size, fun i hi => by rw [Lib.iterAt_other _ _ _ _ _ (by omega)]; exact hB.out.block i hi⟩⟩
      have hsz : Aside0 (w.heap.size < (wr.iterAt w.heap.size s (pos + (Utf8.decode s pos).2)).heap.size) := ⟨by simpa [World.iterAt] using hlt⟩
      obtain ⟨c, hc⟩ : ∃ c : Nat, (Utf8.decode s pos).1 = c := ⟨_, rfl⟩
      obtain ⟨n, hn⟩ : ∃ n : Nat, (Utf8.decode s pos).2 = n := ⟨_, rfl⟩
      rw [hc, hn] at hnx
      have HC := Aside0.mk hc
      have HN := Aside0.mk hn
      rw [hn] at hwd hit2 hB2 hsz
      clear hc hn hit hB
      go_wp2
      clear hnx
      obtain ⟨wo, hwo⟩ : ∃ wo : World, wo = wr.iterAt w.heap.size s (pos + n) := ⟨_, rfl⟩
      rw [← hwo] at hit2 hB2 hsz ⊢
      have HWO := Aside0.mk hwo
      clear hwo
      go_loopw [] (fun wi => ∃ p : Nat, wi.heap[wo.heap.size]? = some (.stringIter m p) ∧ Aside0 (∀ j (h : j < m.size), j < p → (m[j]'h).toNat ≠ c) ∧ Aside0 (wi.heap[w.heap.size]? = some (.stringIter s (pos + n))) ∧ Aside0 (Below w.heap.size w wi)) (fun wi => m.size - wi.iterPos wo.heap.size)
      case atStart =>
        refine ⟨0, by simpa [World.iter] using heap_alloc_new wo _, ⟨fun j _ h => absurd h (by omega)⟩, ⟨blk_alloc hit2.out _⟩, ⟨?_⟩⟩
        exact below_alloc hB2.out _
      case round =>
        obtain ⟨p, hjt, hnoj, hit3, hB3⟩ := hrel
        by_cases hq : p < m.size
        · have hma : (m[p]'hq).toNat < 128 := HASC.out p hq
          have hny : ∀ ty, (Instr.next (.pointer (some ⟨wo.heap.size, 0, none⟩)) true ty).run Tryz.prog wr = _ := fun ty => Lib.run_next_ascii_at wr wo.heap.size m p ty hjt hq hma
          have HPOS2 := Aside0.mk (show wr.iterPos wo.heap.size = p by simp [World.iterPos, hjt])
          have hjt2 := Aside0.mk (Lib.iterAt_heap wr wo.heap.size m p (p + 1) hjt)
          have hB4 : Aside0 (Below w.heap.size w (wr.iterAt wo.heap.size m (p + 1))) := ⟨⟨hB3.out.os, hB3.out.tape, hB3.out.output, by simpa [World.iterAt] using hB3.out.size, fun i hi => by rw [Lib.iterAt_other _ _ _ _ _ (by have := hsz.out; omega)]; exact hB3.out.block i hi⟩⟩
          have hit4 : Aside0 ((wr.iterAt wo.heap.size m (p + 1)).heap[w.heap.size]? = some (.stringIter s (pos + n))) := ⟨by rw [Lib.iterAt_other _ _ _ _ _ (by have := hsz.out; omega)]; exact hit3.out⟩
          obtain ⟨b, hb⟩ : ∃ b : Nat, (m[p]'hq).toNat = b := ⟨_, rfl⟩
          rw [hb] at hny
          have HBb := Aside0.mk hb
          clear hb hma hjt
          by_cases hcb : c = b
          · have hcb1 : ((c : Int) == (b : Int)) = true := by rw [beq_iff_eq]; omega
            have HCB := Aside0.mk hcb
            clear hcb
            go_wp2
            go_ret
            refine ⟨_, rfl, ?_, hB4.out⟩
            have e := HCB.out
            rcases hd.out with ⟨ha, hdec⟩ | ⟨_, hhi, _, _⟩
            · have e1 : (s[pos]'hp).toNat = c := by rw [← HC.out, hdec]
              have hm : s[pos]'hp ∈ m.data.toList := (HM.out _).2 ⟨p, hq, UInt8.toNat_inj.1 (by rw [HBb.out, e1, e])⟩
              have hl : pos < s.data.toList.length := by rw [← Lib.size_eq]; exact hp
              refine (Runes.anyIdx_first m.data.toList s.data.toList pos hl hm fun j hj => ?_).symm
              exact hno.out j (by omega) hj
            · exfalso
              have := HASC.out p hq
              have h1 := HBb.out
              have h2 := HC.out
              omega
          · have hcb1 : ((c : Int) == (b : Int)) = false := by rw [beq_eq_false_iff_ne]; omega
            have HCB := Aside0.mk hcb
            clear hcb
            go_wp2
            go_roundw
            case rel =>
              refine ⟨p + 1, hjt2.out, ⟨fun j hj h => ?_⟩, hit4, hB4⟩
              by_cases e : j = p
              · subst e
                have h1 := HBb.out
                have h2 := HCB.out
                omega
              · exact hnoj.out j hj (by omega)
            case measure =>
              have h1 := HPOS2.out
              have h2 : (wr.iterAt wo.heap.size m (p + 1)).iterPos wo.heap.size = p + 1 := by simp [World.iterPos, hjt2.out]
              omega
        · have hny : ∀ ty, (Instr.next (.pointer (some ⟨wo.heap.size, 0, none⟩)) true ty).run Tryz.prog wr = _ := fun ty => Lib.run_next_end_at wr wo.heap.size m p ty hjt hq
          go_wp2
          go_roundw
          case rel =>
            refine ⟨pos + n, hit3.out, ⟨fun j hj h => ?_⟩, hB3⟩
            by_cases e : j < pos
            · exact hno.out j hj e
            · intro hmem
              obtain ⟨i, hi, ei⟩ := (HM.out _).1 hmem
              have h1 := hnoj.out i hi (by omega)
              rcases hd.out with ⟨ha, hdec⟩ | ⟨_, _, _, hall⟩
              · have e1 : (s[pos]'hp).toNat = c := by rw [← HC.out, hdec]
                have e2 : n = 1 := by rw [← HN.out, hdec]
                have : j = pos := by omega
                subst this
                rw [ei] at h1
                exact h1 e1
              · have h2 := hall j hj (by omega) (by rw [HN.out]; exact h)
                have h3 := HASC.out i hi
                rw [ei] at h3
                omega
          case measure =>
            have h1 := HPOS.out
            have h2 : wr.iterPos w.heap.size = pos + n := by simp [World.iterPos, hit3.out]
            omega
    · have hnx : ∀ ty, (Instr.next (.pointer (some ⟨w.heap.size, 0, none⟩)) true ty).run Tryz.prog wr = _ := fun ty => Lib.run_next_end_at wr w.heap.size s pos ty hit hp
      go_wp2
      go_ret
      refine ⟨_, rfl, ?_, hB.out⟩
      refine (Runes.anyIdx_none m.data.toList s.data.toList fun x hx => ?_).symm
      obtain ⟨j, hj, rfl⟩ := List.mem_iff_getElem.1 hx
      exact hno.out j (by rw [Lib.size_eq]; exact hj) (by rw [← Lib.size_eq] at hj; omega)
theorem whatwg_anyAt.calls (a0 a1 : ByteArray) (r : Int) (w : World) (h : whatwg_anyAt.f a0 a1 = some r) :
    Calls Tryz.prog 89 #[.string a0, .string a1] w fun e w' => e = .returned (.int .i64 r) ∧ Below w.heap.size w w' := by
  unfold whatwg_anyAt.f at h
  by_cases hc : (a1.data.toList.all fun x => decide (x.toNat < 128)) = true
  · rw [if_pos hc] at h
    have h := (Option.some.inj h).symm
    refine (whatwg_anyAt.any a0 a1 (fun j hj => ?_) w).mono ?_
    · have := List.all_eq_true.1 hc (a1.data.toList[j]'(by rw [← Lib.size_eq]; exact hj)) (List.getElem_mem _)
      exact of_decide_eq_true this
    · rintro e w' ⟨q, rfl, rfl, hb⟩
      exact ⟨by rw [h], hb⟩
  · rw [if_neg hc] at h; exact absurd h (by simp)


/-! ### whatwg_upTo: function 51 -/
def whatwg_upTo.f (a0 : ByteArray) (a1 : ByteArray) : Option (ByteArray × ByteArray) := (whatwg_anyAt.f a0 a1).bind fun t153 => (if t153 < 0 then (some (a0, (⟨#[]⟩ : ByteArray))) else (if 0 ≤ t153 then (if t153 ≤ (a0.size : Int) then (some (a0.extract 0 (t153 : Int).toNat, a0.extract (t153 : Int).toNat a0.size)) else (none)) else (none)))
set_option maxHeartbeats 8000000 in
set_option maxRecDepth 100000 in
theorem whatwg_upTo.calls (a0 : ByteArray) (a1 : ByteArray) (r1 : ByteArray) (r2 : ByteArray) (w : World) (h : whatwg_upTo.f a0 a1 = some (r1, r2)) :
    Calls Tryz.prog 51 #[.string a0, .string a1] w fun e w' => e = .returned (.tuple #[.string r1, .string r2]) ∧ Below w.heap.size w w' := by
  have HB := Aside0.mk (Below.refl w.heap.size w)
  have H : ((whatwg_anyAt.f a0 a1).bind fun t153 => (if t153 < 0 then (some (a0, (⟨#[]⟩ : ByteArray))) else (if 0 ≤ t153 then (if t153 ≤ (a0.size : Int) then (some (a0.extract 0 (t153 : Int).toNat, a0.extract (t153 : Int).toNat a0.size)) else (none)) else (none)))) = some (r1, r2) := h
  clear h
  replace H := Option.bind_eq_some_iff.mp H
  obtain ⟨t153, A30, H⟩ := H
  replace H : (if t153 < 0 then (some (a0, (⟨#[]⟩ : ByteArray))) else (if 0 ≤ t153 then (if t153 ≤ (a0.size : Int) then (some (a0.extract 0 (t153 : Int).toNat, a0.extract (t153 : Int).toNat a0.size)) else (none)) else (none))) = some (r1, r2) := H
  have A3 := Aside0.mk A30
  clear A30
  by_cases c4 : t153 < 0
  · rw [if_pos c4] at H
    have c4b0 : decide (t153 < 0) = true := decide_eq_true c4
    clear c4
    simp only [Option.some.injEq, Prod.mk.injEq] at H
    obtain ⟨rfl, rfl⟩ := H
    go_enter Tryz.func51, Tryz.ntmps51
    go_wp2_with (first | (go_at_call 89; (with_reducible refine (whatwg_anyAt.calls a0 a1 t153 _ A3.out).mono ?_); rintro e w5 ⟨rfl, hb⟩; have n0_ := Aside0.mk (below_step (by repeat (first | (with_reducible first | exact HB.out | apply below_alloc | apply pw_below_drewN | apply below_drew1) | exact HB.out)) hb); clear HB; have HB := n0_; clear n0_; (try clear hb); (try clear hb2); (try clear hk); (try clear hi)))
    repeat (go_quiet (first | (go_at_call 89; (with_reducible refine (whatwg_anyAt.calls a0 a1 t153 _ A3.out).mono ?_); rintro e w5 ⟨rfl, hb⟩; have n0_ := Aside0.mk (below_step (by repeat (first | (with_reducible first | exact HB.out | apply below_alloc | apply pw_below_drewN | apply below_drew1) | exact HB.out)) hb); clear HB; have HB := n0_; clear n0_; (try clear hb); (try clear hb2); (try clear hk); (try clear hi))); try go_wp2_with (first | (go_at_call 89; (with_reducible refine (whatwg_anyAt.calls a0 a1 t153 _ A3.out).mono ?_); rintro e w5 ⟨rfl, hb⟩; have n0_ := Aside0.mk (below_step (by repeat (first | (with_reducible first | exact HB.out | apply below_alloc | apply pw_below_drewN | apply below_drew1) | exact HB.out)) hb); clear HB; have HB := n0_; clear n0_; (try clear hb); (try clear hb2); (try clear hk); (try clear hi))))
    go_ret2
    exact ⟨by first | rfl | (simp [errW_none, errW_some] <;> rfl) | (simp [*, errW_none, errW_some] <;> rfl), by repeat (first | (with_reducible first | exact HB.out | apply below_alloc | apply pw_below_drewN | apply below_drew1) | exact HB.out)⟩
  · rw [if_neg c4] at H
    have c4b0 : decide (t153 < 0) = false := decide_eq_false c4
    clear c4
    by_cases c6 : 0 ≤ t153
    · rw [if_pos c6] at H
      have c6b0 := eq_true c6
      have c6b1 : decide (0 ≤ t153) = true := decide_eq_true c6
      clear c6
      by_cases c7 : t153 ≤ (a0.size : Int)
      · rw [if_pos c7] at H
        have c7b0 := eq_true c7
        have c7b1 : decide (t153 ≤ (a0.size : Int)) = true := decide_eq_true c7
        clear c7
        have c8b0 := eq_true (of_decide_eq_true (by first | (with_reducible assumption) | assumption) : 0 ≤ t153)
        have c9b0 := eq_true (of_decide_eq_true (by first | (with_reducible assumption) | assumption) : t153 ≤ (a0.size : Int))
        simp only [Option.some.injEq, Prod.mk.injEq] at H
        obtain ⟨rfl, rfl⟩ := H
        go_enter Tryz.func51, Tryz.ntmps51
        go_wp2_with (first | (go_at_call 89; (with_reducible refine (whatwg_anyAt.calls a0 a1 t153 _ A3.out).mono ?_); rintro e w10 ⟨rfl, hb⟩; have n0_ := Aside0.mk (below_step (by repeat (first | (with_reducible first | exact HB.out | apply below_alloc | apply pw_below_drewN | apply below_drew1) | exact HB.out)) hb); clear HB; have HB := n0_; clear n0_; (try clear hb); (try clear hb2); (try clear hk); (try clear hi)))
        repeat (go_quiet (first | (go_at_call 89; (with_reducible refine (whatwg_anyAt.calls a0 a1 t153 _ A3.out).mono ?_); rintro e w10 ⟨rfl, hb⟩; have n0_ := Aside0.mk (below_step (by repeat (first | (with_reducible first | exact HB.out | apply below_alloc | apply pw_below_drewN | apply below_drew1) | exact HB.out)) hb); clear HB; have HB := n0_; clear n0_; (try clear hb); (try clear hb2); (try clear hk); (try clear hi))); try go_wp2_with (first | (go_at_call 89; (with_reducible refine (whatwg_anyAt.calls a0 a1 t153 _ A3.out).mono ?_); rintro e w10 ⟨rfl, hb⟩; have n0_ := Aside0.mk (below_step (by repeat (first | (with_reducible first | exact HB.out | apply below_alloc | apply pw_below_drewN | apply below_drew1) | exact HB.out)) hb); clear HB; have HB := n0_; clear n0_; (try clear hb); (try clear hb2); (try clear hk); (try clear hi))))
        go_ret2
        exact ⟨by first | rfl | (simp [errW_none, errW_some] <;> rfl) | (simp [*, errW_none, errW_some] <;> rfl), by repeat (first | (with_reducible first | exact HB.out | apply below_alloc | apply pw_below_drewN | apply below_drew1) | exact HB.out)⟩
      · rw [if_neg c7] at H
        exact absurd H (by simp)
    · rw [if_neg c6] at H
      exact absurd H (by simp)

/-! ### octets_bit: function 73 -/
def octets_bit.f (a0 : Int) : Option (Int × Int) := if 0 ≤ (Int.tmod a0 64) then (some ((Int.tdiv a0 64) % 256, shl .u64 1 (Int.tmod a0 64))) else (none)
set_option maxHeartbeats 8000000 in
set_option maxRecDepth 100000 in
theorem octets_bit.calls (a0 : Int) (r1 : Int) (r2 : Int) (w : World) (h : octets_bit.f a0 = some (r1, r2)) :
    Calls Tryz.prog 73 #[.int .u8 a0] w fun e w' => e = .returned (.tuple #[.int .i64 r1, .int .u64 r2]) ∧ Drawn0 w w' := by
  have H : (if 0 ≤ (Int.tmod a0 64) then (some ((Int.tdiv a0 64) % 256, shl .u64 1 (Int.tmod a0 64))) else (none)) = some (r1, r2) := h
  clear h
  obtain ⟨ji2, hji2⟩ : ∃ j_ : Int, (Int.tmod a0 64) = j_ := ⟨_, rfl⟩
  replace H : (if 0 ≤ (ji2) then (some ((Int.tdiv a0 64) % 256, shl .u64 1 (ji2))) else (none)) = some (r1, r2) := by first | (rw [hji2] at H; exact H) | (simp only [hji2] at H ⊢; exact H)
  by_cases c3 : 0 ≤ (ji2)
  · rw [if_pos c3] at H
    have c3b0 := eq_true c3
    have c3b1 : decide (0 ≤ (ji2)) = true := decide_eq_true c3
    clear c3
    obtain ⟨ji4, hji4⟩ : ∃ j_ : Int, (shl .u64 1 (ji2)) = j_ := ⟨_, rfl⟩
    replace H : (some ((Int.tdiv a0 64) % 256, ji4)) = some (r1, r2) := by first | (rw [hji4] at H; exact H) | (simp only [hji4] at H ⊢; exact H)
    have hji4_ : (IntKind.u64.wrap (1 * 2 ^ min (ji2).toNat 64)) = ji4 := hji4
    have hji4z : (ji2) ≤ 64 → (IntKind.u64.wrap (1 * 2 ^ (ji2).toNat)) = ji4 := shl_small hji4
    have hji4u : (IntKind.u64.wrap (2 ^ min (ji2).toNat 64)) = ji4 := by have h_ := hji4_; rw [Int.one_mul] at h_; exact h_
    have hji4v : (ji2) ≤ 64 → (IntKind.u64.wrap (2 ^ (ji2).toNat)) = ji4 := fun hle_ => by have h_ := hji4z hle_; rw [Int.one_mul] at h_; exact h_
    simp only [Option.some.injEq, Prod.mk.injEq] at H
    obtain ⟨rfl, rfl⟩ := H
    go_enter Tryz.func73, Tryz.ntmps73
    go_wp2
    go_ret2
    exact ⟨by first | rfl | (simp; done) | (simp only [← hji2, ← hji4] <;> (first | rfl | simp)) | (simp [*]; done), by repeat (first | exact Drawn0.refl _ | apply Drawn0.step)⟩
  · rw [if_neg c3] at H
    exact absurd H (by simp)

/-! ### octets_Has: function 38 -/
theorem octets_words.pow_wrap (n : Nat) (h : n < 64) : IntKind.u64.wrap (2 ^ n) = 2 ^ n := by
  have h2 : 2 ^ n < 2 ^ 64 := Nat.pow_lt_pow_right (by decide) h
  have e : (2:Int) ^ n = ((2 ^ n : Nat) : Int) := by simp
  rw [e]
  generalize 2 ^ n = p at h2
  simp [IntKind.wrap, IntKind.bits, IntKind.signed] at *
  omega
theorem octets_words.ret2 {a b c d : Value} (h : a = c) (k : b = d) : Ending.returned (.tuple #[a, b]) = .returned (.tuple #[c, d]) := by rw [h, k]
set_option maxHeartbeats 400000 in
set_option maxRecDepth 100000 in
theorem octets_words.bit (c : Int) (h0 : 0 ≤ c) (h1 : c < 256) (w : World) :
    Calls Tryz.prog 73 #[.int .u8 c] w fun e w' => e = .returned (.tuple #[.int .i64 (c / 64), .int .u64 (2 ^ (c % 64).toNat)]) ∧ w = w' := by
  have hw := Aside0.mk (octets_words.pow_wrap (c % 64).toNat (by omega))
  go_enter Tryz.func73, Tryz.ntmps73
  go_wp2
  go_ret2
  exact ⟨octets_words.ret2 rfl (by show Value.int .u64 _ = _; rw [hw.out]), rfl⟩
/-- A block of four words. -/
def octets_words.B4 (w : World) (g : Nat) (a b c d : Int) : Prop := w.heap[g]? = some (.cells #[.int .u64 a, .int .u64 b, .int .u64 c, .int .u64 d] 77 (0, 0))
theorem octets_words.cells {w : World} {g : Nat} {a b c d : Int} (h : octets_words.B4 w g a b c d) :
    w.cell? ⟨g, 0, none⟩ = some (.int .u64 a) ∧ w.cell? ⟨g, 1, none⟩ = some (.int .u64 b) ∧ w.cell? ⟨g, 2, none⟩ = some (.int .u64 c) ∧ w.cell? ⟨g, 3, none⟩ = some (.int .u64 d) :=
  ⟨blk_cell h 0, blk_cell h 1, blk_cell h 2, blk_cell h 3⟩
theorem octets_words.free {w : World} {g : Nat} {a b c d : Int} (h : octets_words.B4 w g a b c d) (i : Nat) : w.frozen? ⟨g, i, none⟩ = false := blk_frozen h i
def octets_Has.f (a0_0 a0_1 a0_2 a0_3 a1 : Int) : Option Bool :=
  if 0 ≤ a1 ∧ a1 < 256 then some (Go.bits .and .u64 (if a1 / 64 = 0 then a0_0 else if a1 / 64 = 1 then a0_1 else if a1 / 64 = 2 then a0_2 else a0_3) (2 ^ (a1 % 64).toNat) != 0) else none

set_option maxHeartbeats 400000 in
set_option maxRecDepth 100000 in
theorem octets_Has.at0 (x0 x1 x2 x3 c : Int) (h0 : 0 ≤ c) (h1 : c < 64) (w : World) :
    Calls Tryz.prog 38 #[.agg #[.int .u64 x0, .int .u64 x1, .int .u64 x2, .int .u64 x3], .int .u8 c] w fun e w' => e = .returned (.bool (Go.bits .and .u64 x0 (2 ^ (c % 64).toNat) != 0)) ∧ Below w.heap.size w w' := by
  have hd : c / 64 = 0 := by omega
  have HD := Aside0.mk hd
  clear hd
  go_enter Tryz.func38, Tryz.ntmps38
  go_wp2_with fail
  refine (octets_words.bit c (by omega) (by omega) _).mono ?_
  rintro e w' ⟨rfl, rfl⟩
  rw [HD.out]
  go_wp2_with fail
  go_ret
  exact ⟨rfl, below_alloc (Below.refl _ _) _⟩

set_option maxHeartbeats 400000 in
set_option maxRecDepth 100000 in
theorem octets_Has.at1 (x0 x1 x2 x3 c : Int) (h0 : 64 ≤ c) (h1 : c < 128) (w : World) :
    Calls Tryz.prog 38 #[.agg #[.int .u64 x0, .int .u64 x1, .int .u64 x2, .int .u64 x3], .int .u8 c] w fun e w' => e = .returned (.bool (Go.bits .and .u64 x1 (2 ^ (c % 64).toNat) != 0)) ∧ Below w.heap.size w w' := by
  have hd : c / 64 = 1 := by omega
  have HD := Aside0.mk hd
  clear hd
  go_enter Tryz.func38, Tryz.ntmps38
  go_wp2_with fail
  refine (octets_words.bit c (by omega) (by omega) _).mono ?_
  rintro e w' ⟨rfl, rfl⟩
  rw [HD.out]
  go_wp2_with fail
  go_ret
  exact ⟨rfl, below_alloc (Below.refl _ _) _⟩

set_option maxHeartbeats 400000 in
set_option maxRecDepth 100000 in
theorem octets_Has.at2 (x0 x1 x2 x3 c : Int) (h0 : 128 ≤ c) (h1 : c < 192) (w : World) :
    Calls Tryz.prog 38 #[.agg #[.int .u64 x0, .int .u64 x1, .int .u64 x2, .int .u64 x3], .int .u8 c] w fun e w' => e = .returned (.bool (Go.bits .and .u64 x2 (2 ^ (c % 64).toNat) != 0)) ∧ Below w.heap.size w w' := by
  have hd : c / 64 = 2 := by omega
  have HD := Aside0.mk hd
  clear hd
  go_enter Tryz.func38, Tryz.ntmps38
  go_wp2_with fail
  refine (octets_words.bit c (by omega) (by omega) _).mono ?_
  rintro e w' ⟨rfl, rfl⟩
  rw [HD.out]
  go_wp2_with fail
  go_ret
  exact ⟨rfl, below_alloc (Below.refl _ _) _⟩

set_option maxHeartbeats 400000 in
set_option maxRecDepth 100000 in
theorem octets_Has.at3 (x0 x1 x2 x3 c : Int) (h0 : 192 ≤ c) (h1 : c < 256) (w : World) :
    Calls Tryz.prog 38 #[.agg #[.int .u64 x0, .int .u64 x1, .int .u64 x2, .int .u64 x3], .int .u8 c] w fun e w' => e = .returned (.bool (Go.bits .and .u64 x3 (2 ^ (c % 64).toNat) != 0)) ∧ Below w.heap.size w w' := by
  have hd : c / 64 = 3 := by omega
  have HD := Aside0.mk hd
  clear hd
  go_enter Tryz.func38, Tryz.ntmps38
  go_wp2_with fail
  refine (octets_words.bit c (by omega) (by omega) _).mono ?_
  rintro e w' ⟨rfl, rfl⟩
  rw [HD.out]
  go_wp2_with fail
  go_ret
  exact ⟨rfl, below_alloc (Below.refl _ _) _⟩

theorem octets_Has.calls (a0_0 a0_1 a0_2 a0_3 a1 : Int) (r : Bool) (w : World) (h : octets_Has.f a0_0 a0_1 a0_2 a0_3 a1 = some r) :
    Calls Tryz.prog 38 #[.agg #[.int .u64 a0_0, .int .u64 a0_1, .int .u64 a0_2, .int .u64 a0_3], .int .u8 a1] w fun e w' => e = .returned (.bool r) ∧ Below w.heap.size w w' := by
  unfold octets_Has.f at h
  by_cases hc : 0 ≤ a1 ∧ a1 < 256
  · rw [if_pos hc] at h
    have h := (Option.some.inj h).symm
    obtain ⟨h0, h1⟩ := hc
    by_cases c0 : a1 / 64 = 0
    · rw [if_pos c0] at h; subst h; exact octets_Has.at0 _ _ _ _ _ (by omega) (by omega) w
    · rw [if_neg c0] at h
      by_cases c1 : a1 / 64 = 1
      · rw [if_pos c1] at h; subst h; exact octets_Has.at1 _ _ _ _ _ (by omega) (by omega) w
      · rw [if_neg c1] at h
        by_cases c2 : a1 / 64 = 2
        · rw [if_pos c2] at h; subst h; exact octets_Has.at2 _ _ _ _ _ (by omega) (by omega) w
        · rw [if_neg c2] at h; subst h; exact octets_Has.at3 _ _ _ _ _ (by omega) (by omega) w
  · rw [if_neg hc] at h; exact absurd h (by simp)
/-- A byte of a set. -/
theorem octets_Has.set (p : Nat → Bool) (c : Int) (h0 : 0 ≤ c) (h1 : c < 256) : octets_Has.f (Base.wd p 0) (Base.wd p 1) (Base.wd p 2) (Base.wd p 3) c = some (p c.toNat) := by
  obtain ⟨n, rfl⟩ : ∃ n : Nat, c = n := ⟨c.toNat, by omega⟩
  unfold octets_Has.f
  rw [if_pos ⟨h0, h1⟩]
  by_cases c0 : ((n : Int)) / 64 = 0
  · rw [if_pos c0, Base.wd_has p 0 n (by omega)]; rfl
  · rw [if_neg c0]
    by_cases c1 : ((n : Int)) / 64 = 1
    · rw [if_pos c1, Base.wd_has p 1 n (by omega)]; rfl
    · rw [if_neg c1]
      by_cases c2 : ((n : Int)) / 64 = 2
      · rw [if_pos c2, Base.wd_has p 2 n (by omega)]; rfl
      · rw [if_neg c2, Base.wd_has p 3 n (by omega)]; rfl


/-! ### strings_IndexByte: function 76 -/
def strings_IndexByte.f (a0 : ByteArray) (a1 : Int) : Option (Int) := (stringslite_IndexByte.f a0 a1).bind fun t154 => (some t154)
set_option maxHeartbeats 8000000 in
set_option maxRecDepth 100000 in
theorem strings_IndexByte.calls (a0 : ByteArray) (a1 : Int) (r : Int) (w : World) (h : strings_IndexByte.f a0 a1 = some r) :
    Calls Tryz.prog 76 #[.string a0, .int .u8 a1] w fun e w' => e = .returned (.int .i64 r) ∧ Below w.heap.size w w' := by
  have HB := Aside0.mk (Below.refl w.heap.size w)
  have H : ((stringslite_IndexByte.f a0 a1).bind fun t154 => (some t154)) = some r := h
  clear h
  replace H := Option.bind_eq_some_iff.mp H
  obtain ⟨t154, A30, H⟩ := H
  replace H : (some t154) = some r := H
  have A3 := Aside0.mk A30
  clear A30
  obtain rfl := Option.some.inj H
  go_enter Tryz.func76, Tryz.ntmps76
  go_wp2_with (first | ((with_reducible refine gate_callee (f := 117) rfl ?_); refine goesL_ (some 7) rfl rfl Tryz.func117 (by kernel_rfl) rfl #[.string a0, .int .u8 a1] rfl (by (try simp only [List.map_toArray, List.map_cons, List.map_nil]); first | done | rfl | (simp only [List.length_drop, List.length_take]; rfl)) ?_; (with_reducible refine (stringslite_IndexByte.calls a0 a1 t154 _ A3.out).mono ?_); rintro e w4 ⟨rfl, hb⟩; refine ⟨_, rfl, ?_⟩; have n0_ := Aside0.mk (below_step (by repeat (first | (with_reducible first | exact HB.out | apply below_alloc | apply pw_below_drewN | apply below_drew1) | exact HB.out)) hb); clear HB; have HB := n0_; clear n0_; (try clear hb); (try clear hb2); (try clear hk); (try clear hi)))
  go_ret
  exact ⟨by first | rfl | (simp [errW_none, errW_some] <;> rfl) | (simp [*, errW_none, errW_some] <;> rfl), by repeat (first | (with_reducible first | exact HB.out | apply below_alloc | apply pw_below_drewN | apply below_drew1) | exact HB.out)⟩

/-! ### octets_Or: function 41 -/
-- words: function 38's text
def octets_Or.f (a0_0 a0_1 a0_2 a0_3 a1_0 a1_1 a1_2 a1_3 : Int) : Option (Int × Int × Int × Int) := some (Go.bits .or .u64 a0_0 a1_0, Go.bits .or .u64 a0_1 a1_1, Go.bits .or .u64 a0_2 a1_2, Go.bits .or .u64 a0_3 a1_3)
set_option maxHeartbeats 1000000 in
set_option maxRecDepth 100000 in
theorem octets_Or.any (x0 x1 x2 x3 y0 y1 y2 y3 : Int) (w : World) :
    Calls Tryz.prog 41 #[.agg #[.int .u64 x0, .int .u64 x1, .int .u64 x2, .int .u64 x3], .agg #[.int .u64 y0, .int .u64 y1, .int .u64 y2, .int .u64 y3]] w fun e w' => e = .returned (.agg #[.int .u64 (Go.bits .or .u64 x0 y0), .int .u64 (Go.bits .or .u64 x1 y1), .int .u64 (Go.bits .or .u64 x2 y2), .int .u64 (Go.bits .or .u64 x3 y3)]) ∧ Below w.heap.size w w' := by
  go_enter Tryz.func41, Tryz.ntmps41
  go_wp2
  go_loopw [6] (fun i wr => ∃ (k : Nat) (a b c d : Int), k ≤ 4 ∧ i = .int .i64 k ∧ Aside0 (a = (if 0 < k then Go.bits .or .u64 x0 y0 else x0) ∧ b = (if 1 < k then Go.bits .or .u64 x1 y1 else x1) ∧ c = (if 2 < k then Go.bits .or .u64 x2 y2 else x2) ∧ d = (if 3 < k then Go.bits .or .u64 x3 y3 else x3)) ∧ Aside0 (octets_words.B4 wr w.heap.size a b c d) ∧ Aside0 (octets_words.B4 wr (w.heap.size + 1) y0 y1 y2 y3) ∧ Aside0 (octets_words.B4 wr (w.heap.size + 1 + 1) 0 0 0 0) ∧ Aside0 (Below w.heap.size w wr)) (fun i _ => 4 - (intOf i).toNat)
  case atStart =>
    refine ⟨0, x0, x1, x2, x3, by omega, rfl, ⟨by simp⟩, ⟨?_⟩, ⟨?_⟩, ⟨?_⟩, ⟨?_⟩⟩
    · exact blk_alloc (blk_alloc (blk_new _ _) _) _
    · refine blk_alloc ?_ _; simpa using blk_new (w.alloc _) _
    · have := blk_new ((w.alloc (Obj.cells #[Value.int .u64 x0, Value.int .u64 x1, Value.int .u64 x2, Value.int .u64 x3] 77)).alloc (Obj.cells #[Value.int .u64 y0, Value.int .u64 y1, Value.int .u64 y2, Value.int .u64 y3] 77)) (Obj.cells #[Value.int .u64 0, Value.int .u64 0, Value.int .u64 0, Value.int .u64 0] 77)
      simpa [octets_words.B4] using this
    · exact ((((Below.refl _ _).alloc (Nat.le_refl _) _).alloc (by simp) _).alloc (by simp; omega) _)
  case round =>
    obtain ⟨k, a, b, c, d, hk, rfl, he, ha, hb, hc, hd⟩ := hrel
    have fa := fun i => octets_words.free ha.out i
    obtain ⟨a0, a1, a2, a3⟩ := octets_words.cells ha.out
    obtain ⟨b0, b1, b2, b3⟩ := octets_words.cells hb.out
    by_cases hlt : k < 4
    · have q : k = 0 ∨ k = 1 ∨ k = 2 ∨ k = 3 := by omega
      rcases q with rfl | rfl | rfl | rfl
      · have f0 := fa 0
        clear hk hlt fa a1 b1 a2 b2 a3 b3
        go_wp2
        go_region
        all_goals go_wp2
        all_goals go_roundw
        case rel =>
          obtain ⟨e0, e1, e2, e3⟩ := he.out
          refine ⟨1, _, b, c, d, by omega, by go_num, ⟨?_⟩, ⟨blk_put ha.out 0 _ rfl⟩, ⟨blk_far hb.out (by show w.heap.size + 1 ≠ w.heap.size; omega) _⟩, ⟨blk_far hc.out (by show w.heap.size + 1 + 1 ≠ w.heap.size; omega) _⟩, ⟨(hd.out.setCell (by simp) _).drew⟩⟩
          simp [e0, e1, e2, e3]
        case measure => simp [intOf]
      · have f1 := fa 1
        clear hk hlt fa a0 b0 a2 b2 a3 b3
        go_wp2
        go_region
        all_goals go_wp2
        all_goals go_roundw
        case rel =>
          obtain ⟨e0, e1, e2, e3⟩ := he.out
          refine ⟨2, a, _, c, d, by omega, by go_num, ⟨?_⟩, ⟨blk_put ha.out 1 _ rfl⟩, ⟨blk_far hb.out (by show w.heap.size + 1 ≠ w.heap.size; omega) _⟩, ⟨blk_far hc.out (by show w.heap.size + 1 + 1 ≠ w.heap.size; omega) _⟩, ⟨(hd.out.setCell (by simp) _).drew⟩⟩
          simp [e0, e1, e2, e3]
        case measure => simp [intOf]
      · have f2 := fa 2
        clear hk hlt fa a0 b0 a1 b1 a3 b3
        go_wp2
        go_region
        all_goals go_wp2
        all_goals go_roundw
        case rel =>
          obtain ⟨e0, e1, e2, e3⟩ := he.out
          refine ⟨3, a, b, _, d, by omega, by go_num, ⟨?_⟩, ⟨blk_put ha.out 2 _ rfl⟩, ⟨blk_far hb.out (by show w.heap.size + 1 ≠ w.heap.size; omega) _⟩, ⟨blk_far hc.out (by show w.heap.size + 1 + 1 ≠ w.heap.size; omega) _⟩, ⟨(hd.out.setCell (by simp) _).drew⟩⟩
          simp [e0, e1, e2, e3]
        case measure => simp [intOf]
      · have f3 := fa 3
        clear hk hlt fa a0 b0 a1 b1 a2 b2
        go_wp2
        go_region
        all_goals go_wp2
        all_goals go_roundw
        case rel =>
          obtain ⟨e0, e1, e2, e3⟩ := he.out
          refine ⟨4, a, b, c, _, by omega, by go_num, ⟨?_⟩, ⟨blk_put ha.out 3 _ rfl⟩, ⟨blk_far hb.out (by show w.heap.size + 1 ≠ w.heap.size; omega) _⟩, ⟨blk_far hc.out (by show w.heap.size + 1 + 1 ≠ w.heap.size; omega) _⟩, ⟨(hd.out.setCell (by simp) _).drew⟩⟩
          simp [e0, e1, e2, e3]
        case measure => simp [intOf]
    · obtain rfl : k = 4 := by omega
      have fc := fun i => octets_words.free hc.out i
      obtain ⟨c0, c1, c2, c3⟩ := octets_words.cells hc.out
      have f0 := fc 0
      have f1 := fc 1
      have f2 := fc 2
      have f3 := fc 3
      clear fa fc hk hlt
      go_wp2
      obtain ⟨e0, e1, e2, e3⟩ := he.out
      have hz := Aside0.mk (show octets_words.B4 _ (w.heap.size + 1 + 1) a b c d from blk_put (blk_put (blk_put (blk_put hc.out 0 (.int .u64 a) rfl) 1 (.int .u64 b) rfl) 2 (.int .u64 c) rfl) 3 (.int .u64 d) rfl)
      have hb4 := Aside0.mk ((((hd.out.setCell (p := ⟨w.heap.size + 1 + 1, 0, none⟩) (by simp; try omega) (.int .u64 a)).setCell (p := ⟨w.heap.size + 1 + 1, 1, none⟩) (by simp; try omega) (.int .u64 b)).setCell (p := ⟨w.heap.size + 1 + 1, 2, none⟩) (by simp; try omega) (.int .u64 c)).setCell (p := ⟨w.heap.size + 1 + 1, 3, none⟩) (by simp; try omega) (.int .u64 d))
      revert hz hb4
      generalize ((((wr.setCell ⟨w.heap.size + 1 + 1, 0, none⟩ (.int .u64 a)).setCell ⟨w.heap.size + 1 + 1, 1, none⟩ (.int .u64 b)).setCell ⟨w.heap.size + 1 + 1, 2, none⟩ (.int .u64 c)).setCell ⟨w.heap.size + 1 + 1, 3, none⟩ (.int .u64 d)) = W
      intro hz hb4
      obtain ⟨z0, z1, z2, z3⟩ := octets_words.cells hz.out
      refine bodyPost_ret (v := .agg #[.int .u64 a, .int .u64 b, .int .u64 c, .int .u64 d]) (by simp [results, Tryz.results41, go_sem, z0, z1, z2, z3]) rfl ⟨?_, hb4.out⟩
      simp [e0, e1, e2, e3]
theorem octets_Or.calls (a0_0 a0_1 a0_2 a0_3 a1_0 a1_1 a1_2 a1_3 : Int) (r1 r2 r3 r4 : Int) (w : World) (h : octets_Or.f a0_0 a0_1 a0_2 a0_3 a1_0 a1_1 a1_2 a1_3 = some (r1, r2, r3, r4)) :
    Calls Tryz.prog 41 #[.agg #[.int .u64 a0_0, .int .u64 a0_1, .int .u64 a0_2, .int .u64 a0_3], .agg #[.int .u64 a1_0, .int .u64 a1_1, .int .u64 a1_2, .int .u64 a1_3]] w fun e w' => e = .returned (.agg #[.int .u64 r1, .int .u64 r2, .int .u64 r3, .int .u64 r4]) ∧ Below w.heap.size w w' := by
  simp only [octets_Or.f, Option.some.injEq, Prod.mk.injEq] at h
  obtain ⟨rfl, rfl, rfl, rfl⟩ := h
  exact octets_Or.any _ _ _ _ _ _ _ _ w
theorem octets_Or.set (p q : Nat → Bool) : octets_Or.f (Base.wd p 0) (Base.wd p 1) (Base.wd p 2) (Base.wd p 3) (Base.wd q 0) (Base.wd q 1) (Base.wd q 2) (Base.wd q 3) = some (Base.wd (fun n => p n || q n) 0, Base.wd (fun n => p n || q n) 1, Base.wd (fun n => p n || q n) 2, Base.wd (fun n => p n || q n) 3) := by
  simp only [octets_Or.f, Base.wd_or]


/-! ### octets_Range: function 74 -/
-- words: function 38's text
/-- The bytes from a on, below b. -/
def octets_Range.p (a b : Int) : Nat → Bool := fun n => decide (a ≤ (n : Int)) && decide ((n : Int) < b)
theorem octets_Range.step (a : Int) (k : Nat) (h : a ≤ k) : (fun n => octets_Range.p a k n || n == k) = octets_Range.p a (k + 1 : Nat) := by
  funext n
  unfold octets_Range.p
  rw [Bool.eq_iff_iff]
  simp only [Bool.or_eq_true, Bool.and_eq_true, decide_eq_true_eq, beq_iff_eq]
  omega
theorem octets_Range.empty (a : Int) : octets_Range.p a a = fun _ => false := by
  funext n
  unfold octets_Range.p
  rw [Bool.eq_false_iff]
  simp only [ne_eq, Bool.and_eq_true, decide_eq_true_eq]
  omega
def octets_Range.f (a0 a1 : Int) : Option (Int × Int × Int × Int) :=
  if 0 ≤ a0 ∧ a0 ≤ a1 ∧ a1 ≤ 255 then some (Base.wd (octets_Range.p a0 (a1 + 1)) 0, Base.wd (octets_Range.p a0 (a1 + 1)) 1, Base.wd (octets_Range.p a0 (a1 + 1)) 2, Base.wd (octets_Range.p a0 (a1 + 1)) 3) else none
set_option maxHeartbeats 1000000 in
set_option maxRecDepth 100000 in
theorem octets_Range.any (x y : Int) (h0 : 0 ≤ x) (h1 : x ≤ y) (h2 : y ≤ 255) (w : World) :
    Calls Tryz.prog 74 #[.int .u8 x, .int .u8 y] w fun e w' => e = .returned (.agg #[.int .u64 (Base.wd (octets_Range.p x (y + 1)) 0), .int .u64 (Base.wd (octets_Range.p x (y + 1)) 1), .int .u64 (Base.wd (octets_Range.p x (y + 1)) 2), .int .u64 (Base.wd (octets_Range.p x (y + 1)) 3)]) ∧ Below w.heap.size w w' := by
  go_enter Tryz.func74, Tryz.ntmps74
  go_wp2
  go_loopw [6] (fun i wr => ∃ (k : Nat) (a b c d : Int), x ≤ k ∧ k ≤ y + 1 ∧ i = .int .i64 k ∧ Aside0 (a = Base.wd (octets_Range.p x k) 0 ∧ b = Base.wd (octets_Range.p x k) 1 ∧ c = Base.wd (octets_Range.p x k) 2 ∧ d = Base.wd (octets_Range.p x k) 3) ∧ Aside0 (octets_words.B4 wr w.heap.size 0 0 0 0) ∧ Aside0 (octets_words.B4 wr (w.heap.size + 1) a b c d) ∧ Aside0 (Below w.heap.size w wr)) (fun i _ => 256 - (intOf i).toNat)
  case atStart =>
    refine ⟨x.toNat, 0, 0, 0, 0, by omega, by omega, by go_num, ⟨?_⟩, ⟨?_⟩, ⟨?_⟩, ⟨?_⟩⟩
    · have e : ((x.toNat : Nat) : Int) = x := by omega
      rw [e, octets_Range.empty]
      simp only [Base.wd_none, and_self]
    · exact blk_alloc (blk_new _ _) _
    · have := blk_new (w.alloc (Obj.cells #[Value.int .u64 0, Value.int .u64 0, Value.int .u64 0, Value.int .u64 0] 77)) (Obj.cells #[Value.int .u64 0, Value.int .u64 0, Value.int .u64 0, Value.int .u64 0] 77)
      simpa [octets_words.B4] using this
    · exact (((Below.refl _ _).alloc (Nat.le_refl _) _).alloc (by simp) _)
  case round =>
    obtain ⟨k, a, b, c, d, hk, hk2, rfl, he, hb, ha, hd⟩ := hrel
    have fa := fun i => octets_words.free ha.out i
    obtain ⟨a0, a1, a2, a3⟩ := octets_words.cells ha.out
    by_cases hlt : (k : Int) ≤ y
    · have q : k / 64 = 0 ∨ k / 64 = 1 ∨ k / 64 = 2 ∨ k / 64 = 3 := by omega
      have hk8 : (k : Int) < 256 := by omega
      rcases q with q | q | q | q
      · have f0 := fa 0
        have Q := Aside0.mk q
        have hd64 : Aside0 (((k : Nat) : Int) / 64 = 0) := ⟨by omega⟩
        clear q fa a1 a2 a3 
        go_wp2_with fail
        refine (octets_words.bit (k : Int) (by omega) (by omega) _).mono ?_
        rintro e w' ⟨rfl, rfl⟩
        rw [hd64.out]
        go_wp2_with fail
        go_roundw
        case rel =>
          obtain ⟨e0, e1, e2, e3⟩ := he.out
          have q := Q.out
          refine ⟨k + 1, _, b, c, d, by omega, by omega, by go_num, ⟨?_⟩, ⟨blk_far hb.out (by show w.heap.size ≠ w.heap.size + 1; omega) _⟩, ⟨blk_put ha.out 0 _ rfl⟩, ⟨hd.out.setCell (by simp) _⟩⟩
          rw [← octets_Range.step x k hk]
          refine ⟨by rw [e0]; exact Base.wd_add _ 0 _ (by omega), by rw [e1]; exact Base.wd_other _ 1 _ (by omega), by rw [e2]; exact Base.wd_other _ 2 _ (by omega), by rw [e3]; exact Base.wd_other _ 3 _ (by omega)⟩
        case measure => simp [intOf]; omega
      · have f1 := fa 1
        have Q := Aside0.mk q
        have hd64 : Aside0 (((k : Nat) : Int) / 64 = 1) := ⟨by omega⟩
        clear q fa a0 a2 a3 
        go_wp2_with fail
        refine (octets_words.bit (k : Int) (by omega) (by omega) _).mono ?_
        rintro e w' ⟨rfl, rfl⟩
        rw [hd64.out]
        go_wp2_with fail
        go_roundw
        case rel =>
          obtain ⟨e0, e1, e2, e3⟩ := he.out
          have q := Q.out
          refine ⟨k + 1, a, _, c, d, by omega, by omega, by go_num, ⟨?_⟩, ⟨blk_far hb.out (by show w.heap.size ≠ w.heap.size + 1; omega) _⟩, ⟨blk_put ha.out 1 _ rfl⟩, ⟨hd.out.setCell (by simp) _⟩⟩
          rw [← octets_Range.step x k hk]
          refine ⟨by rw [e0]; exact Base.wd_other _ 0 _ (by omega), by rw [e1]; exact Base.wd_add _ 1 _ (by omega), by rw [e2]; exact Base.wd_other _ 2 _ (by omega), by rw [e3]; exact Base.wd_other _ 3 _ (by omega)⟩
        case measure => simp [intOf]; omega
      · have f2 := fa 2
        have Q := Aside0.mk q
        have hd64 : Aside0 (((k : Nat) : Int) / 64 = 2) := ⟨by omega⟩
        clear q fa a0 a1 a3 
        go_wp2_with fail
        refine (octets_words.bit (k : Int) (by omega) (by omega) _).mono ?_
        rintro e w' ⟨rfl, rfl⟩
        rw [hd64.out]
        go_wp2_with fail
        go_roundw
        case rel =>
          obtain ⟨e0, e1, e2, e3⟩ := he.out
          have q := Q.out
          refine ⟨k + 1, a, b, _, d, by omega, by omega, by go_num, ⟨?_⟩, ⟨blk_far hb.out (by show w.heap.size ≠ w.heap.size + 1; omega) _⟩, ⟨blk_put ha.out 2 _ rfl⟩, ⟨hd.out.setCell (by simp) _⟩⟩
          rw [← octets_Range.step x k hk]
          refine ⟨by rw [e0]; exact Base.wd_other _ 0 _ (by omega), by rw [e1]; exact Base.wd_other _ 1 _ (by omega), by rw [e2]; exact Base.wd_add _ 2 _ (by omega), by rw [e3]; exact Base.wd_other _ 3 _ (by omega)⟩
        case measure => simp [intOf]; omega
      · have f3 := fa 3
        have Q := Aside0.mk q
        have hd64 : Aside0 (((k : Nat) : Int) / 64 = 3) := ⟨by omega⟩
        clear q fa a0 a1 a2 
        go_wp2_with fail
        refine (octets_words.bit (k : Int) (by omega) (by omega) _).mono ?_
        rintro e w' ⟨rfl, rfl⟩
        rw [hd64.out]
        go_wp2_with fail
        go_roundw
        case rel =>
          obtain ⟨e0, e1, e2, e3⟩ := he.out
          have q := Q.out
          refine ⟨k + 1, a, b, c, _, by omega, by omega, by go_num, ⟨?_⟩, ⟨blk_far hb.out (by show w.heap.size ≠ w.heap.size + 1; omega) _⟩, ⟨blk_put ha.out 3 _ rfl⟩, ⟨hd.out.setCell (by simp) _⟩⟩
          rw [← octets_Range.step x k hk]
          refine ⟨by rw [e0]; exact Base.wd_other _ 0 _ (by omega), by rw [e1]; exact Base.wd_other _ 1 _ (by omega), by rw [e2]; exact Base.wd_other _ 2 _ (by omega), by rw [e3]; exact Base.wd_add _ 3 _ (by omega)⟩
        case measure => simp [intOf]; omega
    · have hy : (k : Int) = y + 1 := by omega
      have fc := fun i => octets_words.free hb.out i
      obtain ⟨c0, c1, c2, c3⟩ := octets_words.cells hb.out
      have f0 := fc 0
      have f1 := fc 1
      have f2 := fc 2
      have f3 := fc 3
      have HY := Aside0.mk hy
      clear fa fc hy
      go_wp2
      obtain ⟨e0, e1, e2, e3⟩ := he.out
      have hz := Aside0.mk (show octets_words.B4 _ (w.heap.size) a b c d from blk_put (blk_put (blk_put (blk_put hb.out 0 (.int .u64 a) rfl) 1 (.int .u64 b) rfl) 2 (.int .u64 c) rfl) 3 (.int .u64 d) rfl)
      have hb4 := Aside0.mk ((((hd.out.setCell (p := ⟨w.heap.size, 0, none⟩) (by simp; try omega) (.int .u64 a)).setCell (p := ⟨w.heap.size, 1, none⟩) (by simp; try omega) (.int .u64 b)).setCell (p := ⟨w.heap.size, 2, none⟩) (by simp; try omega) (.int .u64 c)).setCell (p := ⟨w.heap.size, 3, none⟩) (by simp; try omega) (.int .u64 d))
      revert hz hb4
      generalize ((((wr.setCell ⟨w.heap.size, 0, none⟩ (.int .u64 a)).setCell ⟨w.heap.size, 1, none⟩ (.int .u64 b)).setCell ⟨w.heap.size, 2, none⟩ (.int .u64 c)).setCell ⟨w.heap.size, 3, none⟩ (.int .u64 d)) = W
      intro hz hb4
      obtain ⟨z0, z1, z2, z3⟩ := octets_words.cells hz.out
      refine bodyPost_ret (v := .agg #[.int .u64 a, .int .u64 b, .int .u64 c, .int .u64 d]) (by simp [results, Tryz.results74, go_sem, z0, z1, z2, z3]) rfl ⟨?_, hb4.out⟩
      rw [HY.out] at e0 e1 e2 e3
      rw [e0, e1, e2, e3]
theorem octets_Range.calls (a0 a1 : Int) (r1 r2 r3 r4 : Int) (w : World) (h : octets_Range.f a0 a1 = some (r1, r2, r3, r4)) :
    Calls Tryz.prog 74 #[.int .u8 a0, .int .u8 a1] w fun e w' => e = .returned (.agg #[.int .u64 r1, .int .u64 r2, .int .u64 r3, .int .u64 r4]) ∧ Below w.heap.size w w' := by
  unfold octets_Range.f at h
  by_cases hc : 0 ≤ a0 ∧ a0 ≤ a1 ∧ a1 ≤ 255
  · rw [if_pos hc] at h
    simp only [Option.some.injEq, Prod.mk.injEq] at h
    obtain ⟨rfl, rfl, rfl, rfl⟩ := h
    exact octets_Range.any a0 a1 hc.1 hc.2.1 hc.2.2 w
  · rw [if_neg hc] at h; exact absurd h (by simp)


end Go.Proofs.YtiihgddpejmehaaGreatDoor.ZA

/- b64.swap, b64.pad. -/
import Derived.Test.YtgmieceebchmfaaDoorB64t
import Derived.Test.YtgmieceebchmfaaDoorB64b
import Derived.Test.YtgmieceebchmfaaDoorRowF
import Derived.Test.YtgmieceebchmfaaDoorShelf
import Derived.Deep.LoopGhost
set_option linter.unusedVariables false
namespace Go.Proofs.YtgmieceebchmfaaDoor
open Go.RowKit

theorem idx_two (a0 a1 c : UInt8) : Lib.indexByte [a0, a1] c = if a0 = c then 0 else if a1 = c then 1 else -1 := by
  unfold Lib.indexByte
  by_cases h0 : a0 = c
  · subst h0; simp
  · have e0 : (a0 == c) = false := by simpa using h0
    rw [e0, if_neg h0]
    unfold Lib.indexByte
    by_cases h1 : a1 = c
    · subst h1; simp
    · have e1 : (a1 == c) = false := by simpa using h1
      rw [e1, if_neg h1]
      rfl

set_option maxRecDepth 100000 in
set_option maxHeartbeats 4000000 in
theorem pad_any (n : Nat) (w : World) (hn : n ≤ 1000000) :
    Calls Tryd.prog 43 #[.int .i64 (n : Int)] w fun e w' => e = .returned (.string ⟨(List.replicate (padN n) (61 : UInt8)).toArray⟩) ∧ Below w.heap.size w w' := by
  have hr := Tryd.strings_Repeat ⟨#[61]⟩ (padN n) w (by unfold padN; omega) (by unfold padN; simp [ByteArray.size]; omega)
  have e1 : Lib.repeatL (⟨#[61]⟩ : ByteArray).data.toList (padN n) = List.replicate (padN n) 61 := by
    have := Lib.repeatL_replicate 61 1 (padN n)
    simpa using this
  rw [e1] at hr
  have e2 : ((padN n : Nat) : Int) = -((n : Int) % 4) % 4 := by unfold padN; omega
  rw [e2] at hr
  have HR := Lib.hid hr
  clear hr e1
  go_enter Tryd.func43, Tryd.ntmps43
  go_wp2_with fail
  refine HR.out.mono ?_
  rintro e w1 ⟨rfl, hb1⟩
  go_wp2_with fail
  go_ret
  exact ⟨rfl, hb1⟩

theorem swF_no {a0 a1 b0 b1 c : UInt8} (h0 : ¬ a0 = c) (h1 : ¬ a1 = c) : swF a0 a1 b0 b1 c = c := by
  unfold swF
  rw [if_neg (fun e => h0 e.symm), if_neg (fun e => h1 e.symm)]
theorem swF_0 {a0 a1 b0 b1 c : UInt8} (h0 : a0 = c) : swF a0 a1 b0 b1 c = b0 := by
  unfold swF
  rw [if_pos h0.symm]
theorem swF_1 {a0 a1 b0 b1 c : UInt8} (h0 : ¬ a0 = c) (h1 : a1 = c) : swF a0 a1 b0 b1 c = b1 := by
  unfold swF
  rw [if_neg (fun e => h0 e.symm), if_pos h1.symm]

set_option maxRecDepth 100000 in
set_option maxHeartbeats 8000000 in
theorem swap_any (s : List UInt8) (a0 a1 b0 b1 : UInt8) (w : World) (hs : s.length ≤ 1000000) :
    Calls Tryd.prog 42 #[.string ⟨s.toArray⟩, .string ⟨#[a0, a1]⟩, .string ⟨#[b0, b1]⟩] w fun e w' => e = .returned (.string ⟨(s.map (swF a0 a1 b0 b1)).toArray⟩) ∧ Below w.heap.size w w' := by
  obtain ⟨g, cp, w1, hcv, hb1, htf⟩ := tf_of_str s w hs
  have HB1 := Lib.hid hb1
  have htf0 : Tf w.heap.size w1 (.slice (some ⟨g, 0, none⟩) s.length cp) (swAt (swF a0 a1 b0 b1) s 0) := by rw [swAt_zero]; exact htf
  have HT := Lib.hid htf0
  have hk : ∀ c : UInt8, Lib.indexByte (⟨#[a0, a1]⟩ : ByteArray).data.toList c = if a0 = c then 0 else if a1 = c then 1 else -1 := fun c => idx_two a0 a1 c
  have hx0 := fun w => str_at [b0, b1] 0 (by simp) w
  have hx1 := fun w => str_at [b0, b1] 1 (by simp) w
  simp only [List.getElem_cons_zero, List.getElem_cons_succ] at hx0 hx1
  clear hb1 htf htf0
  go_enter Tryd.func42, Tryd.ntmps42
  go_wp2_with fail
  go_loopg [15] s.length (fun k y wr => ∃ j : Nat, y = .int .i64 (j : Int) ∧ j + k = s.length ∧ Hid (Tf w.heap.size wr (.slice (some ⟨g, 0, none⟩) s.length cp) (swAt (swF a0 a1 b0 b1) s j)) ∧ Hid (Below w.heap.size w wr))
  case atStart => exact ⟨0, rfl, by omega, HT, HB1⟩
  case round =>
    obtain ⟨j, rfl, hj, HT1, HB⟩ := hrel
    obtain ⟨g', c', hv, hgB, hgl, hrd, hcl, hfz⟩ := HT1.out.shape
    simp at hv
    obtain ⟨rfl, hv2, rfl⟩ := hv
    by_cases hlt : j < s.length
    · have hltI : (j : Int) < (s.length : Int) := by omega
      have hcell := hcl j (by rw [swAt_len]; exact hlt)
      have hfrz := hfz j (by rw [swAt_len]; exact hlt)
      rw [swAt_get _ _ _ hlt] at hcell
      have hset := swAt_set (swF a0 a1 b0 b1) s j hlt
      have hsame := swAt_same (swF a0 a1 b0 b1) s j hlt
      generalize s[j] = c at *
      have HSET := Lib.hid hset
      have HSAME := Lib.hid hsame
      clear hset hsame hcl hfz hrd hv2
      have hkc := hk c
      by_cases h0 : a0 = c
      · subst h0
        rw [if_pos rfl] at hkc
        have hib := Tryd.strings_IndexByte ⟨#[a0, a1]⟩ (a0.toNat : Int) wr
        rw [show ((a0.toNat : Nat) : Int).toNat.toUInt8 = a0 by simp [Nat.toUInt8], hkc] at hib
        have HIB := Lib.hid hib
        clear hib hkc
        go_wp2_with fail
        refine HIB.out.mono ?_
        rintro e w2 ⟨rfl, rfl⟩
        go_wp2_with fail
        go_roundg (gk - 1)
        case measure => omega
        case rel => exact ⟨j + 1, by first | rfl | (congr 1), by omega, Lib.hid (by rw [← HSET.out, swF_0 rfl]; exact HT1.out.set j b0 (by rw [swAt_len]; exact hlt)), Lib.hid (HB.out.setCell (p := ⟨g, j, none⟩) hgB _)⟩
      by_cases h1 : a1 = c
      · subst h1
        rw [if_neg h0, if_pos rfl] at hkc
        have hib := Tryd.strings_IndexByte ⟨#[a0, a1]⟩ (a1.toNat : Int) wr
        rw [show ((a1.toNat : Nat) : Int).toNat.toUInt8 = a1 by simp [Nat.toUInt8], hkc] at hib
        have HIB := Lib.hid hib
        clear hib hkc
        go_wp2_with fail
        refine HIB.out.mono ?_
        rintro e w2 ⟨rfl, rfl⟩
        go_wp2_with fail
        go_roundg (gk - 1)
        case measure => omega
        case rel => exact ⟨j + 1, by first | rfl | (congr 1), by omega, Lib.hid (by rw [← HSET.out, swF_1 h0 rfl]; exact HT1.out.set j b1 (by rw [swAt_len]; exact hlt)), Lib.hid (HB.out.setCell (p := ⟨g, j, none⟩) hgB _)⟩
      · rw [if_neg h0, if_neg h1] at hkc
        have hsm := HSAME.out (swF_no h0 h1)
        have HSM := Lib.hid hsm
        clear hsm h0 h1
        have hib := Tryd.strings_IndexByte ⟨#[a0, a1]⟩ (c.toNat : Int) wr
        rw [show ((c.toNat : Nat) : Int).toNat.toUInt8 = c by simp [Nat.toUInt8], hkc] at hib
        have HIB := Lib.hid hib
        clear hib hkc
        go_wp2_with fail
        refine HIB.out.mono ?_
        rintro e w2 ⟨rfl, rfl⟩
        go_wp2_with fail
        go_roundg (gk - 1)
        case measure => omega
        case rel => exact ⟨j + 1, by first | rfl | (congr 1), by omega, Lib.hid (by rw [← HSM.out]; exact HT1.out), HB⟩
    · have hltI : ¬ (j : Int) < (s.length : Int) := by omega
      obtain rfl : j = s.length := by omega
      have ht := HT1.out
      rw [swAt_end] at ht
      obtain ⟨g'', c'', hv, _, _, hrd2, _⟩ := ht.shape
      have hst := str_of_rd hrd2 s.length cp (by simp)
      simp at hv
      obtain ⟨rfl, -, rfl⟩ := hv
      clear hv2 hcl hfz hrd hrd2 ht hx0 hx1 hk hcv
      go_wp2_with fail
      go_ret
      exact ⟨rfl, HB.out⟩
end Go.Proofs.YtgmieceebchmfaaDoor

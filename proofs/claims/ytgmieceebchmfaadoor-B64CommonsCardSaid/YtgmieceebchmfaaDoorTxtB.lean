/- text.Wrong. -/
import Derived.Test.YtgmieceebchmfaaDoorTxtA
import Derived.Test.YtgmieceebchmfaaDoorRow
import Derived.Test.YtgmieceebchmfaaDoorGrowB
import Derived.Deep.DeepCutAuto
set_option linter.unusedVariables false
namespace Go.Proofs.YtgmieceebchmfaaDoor
open Go.RowKit

def spcell (p : Nat × Nat) : List Value := [.int .u8 (p.1 : Int), .int .u8 (p.2 : Int)]
theorem spcell_len (p : Nat × Nat) : (spcell p).length = 2 := rfl

set_option maxRecDepth 100000 in
set_option maxHeartbeats 4000000 in
theorem has_any (lo hi c : Nat) (w : World) :
    Calls Tryd.prog 49 #[.agg #[.int .u8 (lo : Int), .int .u8 (hi : Int)], .int .u8 (c : Int)] w fun e w' => e = .returned (.bool (hasB (lo, hi) c)) ∧ Below w.heap.size w w' := by
  have hv : hasB (lo, hi) c = (decide ((lo : Int) ≤ (c : Int)) && decide ((c : Int) ≤ (hi : Int))) := by
    unfold hasB
    congr 1 <;> (rw [Bool.eq_iff_iff]; simp)
  have hb : Below w.heap.size w (w.alloc (.cells #[.int .u8 (lo : Int), .int .u8 (hi : Int)] 80)) := (Below.refl _ _).alloc (Nat.le_refl _) _
  have HV := Lib.hid hv
  have HB := Lib.hid hb
  clear hv hb
  by_cases h1 : (lo : Int) ≤ (c : Int) <;> by_cases h2 : (c : Int) ≤ (hi : Int)
  all_goals
    go_enter Tryd.func49, Tryd.ntmps49
    go_wp2_with fail
    refine bodyPost_ret (results_tmp rfl _ _ _) rfl ?_
    exact ⟨by rw [HV.out]; first | rfl | (simp [h1, h2, Array.getD]; done) | (simp [h1, h2, Array.getD]; omega), HB.out⟩

set_option maxHeartbeats 1000000 in
theorem further_any (w : World) :
    Calls Tryd.prog 65 #[] w fun e w' => e = .returned (.agg #[.int .u8 128, .int .u8 191]) ∧ Below w.heap.size w w' := by
  go_enter Tryd.func65, Tryd.ntmps65
  go_wp2
  refine bodyPost_ret (v := .agg #[.int .u8 128, .int .u8 191]) (by simp [results, Tryd.results65, go_sem]) rfl ⟨rfl, ?_⟩
  exact (Below.refl _ _).alloc (Nat.le_refl _) _
def BehindIs (c : Nat) (e : Ending) (w' : World) : Prop :=
  (∃ l a cp, behindL c = some l ∧ e = .returned (.tuple #[.slice a l.length cp, .bool true]) ∧ RdC w' a (l.flatMap spcell)) ∨ (behindL c = none ∧ e = .returned (.tuple #[.slice none 0 0, .bool false]))
theorem heap_new2 (w : World) (o o' : Obj) : ((w.alloc o).alloc o').heap[w.heap.size + 1]? = some o' := by
  have h := heap_alloc_new (w.alloc o) o'
  have e : (w.alloc o).heap.size = w.heap.size + 1 := by simp
  rwa [e] at h

set_option maxRecDepth 100000 in
set_option maxHeartbeats 8000000 in
theorem behind_any (c : Nat) (hc : c < 256) (w : World) :
    Calls Tryd.prog 48 #[.int .u8 (c : Int)] w fun e w' => BehindIs c e w' ∧ Below w.heap.size w w' := by
  by_cases h0 : c < 128
  · have hv : behindL c = some [] := by unfold behindL; rw [if_pos h0]
    have HV := Lib.hid hv
    clear hv
    have e224 : ¬ (c : Int) = 224 := by omega
    have e237 : ¬ (c : Int) = 237 := by omega
    have e240 : ¬ (c : Int) = 240 := by omega
    have e244 : ¬ (c : Int) = 244 := by omega
    go_enter Tryd.func48, Tryd.ntmps48
    go_wp2_with fail
    refine (further_any _).mono ?_
    rintro e w1 ⟨rfl, hb1⟩
    have HB1 := Lib.hid (hb1.alloc hb1.size (.cells #[.int .u8 128, .int .u8 191] 80))
    have hsz := hb1.size
    clear hb1
    go_wp2_with fail
    go_ret2
    exact ⟨.inl ⟨[], none, 0, HV.out, rfl, .inl rfl⟩, HB1.out⟩
  by_cases h1 : c < 194
  · have hv : behindL c = none := by unfold behindL; rw [if_neg h0, if_pos h1]
    have HV := Lib.hid hv
    clear hv
    have e224 : ¬ (c : Int) = 224 := by omega
    have e237 : ¬ (c : Int) = 237 := by omega
    have e240 : ¬ (c : Int) = 240 := by omega
    have e244 : ¬ (c : Int) = 244 := by omega
    go_enter Tryd.func48, Tryd.ntmps48
    go_wp2_with fail
    refine (further_any _).mono ?_
    rintro e w1 ⟨rfl, hb1⟩
    have HB1 := Lib.hid (hb1.alloc hb1.size (.cells #[.int .u8 128, .int .u8 191] 80))
    have hsz := hb1.size
    clear hb1
    go_wp2_with fail
    go_ret2
    exact ⟨.inr ⟨HV.out, rfl⟩, HB1.out⟩
  by_cases h2 : c < 224
  · have hv : behindL c = some [(128, 191)] := by unfold behindL; rw [if_neg h0, if_neg h1, if_pos h2]
    have HV := Lib.hid hv
    clear hv
    have e224 : ¬ (c : Int) = 224 := by omega
    have e237 : ¬ (c : Int) = 237 := by omega
    have e240 : ¬ (c : Int) = 240 := by omega
    have e244 : ¬ (c : Int) = 244 := by omega
    go_enter Tryd.func48, Tryd.ntmps48
    go_wp2_with fail
    refine (further_any _).mono ?_
    rintro e w1 ⟨rfl, hb1⟩
    have HB1 := Lib.hid (hb1.alloc hb1.size (.cells #[.int .u8 128, .int .u8 191] 80))
    have hsz := hb1.size
    clear hb1
    go_wp2_with fail
    go_ret2
    exact ⟨.inl ⟨_, _, _, HV.out, rfl, RdC.of_lit (heap_new2 _ _ _) rfl⟩, HB1.out.alloc (by simp; omega) _⟩
  by_cases h3 : c = 224
  · have hv : behindL c = some [(160, 191), (128, 191)] := by unfold behindL; rw [if_neg h0, if_neg h1, if_neg h2, if_pos h3]
    have HV := Lib.hid hv
    clear hv
    subst h3
    go_enter Tryd.func48, Tryd.ntmps48
    go_wp2_with fail
    refine (further_any _).mono ?_
    rintro e w1 ⟨rfl, hb1⟩
    have HB1 := Lib.hid (hb1.alloc hb1.size (.cells #[.int .u8 128, .int .u8 191] 80))
    have hsz := hb1.size
    clear hb1
    go_wp2_with fail
    go_ret2
    exact ⟨.inl ⟨_, _, _, HV.out, rfl, RdC.of_lit (heap_new2 _ _ _) rfl⟩, HB1.out.alloc (by simp; omega) _⟩
  by_cases h4 : c = 237
  · have hv : behindL c = some [(128, 159), (128, 191)] := by unfold behindL; rw [if_neg h0, if_neg h1, if_neg h2, if_neg h3, if_pos h4]
    have HV := Lib.hid hv
    clear hv
    subst h4
    go_enter Tryd.func48, Tryd.ntmps48
    go_wp2_with fail
    refine (further_any _).mono ?_
    rintro e w1 ⟨rfl, hb1⟩
    have HB1 := Lib.hid (hb1.alloc hb1.size (.cells #[.int .u8 128, .int .u8 191] 80))
    have hsz := hb1.size
    clear hb1
    go_wp2_with fail
    go_ret2
    exact ⟨.inl ⟨_, _, _, HV.out, rfl, RdC.of_lit (heap_new2 _ _ _) rfl⟩, HB1.out.alloc (by simp; omega) _⟩
  by_cases h5 : c < 240
  · have hv : behindL c = some [(128, 191), (128, 191)] := by unfold behindL; rw [if_neg h0, if_neg h1, if_neg h2, if_neg h3, if_neg h4, if_pos h5]
    have HV := Lib.hid hv
    clear hv
    have e224 : ¬ (c : Int) = 224 := by omega
    have e237 : ¬ (c : Int) = 237 := by omega
    have e240 : ¬ (c : Int) = 240 := by omega
    have e244 : ¬ (c : Int) = 244 := by omega
    go_enter Tryd.func48, Tryd.ntmps48
    go_wp2_with fail
    refine (further_any _).mono ?_
    rintro e w1 ⟨rfl, hb1⟩
    have HB1 := Lib.hid (hb1.alloc hb1.size (.cells #[.int .u8 128, .int .u8 191] 80))
    have hsz := hb1.size
    clear hb1
    go_wp2_with fail
    go_ret2
    exact ⟨.inl ⟨_, _, _, HV.out, rfl, RdC.of_lit (heap_new2 _ _ _) rfl⟩, HB1.out.alloc (by simp; omega) _⟩
  by_cases h6 : c = 240
  · have hv : behindL c = some [(144, 191), (128, 191), (128, 191)] := by unfold behindL; rw [if_neg h0, if_neg h1, if_neg h2, if_neg h3, if_neg h4, if_neg h5, if_pos h6]
    have HV := Lib.hid hv
    clear hv
    subst h6
    go_enter Tryd.func48, Tryd.ntmps48
    go_wp2_with fail
    refine (further_any _).mono ?_
    rintro e w1 ⟨rfl, hb1⟩
    have HB1 := Lib.hid (hb1.alloc hb1.size (.cells #[.int .u8 128, .int .u8 191] 80))
    have hsz := hb1.size
    clear hb1
    go_wp2_with fail
    go_ret2
    exact ⟨.inl ⟨_, _, _, HV.out, rfl, RdC.of_lit (heap_new2 _ _ _) rfl⟩, HB1.out.alloc (by simp; omega) _⟩
  by_cases h7 : c < 244
  · have hv : behindL c = some [(128, 191), (128, 191), (128, 191)] := by unfold behindL; rw [if_neg h0, if_neg h1, if_neg h2, if_neg h3, if_neg h4, if_neg h5, if_neg h6, if_pos h7]
    have HV := Lib.hid hv
    clear hv
    have e224 : ¬ (c : Int) = 224 := by omega
    have e237 : ¬ (c : Int) = 237 := by omega
    have e240 : ¬ (c : Int) = 240 := by omega
    have e244 : ¬ (c : Int) = 244 := by omega
    go_enter Tryd.func48, Tryd.ntmps48
    go_wp2_with fail
    refine (further_any _).mono ?_
    rintro e w1 ⟨rfl, hb1⟩
    have HB1 := Lib.hid (hb1.alloc hb1.size (.cells #[.int .u8 128, .int .u8 191] 80))
    have hsz := hb1.size
    clear hb1
    go_wp2_with fail
    go_ret2
    exact ⟨.inl ⟨_, _, _, HV.out, rfl, RdC.of_lit (heap_new2 _ _ _) rfl⟩, HB1.out.alloc (by simp; omega) _⟩
  by_cases h8 : c = 244
  · have hv : behindL c = some [(128, 143), (128, 191), (128, 191)] := by unfold behindL; rw [if_neg h0, if_neg h1, if_neg h2, if_neg h3, if_neg h4, if_neg h5, if_neg h6, if_neg h7, if_pos h8]
    have HV := Lib.hid hv
    clear hv
    subst h8
    go_enter Tryd.func48, Tryd.ntmps48
    go_wp2_with fail
    refine (further_any _).mono ?_
    rintro e w1 ⟨rfl, hb1⟩
    have HB1 := Lib.hid (hb1.alloc hb1.size (.cells #[.int .u8 128, .int .u8 191] 80))
    have hsz := hb1.size
    clear hb1
    go_wp2_with fail
    go_ret2
    exact ⟨.inl ⟨_, _, _, HV.out, rfl, RdC.of_lit (heap_new2 _ _ _) rfl⟩, HB1.out.alloc (by simp; omega) _⟩
  have hv : behindL c = none := by unfold behindL; rw [if_neg h0, if_neg h1, if_neg h2, if_neg h3, if_neg h4, if_neg h5, if_neg h6, if_neg h7, if_neg h8]
  have HV := Lib.hid hv
  clear hv
  have e224 : ¬ (c : Int) = 224 := by omega
  have e237 : ¬ (c : Int) = 237 := by omega
  have e240 : ¬ (c : Int) = 240 := by omega
  have e244 : ¬ (c : Int) = 244 := by omega
  go_enter Tryd.func48, Tryd.ntmps48
  go_wp2_with fail
  refine (further_any _).mono ?_
  rintro e w1 ⟨rfl, hb1⟩
  have HB1 := Lib.hid (hb1.alloc hb1.size (.cells #[.int .u8 128, .int .u8 191] 80))
  have hsz := hb1.size
  clear hb1
  go_wp2_with fail
  go_ret2
  exact ⟨.inr ⟨HV.out, rfl⟩, HB1.out⟩
end Go.Proofs.YtgmieceebchmfaaDoor

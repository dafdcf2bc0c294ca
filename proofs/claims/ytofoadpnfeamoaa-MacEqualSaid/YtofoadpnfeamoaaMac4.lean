/- MacLong, MacEqual. -/
import Derived.Test.YtofoadpnfeamoaaMac3
set_option linter.unusedVariables false
namespace Go.Proofs.Ytofoadpnfeamoaa
open Go.RowKit

set_option maxRecDepth 100000 in
set_option maxHeartbeats 4000000 in
theorem macLong_walk (a : Option Addr) (c : Nat) (l : List UInt8) (b : Option Addr) (d : Nat) (m : List UInt8) (w : World) (hr : Rd w a l) (hr2 : Rd w b m) :
    Calls Try.prog 14 #[.slice a l.length c, .slice b m.length d] w fun e w' => e = .returned (.bool true) ∧ Below w.heap.size w w' := by
  go_enter Try.func14, Try.ntmps14
  go_wp2_with fail
  refine (anchor02_any w).mono ?_
  rintro e w1 ⟨rfl, hb1⟩
  have HRL := Lib.hid (hr.below hb1)
  have HRM := Lib.hid (hr2.below hb1)
  have HB1 := Lib.hid hb1
  clear hr hr2 hb1
  by_cases hg : 64 < l.length ∧ l.length ≤ 300 ∧ m.length ≤ 200
  · obtain ⟨h1, h2, h3⟩ := hg
    have h1I : ¬ (l.length : Int) ≤ 64 := by omega
    have h2I : (l.length : Int) ≤ 300 := by omega
    have h3I : (m.length : Int) ≤ 200 := by omega
    have HLO := Lib.hid (mac_long l m h1)
    go_upto_region 5 with (fail)
    have hlong := HLO.out
    have hrl := HRL.out
    have hrm := HRM.out
    refine wp_region_grow (by kernel_rfl) (by kernel_rfl) [20, 21, 22, 23, 24, 25, 26, 27, 28, 29, 30, 31, 4] rfl (by decide) (by kernel_rfl) (fun i => [VIs (.slice a l.length c), VIs (.slice b m.length d), VParts [m], VBytes (mac l m), VStr (mac l m), VIs (.slice a l.length c), VBytes (sha (l)), VIs (.slice b m.length d), VParts [m], VBytes (mac l m), VStr (mac l m), VIs (.bool true), VIs (.bool true)].getD i fun _ _ => True) (stab_list _ ?_) ?_ ?_
    · intro V hV
      simp only [List.mem_cons, List.mem_nil_iff, or_false] at hV
      rcases hV with rfl | rfl | rfl | rfl | rfl | rfl | rfl | rfl | rfl | rfl | rfl | rfl | rfl <;> first | exact VIs.stab _ | exact VBytes.stab _ | exact VStr.stab _ | exact VParts.stab _ | exact VRow.stab _ | exact VRow8.stab _ _
    · intro i o ho a' w' hf hb hd
      rcases i with _ | _ | _ | _ | _ | _ | _ | _ | _ | _ | _ | _ | _ | i
      · cases ho
        refine grow_op rfl rfl rfl (grow_move rfl ?_)
        exact (hf.same 0 (by decide)).trans rfl
      · cases ho
        refine grow_op rfl rfl rfl (grow_move rfl ?_)
        exact (hf.same 1 (by decide)).trans rfl
      · cases ho
        refine grow_op rfl rfl rfl ?_
        exact grow_part rfl (hd 1 (by kernel_rfl)) (hrm.below hb)
      · cases ho
        refine grow_op rfl rfl rfl ?_
        exact grow_code (by simp) rfl ⟨_, _, hd 0 (by kernel_rfl), hrl.below hb⟩ (hd 2 (by kernel_rfl)) (by omega) (by simp) (by omega)
      · cases ho
        refine grow_op rfl rfl rfl ?_
        exact grow_str rfl (hd 3 (by kernel_rfl))
      · cases ho
        refine grow_op rfl rfl rfl (grow_move rfl ?_)
        exact (hf.same 0 (by decide)).trans rfl
      · cases ho
        refine grow_op rfl rfl rfl ?_
        exact grow_rsum rfl (hd 5 (by kernel_rfl)) (hrl.below hb) (by omega)
      · cases ho
        refine grow_op rfl rfl rfl (grow_move rfl ?_)
        exact (hf.same 1 (by decide)).trans rfl
      · cases ho
        refine grow_op rfl rfl rfl ?_
        exact grow_part rfl (hd 7 (by kernel_rfl)) (hrm.below hb)
      · cases ho
        refine grow_op rfl rfl rfl ?_
        have h6 := hd 6 (by kernel_rfl)
        have h8 := hd 8 (by kernel_rfl)
        rw [← hlong]
        exact grow_code (by simp) rfl h6 h8 (by rw [sha_len]; decide) (by simp) (by omega)
      · cases ho
        refine grow_op rfl rfl rfl ?_
        exact grow_str rfl (hd 9 (by kernel_rfl))
      · cases ho
        refine grow_op rfl rfl rfl ?_
        exact grow_eq_same rfl (hd 4 (by kernel_rfl)) (hd 10 (by kernel_rfl))
      · cases ho
        refine grow_op rfl rfl rfl (grow_assign rfl ?_)
        exact hd 11 (by kernel_rfl)
      · simp at ho
    · intro a' w' hf hb hd
      have h4 : a'.tmps.getD 4 undef = .bool true := hd 12 (by decide)
      have hdf : a'.defers = [] := hf.defers
      have HBx := Lib.hid (HB1.out.trans (hb.mono HB1.out.size))
      have H4 := Lib.hid h4
      clear h4 hd hf hb hlong hrl hrm
      go_wp2_with fail
      refine bodyPost_ret (results_tmp rfl _ _ _) hdf ?_
      exact ⟨by rw [H4.out], HBx.out⟩
  · by_cases h1 : l.length ≤ 64
    · have h1I : (l.length : Int) ≤ 64 := by omega
      go_wp2_with fail
      go_ret
      exact ⟨rfl, HB1.out⟩
    · have h1I : ¬ (l.length : Int) ≤ 64 := by omega
      by_cases h2 : l.length ≤ 300
      · have h2I : (l.length : Int) ≤ 300 := by omega
        have h3I : (200 : Int) < (m.length : Int) := by omega
        go_wp2_with fail
        go_ret
        exact ⟨rfl, HB1.out⟩
      · have h2I : (300 : Int) < (l.length : Int) := by omega
        go_wp2_with fail
        go_ret
        exact ⟨rfl, HB1.out⟩

set_option maxRecDepth 100000 in
set_option maxHeartbeats 4000000 in
theorem macEqual_walk (a : Option Addr) (c : Nat) (l : List UInt8) (b : Option Addr) (d : Nat) (m : List UInt8) (w : World) (hr : Rd w a l) (hcl : l.length ≤ maxLen) (hr2 : Rd w b m) (hcm : m.length ≤ maxLen) :
    Calls Try.prog 16 #[.slice a l.length c, .slice b m.length d] w fun e w' => e = .returned (.bool true) ∧ Below w.heap.size w w' := by
  go_enter Try.func16, Try.ntmps16
  go_wp2_with fail
  refine (anchor02_any w).mono ?_
  rintro e w1 ⟨rfl, hb1⟩
  have HRL := Lib.hid (hr.below hb1)
  have HRM := Lib.hid (hr2.below hb1)
  have HB1 := Lib.hid hb1
  have HMX := Lib.hid hcl
  clear hr hr2 hb1 hcl hcm
  go_upto_region 3 with (fail)
  have hrl := HRL.out
  have hrm := HRM.out
  have hmax := HMX.out
  refine wp_region_grow (by kernel_rfl) (by kernel_rfl) [7, 8, 9, 10, 11, 12, 13, 14, 15, 16, 17, 18, 19, 20, 4] rfl (by decide) (by kernel_rfl) (fun i => [VIs (.slice a l.length c), VIs (.slice b m.length d), VIs (.bool (l == m)), VIs (.slice a l.length c), VStr l, VIs (.slice b m.length d), VStr m, VIs (.bool (l == m)), VIs (.bool true), VIs (.bool true), VIs (.slice a l.length c), VIs (.slice a l.length c), VIs (.bool true), VIs (.bool true), VIs (.bool true)].getD i fun _ _ => True) (stab_list _ ?_) ?_ ?_
  · intro V hV
    simp only [List.mem_cons, List.mem_nil_iff, or_false] at hV
    rcases hV with rfl | rfl | rfl | rfl | rfl | rfl | rfl | rfl | rfl | rfl | rfl | rfl | rfl | rfl | rfl <;> first | exact VIs.stab _ | exact VBytes.stab _ | exact VStr.stab _ | exact VParts.stab _ | exact VRow.stab _ | exact VRow8.stab _ _
  · intro i o ho a' w' hf hb hd
    rcases i with _ | _ | _ | _ | _ | _ | _ | _ | _ | _ | _ | _ | _ | _ | _ | i
    · cases ho
      refine grow_op rfl rfl rfl (grow_move rfl ?_)
      exact (hf.same 0 (by decide)).trans rfl
    · cases ho
      refine grow_op rfl rfl rfl (grow_move rfl ?_)
      exact (hf.same 1 (by decide)).trans rfl
    · cases ho
      refine grow_op rfl rfl rfl ?_
      exact grow_equal rfl ⟨_, _, hd 0 (by kernel_rfl), hrl.below hb⟩ ⟨_, _, hd 1 (by kernel_rfl), hrm.below hb⟩ hmax rfl
    · cases ho
      refine grow_op rfl rfl rfl (grow_move rfl ?_)
      exact (hf.same 0 (by decide)).trans rfl
    · cases ho
      refine grow_op rfl rfl rfl ?_
      exact grow_str rfl ⟨_, _, hd 3 (by kernel_rfl), hrl.below hb⟩
    · cases ho
      refine grow_op rfl rfl rfl (grow_move rfl ?_)
      exact (hf.same 1 (by decide)).trans rfl
    · cases ho
      refine grow_op rfl rfl rfl ?_
      exact grow_str rfl ⟨_, _, hd 5 (by kernel_rfl), hrm.below hb⟩
    · cases ho
      refine grow_op rfl rfl rfl ?_
      exact grow_eqs rfl (hd 4 (by kernel_rfl)) (hd 6 (by kernel_rfl)) (by show Value.bool _ = _; rw [ByteArray.toList_eq, ByteArray.toList_eq])
    · cases ho
      refine grow_op rfl rfl rfl ?_
      have e2 : a'.tmps.getD 9 undef = .bool (l == m) := hd 2 (by kernel_rfl)
      have e7 : a'.tmps.getD 14 undef = .bool (l == m) := hd 7 (by kernel_rfl)
      obtain ⟨r, hr⟩ : ∃ r, (l == m) = r := ⟨_, rfl⟩
      rw [hr] at e2 e7
      refine grow_value (v := .bool true) (w' := w') ?_ rfl (Below.refl _ _)
      simp only [execOp, Act.eval, e2, e7]
      cases r <;> go_simp
    · cases ho
      refine grow_op rfl rfl rfl (grow_move rfl ?_)
      exact hd 8 (by kernel_rfl)
    · cases ho
      have hg : a'.tmps.getD 16 undef = .bool true := hd 9 (by kernel_rfl)
      refine grow_op rfl (grow_wanted rfl rfl hg) rfl (grow_move rfl ?_)
      exact (hf.same 0 (by decide)).trans rfl
    · cases ho
      have hg : a'.tmps.getD 16 undef = .bool true := hd 9 (by kernel_rfl)
      refine grow_op rfl (grow_wanted rfl rfl hg) rfl (grow_move rfl ?_)
      exact (hf.same 0 (by decide)).trans rfl
    · cases ho
      have hg : a'.tmps.getD 16 undef = .bool true := hd 9 (by kernel_rfl)
      refine grow_op rfl (grow_wanted rfl rfl hg) rfl ?_
      exact grow_equal rfl ⟨_, _, hd 10 (by kernel_rfl), hrl.below hb⟩ ⟨_, _, hd 11 (by kernel_rfl), hrl.below hb⟩ hmax (by simp)
    · cases ho
      refine grow_op rfl rfl rfl (grow_pick (b := true) rfl (hd 9 (by kernel_rfl)) ?_)
      exact hd 12 (by kernel_rfl)
    · cases ho
      refine grow_op rfl rfl rfl (grow_assign rfl ?_)
      exact hd 13 (by kernel_rfl)
    · simp at ho
  · intro a' w' hf hb hd
    have h4 : a'.tmps.getD 4 undef = .bool true := hd 14 (by decide)
    have hdf : a'.defers = [] := hf.defers
    have HBx := Lib.hid (HB1.out.trans (hb.mono HB1.out.size))
    have H4 := Lib.hid h4
    clear h4 hd hf hb hrl hrm hmax
    go_wp2_with fail
    refine bodyPost_ret (results_tmp rfl _ _ _) hdf ?_
    exact ⟨by rw [H4.out], HBx.out⟩
end Go.Proofs.Ytofoadpnfeamoaa

/- MacCodes. -/
import Derived.Test.YtofoadpnfeamoaaMac5
import Derived.Test.YtofoadpnfeamoaaGrowO
set_option linter.unusedVariables false
namespace Go.Proofs.Ytofoadpnfeamoaa
open Go.RowKit

theorem grow_part2 {Q : Exit → Act → World → Prop} {o : Oper} {a : Act} {w : World} {x y : Operand} {l m : List UInt8} {ad bd : Option Addr} {c d : Nat} (ho : o.op = .buildSlice 34 2 #[(0, x), (1, y)]) (hx : a.eval x = .slice ad l.length c) (hy : a.eval y = .slice bd m.length d) (h : Rd w ad l) (h2 : Rd w bd m) :
    o.wp Try.prog a w (Grew o.dst (VParts [l, m]) a w) Q := by
  refine grow_value (v := .slice (some ⟨w.heap.size, 0, none⟩) 2 2) (w' := w.alloc (.cells #[.slice ad l.length c, .slice bd m.length d] 22)) ?_ ⟨_, _, rfl, RdS.two h h2 _⟩ ((Below.refl _ _).alloc (Nat.le_refl _) _)
  simp only [execOp, ho, List.map_toArray, List.map_cons, List.map_nil, hx, hy]
  go_simp

theorem extract_any (ak : Option Addr) (ck nk : Nat) (key m : List UInt8) (am : Option Addr) (n c : Nat) (w : World) (hk : Rd w ak key) (hnk : nk = key.length) (hr : Rd w am m) (hn : n = m.length) (hkl : key.length ≤ 800000) (hlen : m.length ≤ 800000) :
    Calls Try.prog 34 #[.slice ak nk ck, .slice am n c] w fun e w' => ∃ v', e = .returned v' ∧ Tl w.heap.size w' v' (mac key m) ∧ Below w.heap.size w w' := by
  subst hn hnk
  have hrs := RdS.one (c := c) hr 22
  have hb0 : Below w.heap.size w (w.alloc (.cells #[.slice am m.length c] 22)) := (Below.refl _ _).alloc (Nat.le_refl _) _
  have hc := code_any ak ck key.length key [m] (some ⟨w.heap.size, 0, none⟩) 1 1 _ (hk.alloc (.cells #[.slice am m.length c] 22)) rfl hrs rfl hkl (by simp) (by simpa using hlen)
  rw [List.flatten_singleton] at hc
  have HC := Lib.hid hc
  have HB0 := Lib.hid hb0
  clear hrs hb0 hc hk hr
  go_enter Try.func34, Try.ntmps34
  go_wp2_with fail
  refine HC.out.mono ?_
  rintro e w1 ⟨v1, rfl, ht, hb⟩
  have ht2 := ht.mono HB0.out.size
  have hb2 := HB0.out.trans (hb.mono HB0.out.size)
  obtain ⟨a1, c1, rfl, _⟩ := ht2.shape
  have HT := Lib.hid ht2
  have HB := Lib.hid hb2
  rw [mac_len] at HT ⊢
  clear ht hb ht2 hb2 HC HB0
  go_wp2_with fail
  go_ret
  exact ⟨_, rfl, HT.out, HB.out⟩
theorem ent_extract : ∀ args w, (callFunc 34 args).run Try.prog w = .ok (.enter 34 args) w := run_enters Try.func34 (by kernel_rfl) rfl
theorem grow_extract {Q : Exit → Act → World → Prop} {o : Oper} {a : Act} {w : World} {x y : Operand} {ts : Array TypeId} {key m : List UInt8} (ho : o.op = .call { callee := .value (.func 34), args := #[x, y], argTypes := ts }) (hx : VBytes key (a.eval x) w) (hy : VBytes m (a.eval y) w) (hk : key.length ≤ 800000) (hlen : m.length ≤ 800000) :
    o.wp Try.prog a w (Grew o.dst (VBytes (mac key m)) a w) Q := by
  obtain ⟨ak, ck, e1, h1⟩ := hx
  obtain ⟨ap, cp, e2, h2⟩ := hy
  refine grow_call ent_extract ho ?_
  simp only [List.map_toArray, List.map_cons, List.map_nil, e1, e2]
  refine (extract_any ak ck _ key m ap _ cp w h1 rfl h2 rfl hk hlen).mono ?_
  rintro e w' ⟨v', rfl, ht, hb⟩
  obtain ⟨a', c', h1, h2, _⟩ := ht.shape
  exact ⟨v', rfl, ⟨a', c', h1, h2⟩, hb⟩

set_option maxRecDepth 100000 in
set_option maxHeartbeats 4000000 in
theorem macCodes_walk (a0 : Option Addr) (c0 : Nat) (k : List UInt8) (a1 : Option Addr) (c1 : Nat) (l : List UInt8) (a2 : Option Addr) (c2 : Nat) (m : List UInt8) (w : World) (hr0 : Rd w a0 k) (hr1 : Rd w a1 l) (hr2 : Rd w a2 m) :
    Calls Try.prog 15 #[.slice a0 k.length c0, .slice a1 l.length c1, .slice a2 m.length c2] w fun e w' => e = .returned (.bool true) ∧ Below w.heap.size w w' := by
  go_enter Try.func15, Try.ntmps15
  go_wp2_with fail
  refine (anchor02_any w).mono ?_
  rintro e w1 ⟨rfl, hb1⟩
  have HR0 := Lib.hid (hr0.below hb1)
  have HR1 := Lib.hid (hr1.below hb1)
  have HR2 := Lib.hid (hr2.below hb1)
  have HB1 := Lib.hid hb1
  clear hr0 hr1 hr2 hb1
  by_cases h1 : k.length ≤ 200
  · have h1I : (k.length : Int) ≤ 200 := by omega
    by_cases h2 : l.length ≤ 150
    · have h2I : (l.length : Int) ≤ 150 := by omega
      by_cases h3 : m.length ≤ 150
      · have h3I : (m.length : Int) ≤ 150 := by omega
        go_wp2_with (at_builtin; go_loud (refine wpList_append_tl rfl (.tmp 24) (.tmp 25) rfl w1.heap.size _ [] rfl (Tl.of_own (Own.empty w1)) a1 l l.length c1 rfl rfl (HR1.out.alloc _) ?c1 ?c2 ?_))
        case c1 => simp; omega
        case c2 => simp
        intro a3 n3 c3 w3 hn3 ht3 hg3 how3
        have ht3' : Tl w1.heap.size w3 (.slice a3 n3 c3) l := by simpa using ht3
        have hb3 : Below w1.heap.size w1 w3 := below_grow_tl ((Below.refl _ _).alloc (Nat.le_refl _) _) (Tl.of_own (Own.empty w1)) hg3 (by simp)
        have HT3 := Lib.hid ht3'
        have HB3 := Lib.hid hb3
        clear hn3 ht3 hg3 how3 ht3' hb3
        go_wp2_with (at_builtin; go_loud (refine wpList_append_tl rfl (.tmp 26) (.tmp 27) rfl w1.heap.size _ l rfl HT3.out a2 m m.length c2 rfl rfl (HR2.out.below HB3.out) ?c1 ?c2 ?_))
        case c1 => omega
        case c2 => exact HB3.out.size
        intro aa na ca w4 hn4 ht4 hg4 how4
        have hb4 : Below w1.heap.size w1 w4 := below_grow_tl HB3.out HT3.out hg4 HB3.out.size
        obtain ⟨A, hA⟩ : ∃ A, l ++ m = A := ⟨_, rfl⟩
        have hAl : A.length ≤ 300 := by rw [← hA, List.length_append]; omega
        rw [hA] at ht4
        obtain ⟨a', c', hsh, hra, _⟩ := ht4.shape
        simp at hsh
        obtain ⟨rfl, rfl, rfl⟩ := hsh
        have HRA := Lib.hid hra
        have HB4 := Lib.hid hb4
        have HA := Lib.hid hA
        clear hn4 ht4 hg4 how4 hra hb4 hA HT3 HB3
        go_wp2_with fail
        refine (rcode_any a0 c0 k.length k A aa A.length ca w4 (HR0.out.below HB4.out) rfl HRA.out rfl (by omega) (by omega)).mono ?_
        rintro e w5 ⟨v5, rfl, ht5, hb5⟩
        obtain ⟨a5, c5, rfl, hr5, _⟩ := ht5.shape
        have hcv := str_of_rd hr5 (mac k A).length c5 rfl
        have hb5w := HB4.out.trans (hb5.mono HB4.out.size)
        have HRA5 := Lib.hid (HRA.out.below hb5)
        have HB5 := Lib.hid hb5w
        obtain ⟨S, hS⟩ : ∃ S : ByteArray, (⟨(mac k A).toArray⟩ : ByteArray) = S := ⟨_, rfl⟩
        rw [hS] at hcv
        have HS := Lib.hid hS
        rw [mac_len] at hcv ⊢
        clear ht5 hb5 hr5 hb5w hS HRA HB4
        go_upto_region 7 with (fail)
        have hrk := HR0.out.below HB5.out
        have hrl := HR1.out.below HB5.out
        have hrm := HR2.out.below HB5.out
        have hra := HRA5.out
        have hA := HA.out
        have hs8 : Value.string S = .string ⟨(mac k A).toArray⟩ := by rw [HS.out]
        refine wp_region_grow_lit (by kernel_rfl) [33, 34, 35, 36, 37, 38, 39, 40, 41, 42, 43, 44, 45, 46, 47, 48, 49, 50, 51, 52, 53, 54, 55, 56, 57, 6] rfl (by decide) (by kernel_rfl) (fun i => [VIs (.slice a0 k.length c0), VIs (.slice a1 l.length c1), VIs (.slice a2 m.length c2), VParts [l, m], VBytes (mac k A), VStr (mac k A), VStr (mac k A), VIs (.bool true), VIs (.bool true), VIs (.slice a0 k.length c0), VIs (.slice aa A.length ca), VParts [A], VBytes (mac k A), VStr (mac k A), VStr (mac k A), VIs (.bool true), VIs (.bool true), VIs (.bool true), VIs (.slice a0 k.length c0), VIs (.slice aa A.length ca), VBytes (mac k A), VStr (mac k A), VStr (mac k A), VIs (.bool true), VIs (.bool true), VIs (.bool true)].getD i fun _ _ => True) (stab_list _ ?_) ?_ ?_
        · intro V hV
          simp only [List.mem_cons, List.mem_nil_iff, or_false] at hV
          rcases hV with rfl | rfl | rfl | rfl | rfl | rfl | rfl | rfl | rfl | rfl | rfl | rfl | rfl | rfl | rfl | rfl | rfl | rfl | rfl | rfl | rfl | rfl | rfl | rfl | rfl | rfl <;> first | exact VIs.stab _ | exact VBytes.stab _ | exact VStr.stab _ | exact VParts.stab _ | exact VRow.stab _ | exact VRow8.stab _ _
        · intro i o ho a' w' hf hb hd
          rcases i with _ | _ | _ | _ | _ | _ | _ | _ | _ | _ | _ | _ | _ | _ | _ | _ | _ | _ | _ | _ | _ | _ | _ | _ | _ | _ | i
          · cases ho
            refine grow_op rfl rfl rfl (grow_move rfl ?_)
            exact (hf.same 0 (by decide)).trans rfl
          · cases ho
            refine grow_op rfl rfl rfl (grow_move rfl ?_)
            exact (hf.same 1 (by decide)).trans rfl
          · cases ho
            refine grow_op rfl rfl rfl (grow_move rfl ?_)
            exact (hf.same 2 (by decide)).trans rfl
          · cases ho
            refine grow_op rfl rfl rfl ?_
            exact grow_part2 rfl (hd 1 (by kernel_rfl)) (hd 2 (by kernel_rfl)) (hrl.below hb) (hrm.below hb)
          · cases ho
            refine grow_op rfl rfl rfl ?_
            exact grow_code (by simp [hA]) rfl ⟨_, _, hd 0 (by kernel_rfl), hrk.below hb⟩ (hd 3 (by kernel_rfl)) (by omega) (by simp) (by omega)
          · cases ho
            refine grow_op rfl rfl rfl ?_
            exact grow_str rfl (hd 4 (by kernel_rfl))
          · cases ho
            refine grow_op rfl rfl rfl (grow_move rfl ?_)
            exact (hf.same 8 (by decide)).trans hs8
          · cases ho
            refine grow_op rfl rfl rfl ?_
            exact grow_eq_same rfl (hd 5 (by kernel_rfl)) (hd 6 (by kernel_rfl))
          · cases ho
            refine grow_op rfl rfl rfl (grow_move rfl ?_)
            exact hd 7 (by kernel_rfl)
          · cases ho
            have hg : a'.tmps.getD 41 undef = .bool true := hd 8 (by kernel_rfl)
            refine grow_op rfl (grow_wanted rfl rfl hg) rfl (grow_move rfl ?_)
            exact (hf.same 0 (by decide)).trans rfl
          · cases ho
            have hg : a'.tmps.getD 41 undef = .bool true := hd 8 (by kernel_rfl)
            refine grow_op rfl (grow_wanted rfl rfl hg) rfl (grow_move rfl ?_)
            exact (hf.same 7 (by decide)).trans rfl
          · cases ho
            have hg : a'.tmps.getD 41 undef = .bool true := hd 8 (by kernel_rfl)
            refine grow_op rfl (grow_wanted rfl rfl hg) rfl ?_
            exact grow_part rfl (hd 10 (by kernel_rfl)) (hra.below hb)
          · cases ho
            have hg : a'.tmps.getD 41 undef = .bool true := hd 8 (by kernel_rfl)
            refine grow_op rfl (grow_wanted rfl rfl hg) rfl ?_
            exact grow_code (by simp) rfl ⟨_, _, hd 9 (by kernel_rfl), hrk.below hb⟩ (hd 11 (by kernel_rfl)) (by omega) (by simp) (by omega)
          · cases ho
            have hg : a'.tmps.getD 41 undef = .bool true := hd 8 (by kernel_rfl)
            refine grow_op rfl (grow_wanted rfl rfl hg) rfl ?_
            exact grow_str rfl (hd 12 (by kernel_rfl))
          · cases ho
            have hg : a'.tmps.getD 41 undef = .bool true := hd 8 (by kernel_rfl)
            refine grow_op rfl (grow_wanted rfl rfl hg) rfl (grow_move rfl ?_)
            exact (hf.same 8 (by decide)).trans hs8
          · cases ho
            have hg : a'.tmps.getD 41 undef = .bool true := hd 8 (by kernel_rfl)
            refine grow_op rfl (grow_wanted rfl rfl hg) rfl ?_
            exact grow_eq_same rfl (hd 13 (by kernel_rfl)) (hd 14 (by kernel_rfl))
          · cases ho
            refine grow_op rfl rfl rfl (grow_pick (b := true) rfl (hd 8 (by kernel_rfl)) ?_)
            exact hd 15 (by kernel_rfl)
          · cases ho
            refine grow_op rfl rfl rfl (grow_move rfl ?_)
            exact hd 16 (by kernel_rfl)
          · cases ho
            have hg : a'.tmps.getD 50 undef = .bool true := hd 17 (by kernel_rfl)
            refine grow_op rfl (grow_wanted rfl rfl hg) rfl (grow_move rfl ?_)
            exact (hf.same 0 (by decide)).trans rfl
          · cases ho
            have hg : a'.tmps.getD 50 undef = .bool true := hd 17 (by kernel_rfl)
            refine grow_op rfl (grow_wanted rfl rfl hg) rfl (grow_move rfl ?_)
            exact (hf.same 7 (by decide)).trans rfl
          · cases ho
            have hg : a'.tmps.getD 50 undef = .bool true := hd 17 (by kernel_rfl)
            refine grow_op rfl (grow_wanted rfl rfl hg) rfl ?_
            exact grow_extract rfl ⟨_, _, hd 18 (by kernel_rfl), hrk.below hb⟩ ⟨_, _, hd 19 (by kernel_rfl), hra.below hb⟩ (by omega) (by omega)
          · cases ho
            have hg : a'.tmps.getD 50 undef = .bool true := hd 17 (by kernel_rfl)
            refine grow_op rfl (grow_wanted rfl rfl hg) rfl ?_
            exact grow_str rfl (hd 20 (by kernel_rfl))
          · cases ho
            have hg : a'.tmps.getD 50 undef = .bool true := hd 17 (by kernel_rfl)
            refine grow_op rfl (grow_wanted rfl rfl hg) rfl (grow_move rfl ?_)
            exact (hf.same 8 (by decide)).trans hs8
          · cases ho
            have hg : a'.tmps.getD 50 undef = .bool true := hd 17 (by kernel_rfl)
            refine grow_op rfl (grow_wanted rfl rfl hg) rfl ?_
            exact grow_eq_same rfl (hd 21 (by kernel_rfl)) (hd 22 (by kernel_rfl))
          · cases ho
            refine grow_op rfl rfl rfl (grow_pick (b := true) rfl (hd 17 (by kernel_rfl)) ?_)
            exact hd 23 (by kernel_rfl)
          · cases ho
            refine grow_op rfl rfl rfl (grow_assign rfl ?_)
            exact hd 24 (by kernel_rfl)
          · simp at ho
        · intro a' w' hf hb hd
          have h4 : a'.tmps.getD 6 undef = .bool true := hd 25 (by decide)
          have hdf : a'.defers = [] := hf.defers
          have HBx := Lib.hid (HB1.out.trans ((HB5.out.trans (hb.mono HB5.out.size)).mono HB1.out.size))
          have H4 := Lib.hid h4
          clear h4 hd hf hb hrk hrl hrm hra hA hs8
          go_wp2_with fail
          refine bodyPost_ret (results_tmp rfl _ _ _) hdf ?_
          exact ⟨by rw [H4.out], HBx.out⟩
      · have h3I : (150 : Int) < (m.length : Int) := by omega
        go_wp2_with fail
        go_ret
        exact ⟨rfl, HB1.out⟩
    · have h2I : (150 : Int) < (l.length : Int) := by omega
      go_wp2_with fail
      go_ret
      exact ⟨rfl, HB1.out⟩
  · have h1I : (200 : Int) < (k.length : Int) := by omega
    go_wp2_with fail
    go_ret
    exact ⟨rfl, HB1.out⟩
end Go.Proofs.Ytofoadpnfeamoaa

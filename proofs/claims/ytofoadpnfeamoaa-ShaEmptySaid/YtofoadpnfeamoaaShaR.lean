/- ShaEmpty. -/
import Derived.Test.YtofoadpnfeamoaaShaM
import Derived.Test.YtofoadpnfeamoaaRefE
set_option linter.unusedVariables false
namespace Go.Proofs.Ytofoadpnfeamoaa
open Go.RowKit

/-- A hash that was told m. -/
def VHash (m : List UInt8) : Value → World → Prop := fun v w => ∃ p v0, v = .pointer (some ⟨p, 0, none⟩) ∧ HM 0 w p v0 m
theorem VHash.stab (m : List UInt8) : Stab (VHash m) := fun v w1 w2 ⟨p, v0, e, h⟩ hb => ⟨p, v0, e, HAt.below h hb⟩
theorem ent_new : ∀ args w, (callFunc 25 args).run Try.prog w = .ok (.enter 25 args) w := run_enters Try.func25 (by kernel_rfl) rfl
theorem grow_new {Q : Exit → Act → World → Prop} {o : Oper} {a : Act} {w : World} {ts : Array TypeId} (ho : o.op = .call { callee := .value (.func 25), args := #[], argTypes := ts }) :
    o.wp Try.prog a w (Grew o.dst (VHash []) a w) Q := by
  refine grow_call ent_new ho ?_
  simp only [List.map_toArray, List.map_nil]
  refine (new_any w).mono ?_
  rintro e w' ⟨rfl, rfl⟩
  exact ⟨_, rfl, ⟨_, _, rfl, new_hm 0 w (Nat.zero_le _)⟩, (Below.refl _ _).alloc (Nat.le_refl _) _⟩

/-- Cells of parts: each is nothing, or lay there ahead. -/
def CellsS (w : World) (cs : List Value) (qs : List (List UInt8)) : Prop := cs.length = qs.length ∧ ∀ i (h : i < qs.length), ∃ x c, cs[i]? = some (.slice x (qs[i]).length c) ∧ Rd w x qs[i]
theorem CellsS.nil (w : World) : CellsS w [] [] := ⟨rfl, fun i h => by simp at h⟩
theorem CellsS.app {w : World} {cs ds : List Value} {qs rs : List (List UInt8)} (h : CellsS w cs qs) (k : CellsS w ds rs) : CellsS w (cs ++ ds) (qs ++ rs) := by
  refine ⟨by rw [List.length_append, List.length_append, h.1, k.1], fun i hi => ?_⟩
  rw [List.length_append] at hi
  by_cases e : i < qs.length
  · obtain ⟨x, c, h1, h2⟩ := h.2 i e
    exact ⟨x, c, by rw [List.getElem?_append_left (by rw [h.1]; exact e), h1, List.getElem_append_left e], by rw [List.getElem_append_left e]; exact h2⟩
  · obtain ⟨x, c, h1, h2⟩ := k.2 (i - qs.length) (by omega)
    refine ⟨x, c, ?_, ?_⟩
    · rw [List.getElem?_append_right (by rw [h.1]; omega), h.1, h1, List.getElem_append_right (by omega)]
    · rw [List.getElem_append_right (by omega)]; exact h2
theorem CellsS.three {w : World} {x : Option Addr} {l : List UInt8} {c g : Nat} (h : Rd w x l) : CellsS w [.slice none 0 0, .slice x l.length c, .slice (some ⟨g, 0, none⟩) 0 0] [[], l, []] := by
  refine ⟨rfl, fun i hi => ?_⟩
  match i, hi with
  | 0, _ => exact ⟨none, 0, rfl, .inl rfl⟩
  | 1, _ => exact ⟨x, c, rfl, h⟩
  | 2, _ => exact ⟨_, 0, rfl, .inl rfl⟩
  | k + 3, h => exact absurd h (by simp)
theorem rds_of_own {B : Nat} {w1 w : World} {v : Value} {cs : List Value} {qs : List (List UInt8)} (h : w.ownsRow B 22 1 v qs.length cs) (hc : CellsS w1 cs qs) (hb : Below w1.heap.size w1 w) : VParts qs v w := by
  rcases h.2 with ⟨rfl, h0⟩ | ⟨g, cap, cur, rfl, _, hg, hlc, _, _, htake⟩
  · have : qs = [] := List.eq_nil_of_length_eq_zero h0
    subst this
    exact ⟨none, 0, rfl, .inl rfl⟩
  · refine ⟨some ⟨g, 0, none⟩, cap, rfl, .inr ⟨g, 0, rfl, fun i hi => ?_⟩⟩
    obtain ⟨x, c, h1, h2⟩ := hc.2 i hi
    refine ⟨x, c, ?_, h2.below hb⟩
    rw [Nat.zero_add, Lib.cell_of_heap hg, ← Array.getElem?_toList, ← h1, ← htake, List.getElem?_take, if_pos (by omega)]
theorem info_bs : ∃ i, Try.prog.info? 22 = some i ∧ i.zero = some (.slice none 0 0) ∧ i.size = 1 ∧ i.bytes = 24 := info_parts (by kernel_rfl)
/-- Nothing ahead of and behind each. -/
def more (ps : List (List UInt8)) : List (List UInt8) := ps.flatMap fun p => [[], p, []]
theorem more_flat (ps : List (List UInt8)) : (more ps).flatten = ps.flatten := by
  induction ps with
  | nil => rfl
  | cons p ps ih =>
    unfold more at ih ⊢
    simp [ih]
theorem more_len (ps : List (List UInt8)) : (more ps).length = 3 * ps.length := by
  induction ps with
  | nil => rfl
  | cons p ps ih =>
    unfold more at ih ⊢
    simp [ih]
    omega

set_option maxRecDepth 100000 in
set_option maxHeartbeats 4000000 in
theorem shaEmpty_walk (a : Option Addr) (c : Nat) (ps : List (List UInt8)) (w : World) (hr : RdS w a ps) :
    Calls Try.prog 10 #[.slice a ps.length c] w fun e w' => e = .returned (.bool true) ∧ Below w.heap.size w w' := by
  go_enter Try.func10, Try.ntmps10
  go_wp2_with fail
  refine (anchor01_any w).mono ?_
  rintro e w1 ⟨rfl, hb1⟩
  have HR := Lib.hid hr
  have HB1 := Lib.hid hb1
  clear hr hb1
  by_cases hl : ps.length ≤ 20
  · have hlI : (ps.length : Int) ≤ 20 := by omega
    go_wp2_with fail
    go_loopg [13, 3] ps.length (fun k y x wr => ∃ j : Nat, ∃ cs : List Value, y = .int .i64 j ∧ j + k = ps.length ∧ Hid (∀ l ∈ ps.take j, l.length ≤ 100) ∧ Hid (wr.ownsRow w1.heap.size 22 1 x (more (ps.take j)).length cs) ∧ Hid (CellsS w1 cs (more (ps.take j))) ∧ Hid (∀ u ∈ cs, u.oneCell' = true) ∧ Hid (Below w1.heap.size w1 wr))
    case atStart => exact ⟨0, [], rfl, by omega, Lib.hid (by simp), Lib.hid (World.ownsRow_nil _ _ _ _), Lib.hid (CellsS.nil _), Lib.hid (by simp), Lib.hid (Below.refl _ _)⟩
    case round =>
      obtain ⟨j, cs, rfl, hj, HLE, HO, HC, HONE, HB⟩ := hrel
      by_cases hlt : j < ps.length
      · obtain ⟨b, off, hap, hc⟩ : ∃ b off, a = some ⟨b, off, none⟩ ∧ ∀ i (h : i < ps.length), ∃ x c, w.cell? ⟨b, off + i, none⟩ = some (.slice x (ps[i]).length c) ∧ Rd w x ps[i] := by
          rcases HR.out with h | h
          · rw [h] at hlt; simp at hlt
          · exact h
        obtain ⟨x, cx, hcell, hrd⟩ := hc j hlt
        obtain ⟨l, hl2⟩ : ∃ l, ps[j] = l := ⟨_, rfl⟩
        rw [hl2] at hcell hrd
        have hcell' := cell_now HB.out (cell_now HB1.out hcell)
        have htake : more (ps.take (j + 1)) = more (ps.take j) ++ [[], l, []] := by
          rw [List.take_add_one, List.getElem?_eq_getElem hlt, hl2]
          unfold more
          simp
        have hjI : (j : Int) < (ps.length : Int) := by omega
        have hjn : ((j : Int)).toNat = j := by omega
        have hj0 : 0 ≤ (j : Int) := by omega
        have hrd1 : Rd w1 x l := hrd.below HB1.out
        have HRD1 := Lib.hid hrd1
        have HTK := Lib.hid htake
        have hlm : l.length ≤ 100 → ∀ x ∈ ps.take (j + 1), x.length ≤ 100 := by
          intro hle x hx
          rw [List.take_add_one, List.getElem?_eq_getElem hlt, hl2] at hx
          rcases List.mem_append.1 hx with h | h
          · exact HLE.out x h
          · simp at h; rw [h]; exact hle
        have HLM := Lib.hid hlm
        have hml := more_len (ps.take j)
        rw [List.length_take, Nat.min_eq_left (by omega)] at hml
        have HML := Lib.hid hml
        subst hap
        clear hc hcell hrd hrd1 htake hl2 hlm hml
        by_cases h100 : l.length ≤ 100
        · have h100I : (l.length : Int) ≤ 100 := by omega
          obtain ⟨i0, hi, hz0, hz1, hz2⟩ := info_bs
          have HI := Lib.hid (And.intro hi (And.intro hz0 (And.intro hz1 hz2)))
          clear hi hz0 hz1 hz2
          go_upto_region 11 with (fail)
          apply wp_region_lit
          iterate 4 (refine wpList_plain rfl (fun K hK => ?_); go_simp; (with_reducible refine hK _ _ ?_); clear hK K)
          have hcs := CellsS.app HC.out (CellsS.three (c := cx) (g := wr.heap.size) HRD1.out)
          have hone : ∀ u ∈ cs ++ [Value.slice none 0 0, .slice x l.length cx, .slice (some ⟨wr.heap.size, 0, none⟩) 0 0], u.oneCell' = true := by
            intro u hu
            rcases List.mem_append.1 hu with h | h
            · exact HONE.out u h
            · simp at h
              rcases h with rfl | rfl | rfl <;> rfl
          have hb3 : Below w1.heap.size w1 ((wr.alloc (.cells #[] 5)).alloc (.cells #[.slice none 0 0, .slice x l.length cx, .slice (some ⟨wr.heap.size, 0, none⟩) 0 0] 22)) := (HB.out.alloc HB.out.size _).alloc (by have := HB.out.size; simp; omega) _
          have hlk : (wr.alloc (.cells #[] 5)).heap.size = wr.heap.size + 1 := by simp
          refine wpList_append_own_at _ rfl (.tmp 20) (.tmp 23) 34 rfl w1.heap.size 22 i0 (.slice none 0 0) 1 24 Try.underlying34 HI.out.1 HI.out.2.1 HI.out.2.2.1 HI.out.2.2.2 rfl (by decide) u3 _ cs rfl ((HO.out.alloc _).alloc _) ⟨wr.heap.size + 1, 0, none⟩ 3 3 [.slice none 0 0, .slice x l.length cx, .slice (some ⟨wr.heap.size, 0, none⟩) 0 0] rfl rfl (fun q u hu => by
            rw [Addr.add_lit, Nat.zero_add, ← hlk, Lib.cell_of_heap (heap_alloc_new _ _)]
            simpa using hu) (fun u hu => hone u (List.mem_append_right _ hu)) (by have := HML.out; unfold maxLen; omega) (by have := HML.out; omega) (by have := HB.out.size; simp; omega) ?_
          intro v' w' hown hgr _ _
          have hb4 : Below w1.heap.size w1 w' := hb3.grown hgr (by have := HB.out.size; simp; omega) (fun k hk => (World.ownsRow.lt HO.out k hk).1)
          have hown' : w'.ownsRow w1.heap.size 22 1 v' (more (ps.take (j + 1))).length (cs ++ [.slice none 0 0, .slice x l.length cx, .slice (some ⟨wr.heap.size, 0, none⟩) 0 0]) := by
            rw [HTK.out, List.length_append]
            exact hown
          rw [← HTK.out] at hcs
          have HO4 := Lib.hid hown'
          have HC4 := Lib.hid hcs
          have HN4 := Lib.hid hone
          have HB4 := Lib.hid hb4
          clear hown hgr hown' hcs hone hb3 hb4 hlk hcell' HO HC HONE HB
          obtain ⟨cs2, hcs2⟩ : ∃ ys, cs ++ [Value.slice none 0 0, .slice x l.length cx, .slice (some ⟨wr.heap.size, 0, none⟩) 0 0] = ys := ⟨_, rfl⟩
          rw [hcs2] at HO4 HC4 HN4
          clear hcs2
          go_wp2_with fail
          go_roundg (gk - 1)
          case measure => omega
          case rel => exact ⟨j + 1, cs2, by go_num, by omega, Lib.hid (HLM.out h100), HO4, HC4, HN4, HB4⟩
        · have h100I : (100 : Int) < (l.length : Int) := by omega
          have hbw := Lib.hid (HB1.out.trans (HB.out.mono HB1.out.size))
          go_wp2_with fail
          go_ret
          exact ⟨rfl, hbw.out⟩
      · obtain rfl : j = ps.length := by omega
        have hle := HLE.out
        have ho := HO.out
        have hc := HC.out
        rw [List.take_length] at hle ho hc
        have hflat : ps.flatten.length ≤ 2000 := by
          have := flat_le ps 100 hle
          omega
        have hq := rds_of_own ho hc HB.out
        have hqM := more_flat ps
        have hql := more_len ps
        obtain ⟨qs, hqs⟩ : ∃ x, more ps = x := ⟨_, rfl⟩
        rw [hqs] at hq hqM hql
        obtain ⟨M, hM⟩ : ∃ M, ps.flatten = M := ⟨_, rfl⟩
        rw [hM] at hqM hflat
        have hrds : RdS wr a ps := (HR.out.below HB1.out).below HB.out
        have HALL := Lib.hid (And.intro hq (And.intro hqM (And.intro hql (And.intro hM hrds))))
        have HBW := Lib.hid (HB1.out.trans (HB.out.mono HB1.out.size))
        clear hle ho hc hq hqM hql hM hrds hqs HLE HO HC HONE HB
        go_upto_region 13 with (fail)
        obtain ⟨hq, hqM, hql, hM, hrds⟩ := HALL.out
        refine wp_region_grow (by kernel_rfl) (by kernel_rfl) [26, 27, 28, 29, 30, 31, 32, 33, 34, 35, 36, 37, 38, 39, 40, 41, 42, 43, 44, 45, 46, 47, 48, 2] rfl (by decide) (by kernel_rfl) (fun i => [VParts qs, VBytes (sha M), VStr (sha M), VParts ps, VBytes (sha M), VStr (sha M), VIs (.bool true), VIs (.bool true), VBytes (sha []), VStr (sha []), VBytes (sha []), VStr (sha []), VIs (.bool true), VIs (.bool true), VIs (.bool true), VHash [], VBytes (sha []), VStr (sha []), VParts [[]], VBytes (sha []), VStr (sha []), VIs (.bool true), VIs (.bool true), VIs (.bool true)].getD i fun _ _ => True) (stab_list _ ?_) ?_ ?_
        · intro V hV
          simp only [List.mem_cons, List.mem_nil_iff, or_false] at hV
          rcases hV with rfl | rfl | rfl | rfl | rfl | rfl | rfl | rfl | rfl | rfl | rfl | rfl | rfl | rfl | rfl | rfl | rfl | rfl | rfl | rfl | rfl | rfl | rfl | rfl <;> first | exact VIs.stab _ | exact VBytes.stab _ | exact VStr.stab _ | exact VParts.stab _ | exact VRow.stab _ | exact VRow8.stab _ _ | exact VHash.stab _
        · intro i o ho a' w' hf hb hd
          rcases i with _ | _ | _ | _ | _ | _ | _ | _ | _ | _ | _ | _ | _ | _ | _ | _ | _ | _ | _ | _ | _ | _ | _ | _ | i
          · cases ho
            refine grow_op rfl rfl rfl (grow_move rfl ?_)
            have e3 : a'.tmps.getD 3 undef = _ := hf.same 3 (by decide)
            show VParts qs (a'.tmps.getD 3 undef) w'
            rw [e3]
            exact VParts.stab qs _ _ _ hq hb
          · cases ho
            refine grow_op rfl rfl rfl ?_
            exact grow_sum hqM rfl (hd 0 (by kernel_rfl)) (by omega) (by omega)
          · cases ho
            refine grow_op rfl rfl rfl ?_
            exact grow_str rfl (hd 1 (by kernel_rfl))
          · cases ho
            refine grow_op rfl rfl rfl (grow_move rfl ?_)
            exact ⟨a, c, (hf.same 0 (by decide)).trans rfl, hrds.below hb⟩
          · cases ho
            refine grow_op rfl rfl rfl ?_
            exact grow_sum hM rfl (hd 3 (by kernel_rfl)) (by omega) (by omega)
          · cases ho
            refine grow_op rfl rfl rfl ?_
            exact grow_str rfl (hd 4 (by kernel_rfl))
          · cases ho
            refine grow_op rfl rfl rfl ?_
            exact grow_eq_same rfl (hd 2 (by kernel_rfl)) (hd 5 (by kernel_rfl))
          · cases ho
            refine grow_op rfl rfl rfl (grow_move rfl ?_)
            exact hd 6 (by kernel_rfl)
          · cases ho
            have hg : a'.tmps.getD 33 undef = .bool true := hd 7 (by kernel_rfl)
            refine grow_op rfl (grow_wanted rfl rfl hg) rfl ?_
            exact grow_sum (ps := []) rfl rfl ⟨none, 0, rfl, .inl rfl⟩ (by decide) (by decide)
          · cases ho
            have hg : a'.tmps.getD 33 undef = .bool true := hd 7 (by kernel_rfl)
            refine grow_op rfl (grow_wanted rfl rfl hg) rfl ?_
            exact grow_str rfl (hd 8 (by kernel_rfl))
          · cases ho
            have hg : a'.tmps.getD 33 undef = .bool true := hd 7 (by kernel_rfl)
            refine grow_op rfl (grow_wanted rfl rfl hg) rfl ?_
            exact grow_rsum (m := []) rfl rfl (.inl rfl) (by decide)
          · cases ho
            have hg : a'.tmps.getD 33 undef = .bool true := hd 7 (by kernel_rfl)
            refine grow_op rfl (grow_wanted rfl rfl hg) rfl ?_
            exact grow_str rfl (hd 10 (by kernel_rfl))
          · cases ho
            have hg : a'.tmps.getD 33 undef = .bool true := hd 7 (by kernel_rfl)
            refine grow_op rfl (grow_wanted rfl rfl hg) rfl ?_
            exact grow_eq_same rfl (hd 9 (by kernel_rfl)) (hd 11 (by kernel_rfl))
          · cases ho
            refine grow_op rfl rfl rfl (grow_pick (b := true) rfl (hd 7 (by kernel_rfl)) ?_)
            exact hd 12 (by kernel_rfl)
          · cases ho
            refine grow_op rfl rfl rfl (grow_move rfl ?_)
            exact hd 13 (by kernel_rfl)
          · cases ho
            have hg : a'.tmps.getD 40 undef = .bool true := hd 14 (by kernel_rfl)
            refine grow_op rfl (grow_wanted rfl rfl hg) rfl ?_
            exact grow_new rfl
          · cases ho
            have hg : a'.tmps.getD 40 undef = .bool true := hd 14 (by kernel_rfl)
            refine grow_op rfl (grow_wanted rfl rfl hg) rfl ?_
            obtain ⟨p, v0, e, h⟩ : VHash [] (a'.tmps.getD 41 undef) w' := hd 15 (by kernel_rfl)
            exact grow_hsum rfl e h (by decide)
          · cases ho
            have hg : a'.tmps.getD 40 undef = .bool true := hd 14 (by kernel_rfl)
            refine grow_op rfl (grow_wanted rfl rfl hg) rfl ?_
            exact grow_str rfl (hd 16 (by kernel_rfl))
          · cases ho
            have hg : a'.tmps.getD 40 undef = .bool true := hd 14 (by kernel_rfl)
            refine grow_op rfl (grow_wanted rfl rfl hg) rfl ?_
            exact grow_part (l := []) (ad := none) (c := 0) rfl rfl (.inl rfl)
          · cases ho
            have hg : a'.tmps.getD 40 undef = .bool true := hd 14 (by kernel_rfl)
            refine grow_op rfl (grow_wanted rfl rfl hg) rfl ?_
            exact grow_sum (ps := [[]]) rfl rfl (hd 18 (by kernel_rfl)) (by decide) (by decide)
          · cases ho
            have hg : a'.tmps.getD 40 undef = .bool true := hd 14 (by kernel_rfl)
            refine grow_op rfl (grow_wanted rfl rfl hg) rfl ?_
            exact grow_str rfl (hd 19 (by kernel_rfl))
          · cases ho
            have hg : a'.tmps.getD 40 undef = .bool true := hd 14 (by kernel_rfl)
            refine grow_op rfl (grow_wanted rfl rfl hg) rfl ?_
            exact grow_eq_same rfl (hd 17 (by kernel_rfl)) (hd 20 (by kernel_rfl))
          · cases ho
            refine grow_op rfl rfl rfl (grow_pick (b := true) rfl (hd 14 (by kernel_rfl)) ?_)
            exact hd 21 (by kernel_rfl)
          · cases ho
            refine grow_op rfl rfl rfl (grow_assign rfl ?_)
            exact hd 22 (by kernel_rfl)
          · simp at ho
        · intro a' w' hf hb hd
          have h4 : a'.tmps.getD 2 undef = .bool true := hd 23 (by decide)
          have hdf : a'.defers = [] := hf.defers
          have HBx := Lib.hid (HBW.out.trans (hb.mono HBW.out.size))
          have H4 := Lib.hid h4
          clear h4 hd hf hb hq hqM hql hM hrds
          go_wp2_with fail
          refine bodyPost_ret (results_tmp rfl _ _ _) hdf ?_
          exact ⟨by rw [H4.out], HBx.out⟩
  · have hlI : (20 : Int) < (ps.length : Int) := by omega
    go_wp2_with fail
    go_ret
    exact ⟨rfl, HB1.out⟩
end Go.Proofs.Ytofoadpnfeamoaa

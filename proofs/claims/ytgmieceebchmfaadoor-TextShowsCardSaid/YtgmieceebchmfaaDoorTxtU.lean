/- The document's Parts. -/
import Derived.Test.YtgmieceebchmfaaDoorTxtR
import Derived.Test.YtgmieceebchmfaaDoorTxtK
set_option linter.unusedVariables false
namespace Go.Proofs.YtgmieceebchmfaaDoor
open Go.RowKit

def strs (l : List (List UInt8)) : List Value := l.map fun p => .string ⟨p.toArray⟩
theorem info_str : (Tryd.prog.info? 9).map (fun i => (i.zero, i.size, i.bytes)) = some (some (.string ⟨#[]⟩), 1, 16) := by kernel_rfl
/-- The parts up to i, and where the last begins. -/
def PartsAt (c : UInt8) (s : List UInt8) (done : List (List UInt8)) (q i : Nat) : Prop :=
  (i ≤ s.length ∧ q ≤ i ∧ partsL c s = done ++ partsL c (s.drop q) ∧ c ∉ (s.drop q).take (i - q)) ∨ (i = s.length + 1 ∧ partsL c s = done)
theorem PartsAt.start (c : UInt8) (s : List UInt8) : PartsAt c s [] 0 0 := .inl ⟨by omega, by omega, by simp, by simp⟩
theorem PartsAt.on {c : UInt8} {s : List UInt8} {done : List (List UInt8)} {q i : Nat} (h : PartsAt c s done q i) (hi : i < s.length) (hc : s[i] ≠ c) : PartsAt c s done q (i + 1) := by
  rcases h with ⟨h1, h2, h3, h4⟩ | ⟨h1, _⟩
  · refine .inl ⟨by omega, by omega, h3, ?_⟩
    rw [show i + 1 - q = (i - q) + 1 by omega, List.take_add_one]
    intro hm
    rcases List.mem_append.1 hm with hm | hm
    · exact h4 hm
    · rw [List.getElem?_drop, show q + (i - q) = i by omega, List.getElem?_eq_getElem hi] at hm
      simp at hm
      exact hc hm.symm
  · omega
theorem PartsAt.hit {c : UInt8} {s : List UInt8} {done : List (List UInt8)} {q i : Nat} (h : PartsAt c s done q i) (hi : i < s.length) (hc : s[i] = c) : q ≤ i ∧ PartsAt c s (done ++ [(s.drop q).take (i - q)]) (i + 1) (i + 1) := by
  rcases h with ⟨h1, h2, h3, h4⟩ | ⟨h1, _⟩
  · refine ⟨h2, .inl ⟨by omega, by omega, ?_, by simp⟩⟩
    have e : s.drop q = (s.drop q).take (i - q) ++ c :: s.drop (i + 1) := by
      conv => lhs; rw [← List.take_append_drop (i - q) (s.drop q)]
      rw [List.drop_drop, show q + (i - q) = i by omega, List.drop_eq_getElem_cons hi, hc]
    rw [h3]
    conv => lhs; rw [e]
    rw [partsL_hit c _ _ h4]
    simp
  · omega
theorem PartsAt.last {c : UInt8} {s : List UInt8} {done : List (List UInt8)} {q : Nat} (h : PartsAt c s done q s.length) : q ≤ s.length ∧ PartsAt c s (done ++ [(s.drop q).take (s.length - q)]) (s.length + 1) (s.length + 1) := by
  rcases h with ⟨h1, h2, h3, h4⟩ | ⟨h1, _⟩
  · refine ⟨h2, .inr ⟨rfl, ?_⟩⟩
    have e : (s.drop q).take (s.length - q) = s.drop q := List.take_of_length_le (by simp)
    rw [e] at h4 ⊢
    rw [h3, partsL_none c _ h4]
  · omega
theorem PartsAt.end {c : UInt8} {s : List UInt8} {done : List (List UInt8)} {q : Nat} (h : PartsAt c s done q (s.length + 1)) : partsL c s = done := by
  rcases h with ⟨h1, _⟩ | ⟨_, h⟩
  · omega
  · exact h

set_option maxRecDepth 100000 in
set_option maxHeartbeats 8000000 in
theorem parts_any (s : List UInt8) (c : UInt8) (w : World) (hs : s.length ≤ 1000000) :
    Calls Tryd.prog 38 #[.string ⟨s.toArray⟩, .int .u8 (c.toNat : Int)] w fun e w' => (∃ a cap, e = .returned (.slice a (partsL c s).length cap) ∧ RdC w' a (strs (partsL c s))) ∧ Below w.heap.size w w' := by
  obtain ⟨i0, hi, hz0, hz1, hz2⟩ := info_parts info_str
  have HI := Lib.hid hi
  have HZ0 := Lib.hid hz0
  have HZ1 := Lib.hid hz1
  have HZ2 := Lib.hid hz2
  clear hi hz0 hz1 hz2
  go_enter Tryd.func38, Tryd.ntmps38
  go_wp2_with fail
  go_loopg [5, 6, 7] (s.length + 1) (fun k out x y wr => ∃ (i q : Nat) (done : List (List UInt8)), x = .int .i64 (q : Int) ∧ y = .int .i64 (i : Int) ∧ i + k = s.length + 1 ∧ q ≤ s.length + 1 ∧ done.length ≤ i ∧ Hid (PartsAt c s done q i) ∧ Hid (wr.ownsRow w.heap.size 9 1 out done.length (strs done)) ∧ Hid (Below w.heap.size w wr))
  case atStart => exact ⟨0, 0, [], rfl, rfl, by omega, by omega, by simp, Lib.hid (PartsAt.start c s), Lib.hid (World.ownsRow_nil _ _ _ _), Lib.hid (Below.refl _ _)⟩
  case round =>
    obtain ⟨i, q, done, rfl, rfl, hi, hq, hdl, HP, HW, HB⟩ := hrel
    have hszB : w.heap.size ≤ wr.heap.size := HB.out.size
    obtain ⟨ao, co, hout, hro, _⟩ := RdC.of_own HW.out
    subst hout
    have HRO := Lib.hid hro
    clear hro
    by_cases hlt : i < s.length
    · have hltI : (i : Int) ≤ (s.length : Int) := by omega
      have hltJ : ¬ (i : Int) = (s.length : Int) := by omega
      have hix := fun w => str_at s i hlt w
      by_cases hc : s[i] = c
      · obtain ⟨hqi, hp2⟩ := HP.out.hit hlt hc
        rw [hc] at hix
        have hsl := fun w => str_mid s q i hqi (by omega) _ _ rfl rfl w
        generalize (s.drop q).take (i - q) = x at *
        have HP2 := Lib.hid hp2
        clear hp2 HP hc
        go_wp2_with (at_builtin; refine wpList_append_new rfl (.tmp 25) (.tmp 30) 64 rfl w.heap.size 9 i0 _ 1 16 Tryd.underlying64 HI.out HZ0.out HZ1.out HZ2.out rfl (by decide) _ _ _ rfl (HW.out.alloc _) wr.heap.size 1 #[.string ⟨x.toArray⟩] 9 (0, 0) ?c1 rfl rfl ?c2 ?c3 ?c4 ?c5 ?_)
        case c1 => exact heap_alloc_new _ _
        case c2 => rfl
        case c3 => omega
        case c4 => omega
        case c5 => simp; omega
        intro v' w4 hown' hgrow
        have hb4 := below_own (HB.out.alloc hszB _) (HW.out.alloc _) hgrow (by simp; omega)
        have HW4 := Lib.hid hown'
        have HB4 := Lib.hid hb4
        clear hown' hgrow hb4 HW HB
        go_wp2_with fail
        go_roundg (gk - 1)
        case measure => omega
        case rel => exact ⟨i + 1, i + 1, done ++ [x], by first | rfl | (congr 1), by first | rfl | (congr 1), by omega, by omega, by simp; omega, HP2, Lib.hid (by have := HW4.out; simpa [strs] using this), HB4⟩
      · have hcI : ¬ ((s[i].toNat : Nat) : Int) = (c.toNat : Int) := fun e => hc (UInt8.toNat_inj.1 (by omega))
        have hp2 := HP.out.on hlt hc
        have hcN : ¬ s[i].toNat = c.toNat := fun e => hc (UInt8.toNat_inj.1 e)
        have hcB : (((s[i].toNat : Nat) : Int) == (c.toNat : Int)) = false := by rw [beq_eq_false_iff_ne]; exact hcI
        generalize s[i] = d at *
        have HP2 := Lib.hid hp2
        clear hp2 HP hc
        go_wp2_with fail
        go_roundg (gk - 1)
        case measure => omega
        case rel => exact ⟨i + 1, q, done, rfl, by first | rfl | (congr 1), by omega, by omega, by omega, HP2, HW, HB⟩
    · by_cases heq : i = s.length
      · subst heq
        have hltI : (s.length : Int) ≤ (s.length : Int) := by omega
        obtain ⟨hqi, hp2⟩ := HP.out.last
        have hsl := fun w => str_mid s q s.length hqi (by omega) _ _ rfl rfl w
        generalize (s.drop q).take (s.length - q) = x at *
        have HP2 := Lib.hid hp2
        clear hp2 HP
        go_wp2_with (at_builtin; refine wpList_append_new rfl (.tmp 25) (.tmp 30) 64 rfl w.heap.size 9 i0 _ 1 16 Tryd.underlying64 HI.out HZ0.out HZ1.out HZ2.out rfl (by decide) _ _ _ rfl (HW.out.alloc _) wr.heap.size 1 #[.string ⟨x.toArray⟩] 9 (0, 0) ?c1d rfl rfl ?c2d ?c3d ?c4d ?c5d ?_)
        case c1d => exact heap_alloc_new _ _
        case c2d => rfl
        case c3d => omega
        case c4d => omega
        case c5d => simp; omega
        intro v' w4 hown' hgrow
        have hb4 := below_own (HB.out.alloc hszB _) (HW.out.alloc _) hgrow (by simp; omega)
        have HW4 := Lib.hid hown'
        have HB4 := Lib.hid hb4
        clear hown' hgrow hb4 HW HB
        go_wp2_with fail
        go_roundg (gk - 1)
        case measure => omega
        case rel => exact ⟨s.length + 1, s.length + 1, done ++ [x], by first | rfl | (congr 1), by first | rfl | (congr 1), by omega, by omega, by simp; omega, HP2, Lib.hid (by have := HW4.out; simpa [strs] using this), HB4⟩
      · have hlt2 : i = s.length + 1 := by omega
        subst hlt2
        have hltI : ¬ (((s.length + 1 : Nat)) : Int) ≤ (s.length : Int) := by omega
        have hr := HP.out.end
        have HR := Lib.hid hr
        clear hr HP
        go_wp2_with fail
        go_ret
        refine ⟨⟨ao, ⟨co, ?_⟩, ?_⟩, HB.out⟩
        · rw [HR.out]; rfl
        · rw [HR.out]; exact HRO.out
end Go.Proofs.YtgmieceebchmfaaDoor

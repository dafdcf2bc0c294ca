/- Parts of bytes that lie in memory. -/
import Derived.Test.YtjofjgjocgooeaaDoorTl
import Derived.WalkSpells
set_option linter.unusedVariables false
namespace Go.Proofs.YtjofjgjocgooeaaDoor
open Go.RowKit

theorem Rd.sub {w : World} {a : Option Addr} {l : List UInt8} (h : Rd w a l) (i n c : Nat) (hc : l.length ≤ c) (hi : i + n ≤ l.length) : Rd w (if c = i then a else a.map (·.add (i * 1))) ((l.drop i).take n) := by
  rcases h with rfl | ⟨b, off, rfl, hcell⟩
  · exact .inl (by simp)
  · by_cases e : c = i
    · refine .inl ?_
      have : n = 0 := by omega
      subst this
      simp
    · rw [if_neg e]
      refine .inr ⟨b, off + i, by simp [Addr.add_lit], fun j hj => ?_⟩
      simp at hj
      have := hcell (i + j) (by omega)
      rw [show off + i + j = off + (i + j) by omega, this]
      simp
/-- l[i:j], l[:j], l[i:]. -/
theorem slice_lh (a : Option Addr) (l : List UInt8) (c i j n : Nat) (I J : Int) (hI : I = i) (hJ : J = j) (hc : l.length ≤ c) (hij : i ≤ j) (hj : j ≤ l.length) (hn : n = j - i) :
    ∃ a' c', (∀ w, (Instr.slice 47 (.slice a l.length c) (some (.int .i64 I)) (some (.int .i64 J)) none).run Tryd.prog w = .ok (.slice a' n c') w) ∧ ∀ w, Rd w a l → Rd w a' ((l.drop i).take n) := by
  subst hI hJ
  refine ⟨if c = i then a else a.map (·.add (i * 1)), c - i, fun w => ?_, fun w h => ?_⟩
  · rw [run_slice_lh w 47 a l.length c Tryd.underlying47 .i64 .i64 i j (by omega) (by omega) (by omega)]
    simp [go_sem, hn]
  · exact h.sub i n c hc (by omega)
theorem slice_h (a : Option Addr) (l : List UInt8) (c j : Nat) (J : Int) (hJ : J = j) (hc : l.length ≤ c) (hj : j ≤ l.length) :
    ∃ a' c', (∀ w, (Instr.slice 47 (.slice a l.length c) none (some (.int .i64 J)) none).run Tryd.prog w = .ok (.slice a' j c') w) ∧ ∀ w, Rd w a l → Rd w a' (l.take j) := by
  subst hJ
  refine ⟨if c = 0 then a else a.map (·.add (0 * 1)), c - 0, fun w => ?_, fun w h => ?_⟩
  · rw [run_slice_h w 47 a l.length c Tryd.underlying47 .i64 j (by omega) (by omega)]
    simp [go_sem]
  · exact h.sub 0 j c hc (by omega)
theorem slice_l (a : Option Addr) (l : List UInt8) (c i n : Nat) (I : Int) (hI : I = i) (hc : l.length ≤ c) (hi : i ≤ l.length) (hn : n = l.length - i) :
    ∃ a' c', (∀ w, (Instr.slice 47 (.slice a l.length c) (some (.int .i64 I)) none none).run Tryd.prog w = .ok (.slice a' n c') w) ∧ ∀ w, Rd w a l → Rd w a' (l.drop i) := by
  subst hI
  refine ⟨if c = i then a else a.map (·.add (i * 1)), c - i, fun w => ?_, fun w h => ?_⟩
  · rw [run_slice_l w 47 a l.length c Tryd.underlying47 .i64 i (by omega) (by omega)]
    simp [go_sem, hn]
  · have := h.sub i n c hc (by omega)
    rwa [List.take_of_length_le (by simp; omega)] at this
end Go.Proofs.YtjofjgjocgooeaaDoor

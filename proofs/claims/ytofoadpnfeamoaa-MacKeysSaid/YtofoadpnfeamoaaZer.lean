/- append(l, make([]byte, n)...) -/
import Derived.Test.YtofoadpnfeamoaaTl
import Derived.Lib.AppendZeros
set_option linter.unusedVariables false
namespace Go.Proofs.Ytofoadpnfeamoaa
open Go.RowKit

theorem byte_zeros (n : Nat) : Lib.byteCells (List.replicate n 0) = List.replicate n (Value.int .u8 0) := by simp [Lib.byteCells]
theorem zero_cells (n : Nat) : Builtin.zeroCells #[Value.int .u8 0] n = (List.replicate n (Value.int .u8 0)).toArray := by
  apply Array.ext
  · simp [Builtin.zeroCells]
  · intro i h1 h2
    simp [Builtin.zeroCells, Nat.mod_one]

theorem run_append_tl_zeros (ty : TypeId) {B : Nat} {w : World} {v : Value} {l : List UInt8} (h : Tl B w v l) (n : Nat) (hlen : l.length + n ≤ 1000000) (hB : B ≤ w.heap.size) :
    ∃ v' w', (Builtin.append_ #[22, 3] ty #[v, .int .i64 (n : Nat)]).run Try.prog w = .ok v' w' ∧ Tl B w' v' (l ++ List.replicate n 0) ∧ w.grownBy w' v.ownBlock := by
  obtain ⟨i0, hi, hz0, hz1, hz2⟩ := info_u8'
  have hw : IntKind.i64.wrap (n : Int) = n := by rw [IntKind.wrap_i64]; omega
  have hneg : ¬ ((n : Int) < 0) := by omega
  have hw0 : IntKind.i64.wrap 0 = 0 := rfl
  have h48i : ¬ (281474976710656 < (n : Int)) := by omega
  have hzc : (Value.int .u8 0).cells = #[Value.int .u8 0] := rfl
  have hn0 : ∀ w : World, ((if n * i0.size = 0 then (pure #[] : Sem (Array Value)) else do pure (Builtin.zeroCells (← zeroValue 5).cells n)).run Try.prog w) = .ok (List.replicate n (Value.int .u8 0)).toArray w := by
    intro w
    rw [hz1, Nat.mul_one]
    by_cases e : n = 0
    · subst e; simp
    · simp [e, zeroValue, typeInfo, hi, hz0, hzc, zero_cells]
  have hone : ∀ v ∈ List.replicate n (Value.int .u8 0), v.oneCell' = true := fun v hv => by rw [List.eq_of_mem_replicate hv]; rfl
  rcases h with ⟨rfl, rfl⟩ | ⟨g, off, cap, cur, rfl, hBg, hg, hlc, hsz, hmx, hl⟩
  · by_cases e : n = 0
    · subst e
      refine ⟨.slice none 0 0, w, ?_, by simpa using Tl.nil B w, ⟨rfl, rfl, rfl, Nat.le_refl _, fun _ _ _ => rfl⟩⟩
      simp [Builtin.append_, run_underlying Try.underlying22, run_underlying Try.underlying3, sizeOf, typeInfo, hi, asInt, asIntOf, hw0]
    · have hr := Lib.run_append_nil_zeros (P := Try.prog) w 22 3 ty 5 i0 (.int .u8 0) .i64 .i64 Try.underlying22 Try.underlying3 hi hz0 n (by omega) (by omega) (by omega) (by rw [hz2]; omega)
      refine ⟨_, _, hr, .inr ⟨w.heap.size, 0, _, _, by simp, hB, heap_alloc_new w.drew _, by simpa using grownCap_ge w n 0 5, ?_, grownCap_le_maxLen w n 0 5 (by unfold maxLen; omega), ?_⟩, ⟨rfl, rfl, rfl, by simp, fun k hk _ => Below.heap_alloc w.drew _ k hk⟩⟩
      · have := grownCap_ge w n 0 5
        rw [hzc]
        simp [zero_cells]
        omega
      · intro j hj
        simp at hj
        rw [hzc, zero_cells, Nat.zero_add, Array.getElem?_append_left (by simpa using hj)]
        simp [hj]
  · by_cases hroom : l.length + n ≤ cap
    · have hst := run_storeCells_cells (P := Try.prog) g (off + l.length) (List.replicate n (Value.int .u8 0)) 0 w (fun j hj => by
        simp at hj
        rw [Nat.add_zero, Lib.cell_of_heap hg, Array.getElem?_eq_getElem (by omega)]
        rfl) (fun j hj => Lib.frozen_of_heap hg _) hone
      simp only [Nat.add_zero] at hst
      obtain ⟨cs', f1, f2, f3, f4, f5⟩ := setCells_block (List.replicate n (Value.int .u8 0)) (off + l.length) w cur hg
      refine ⟨.slice (some ⟨g, off, none⟩) (l.length + n) cap, w.setCells g (off + l.length) (List.replicate n (Value.int .u8 0)), ?_, .inr ⟨g, off, cap, cs', by rw [List.length_append, List.length_replicate], hBg, f1, by rw [List.length_append, List.length_replicate]; exact hroom, by omega, hmx, ?_⟩, ⟨setCells_os _ _ _ _, setCells_tape _ _ _ _, setCells_output _ _ _ _, Nat.le_of_eq (setCells_size _ _ _ _).symm, fun k hk hne => World.heap_setCells_other w g _ _ hk (fun e => hne (by subst e; rfl))⟩⟩
      · by_cases e : n = 0
        · subst e
          simp [Builtin.append_, run_underlying Try.underlying22, run_underlying Try.underlying3, sizeOf, typeInfo, hi, asInt, asIntOf, hlc, hw0, Addr.add_lit, World.setCells, storeCells]
        · simp [Builtin.append_, run_underlying Try.underlying22, run_underlying Try.underlying3, sizeOf, typeInfo, zeroValue, hi, hz0, hz1, hz2, hzc, asInt, asIntOf, hw, hneg, h48i, hroom, e, Addr.add_lit, zero_cells, hst]
      · intro j hj
        rw [List.length_append, List.length_replicate] at hj
        by_cases hjl : j < l.length
        · rw [f3 _ (by omega), hl j hjl, List.getElem_append_left hjl]
        · have := f4 (j - l.length) (by simp; omega) (by omega)
          rw [show off + l.length + (j - l.length) = off + j by omega] at this
          rw [this, List.getElem_append_right (by omega)]
          simp
    · have hold := run_firstCells_some (P := Try.prog) w.drew i0.size l.length ⟨g, off, none⟩ l.length cap (Lib.byteCells l) (by simp [byteCells_len, hz1]) (fun j u hu => by
        have hj : j < l.length := by have := (List.getElem?_eq_some_iff.1 hu).1; simpa [Lib.byteCells] using this
        have e1 : u = .int .u8 (l[j]).toNat := by
          simp [Lib.byteCells, hj] at hu
          exact hu.symm
        rw [Addr.add_lit, show w.drew.cell? ⟨g, off + j, none⟩ = w.cell? ⟨g, off + j, none⟩ from rfl, Lib.cell_of_heap hg, hl j hj, e1])
      rw [hz1] at hold
      have hge := grownCap_ge w (l.length + n) cap 5
      have hcm := grownCap_le_maxLen w (l.length + n) cap 5 (by unfold maxLen; omega)
      have e0 : ¬ n = 0 := by omega
      have hnc : ¬ (281474976710656 < Builtin.nextslicecap (l.length + n) cap) := by
        have := growslice_fits (need := l.length + n) (old := cap) (bytes := 1) (by omega) (by omega)
        omega
      have h63 : ¬ (9223372036854775807 < ((l.length : Int) + (n : Int))) := by omega
      refine ⟨.slice (some ⟨w.heap.size, 0, none⟩) (l.length + n) (grownCap w (l.length + n) cap 5), w.drew.alloc (.cells (((Lib.byteCells l ++ List.replicate n (Value.int .u8 0)) ++ List.replicate (grownCap w (l.length + n) cap 5 - (l.length + n)) (Value.int .u8 0)).toArray) 5), ?_, .inr ⟨w.heap.size, 0, _, _, by rw [List.length_append, List.length_replicate], hB, heap_alloc_new w.drew _, by rw [List.length_append, List.length_replicate]; exact hge, by simp [byteCells_len]; omega, hcm, ?_⟩, ⟨rfl, rfl, rfl, by simp, fun k hk _ => Below.heap_alloc w.drew _ k hk⟩⟩
      · simp [Builtin.append_, run_underlying Try.underlying22, run_underlying Try.underlying3, sizeOf, typeInfo, zeroValue, hi, hz0, hz1, hz2, hzc, asInt, asIntOf, hw, hneg, h48i, hroom, e0, hnc, h63, zero_cells, Question.forced, hold, newRow, grownCap]
        congr 2
        apply Array.ext'
        simp
      · intro j hj
        rw [Nat.zero_add]
        have hj' : j < l.length + n := by simpa using hj
        simp only [List.getElem?_toArray]
        rw [List.getElem?_append_left (by simp [byteCells_len]; omega)]
        by_cases hjl : j < l.length
        · rw [List.getElem?_append_left (by simp [byteCells_len]; omega), List.getElem_append_left hjl]
          simp [Lib.byteCells, hjl]
        · rw [List.getElem?_append_right (by simp [byteCells_len]; omega), List.getElem_append_right (by omega), byteCells_len, List.getElem?_replicate, if_pos (by omega)]
          simp
end Go.Proofs.Ytofoadpnfeamoaa

/- Parts that came in. -/
import Derived.Test.YtofoadpnfeamoaaShaG
import Derived.Deep.Matrix
set_option linter.unusedVariables false
namespace Go.Proofs.Ytofoadpnfeamoaa
open Go.RowKit

/-- Rows of bytes that came in, as lists. -/
theorem rds_of_rows {w : World} {x : Addr} {len cap : Nat} {A : Nat → Option Addr} {L C : Nat → Nat} {Z : Nat → List Int} (hl : len ≤ cap)
    (h : ∀ r, r < cap → w.cell? (x.add r) = some (.slice (A r) (L r) (C r)) ∧ L r ≤ C r ∧ C r ≤ maxLen ∧ (Z r).length = C r ∧ (∀ n ∈ Z r, (Lit.int .u8 n).wf = true) ∧ (A r = none → C r = 0) ∧
      ∀ a', A r = some a' → 0 ≤ a'.block ∧ ∀ c, c < C r → w.cell? (a'.add c) = some (.int .u8 ((Z r).getD c 0))) :
    ∃ ps : List (List UInt8), len = ps.length ∧ RdS w (some x) ps := by
  cases len with
  | zero => exact ⟨[], rfl, .inl rfl⟩
  | succ len =>
    obtain ⟨b, off, spot⟩ := x
    have h0 := (h 0 (by omega)).1
    have hsp : spot = none := by
      cases spot with
      | none => rfl
      | some k =>
        have e0 : (⟨b, off, some k⟩ : Addr).add 0 = ⟨b, off, some k⟩ := by simp [Addr.add]
        rw [e0] at h0
        unfold World.cell? at h0
        split at h0 <;> simp at h0
    subst hsp
    have each : ∀ r, r < cap → ∃ l : List UInt8, L r = l.length ∧ Rd w (A r) l := by
      intro r hr
      obtain ⟨h1, h2, h3, h4, h5, h6, h7⟩ := h r hr
      cases ha : A r with
      | none =>
        have hc := h6 ha
        exact ⟨[], by simp; omega, .inl rfl⟩
      | some a' =>
        refine rd_of_cells (cap := C r) (zs := Z r) (.inr ⟨a', rfl, h2, h3, h4, fun i hi => (h7 a' ha).2 i (by omega), h5⟩)
    have hch : ∃ f : Nat → List UInt8, ∀ r, r < cap → L r = (f r).length ∧ Rd w (A r) (f r) :=
      ⟨fun r => if h : r < cap then (each r h).choose else [], fun r hr => by simp only [hr, dif_pos]; exact (each r hr).choose_spec⟩
    obtain ⟨f, hf⟩ := hch
    refine ⟨(List.range (len + 1)).map f, by simp, .inr ⟨b, off, rfl, fun i hi => ?_⟩⟩
    simp at hi
    have h1 := (h i (by omega)).1
    rw [Addr.add_lit] at h1
    obtain ⟨e1, e2⟩ := hf i (by omega)
    refine ⟨A i, C i, ?_, ?_⟩
    · rw [h1, e1]
      simp
    · simpa using e2
end Go.Proofs.Ytofoadpnfeamoaa

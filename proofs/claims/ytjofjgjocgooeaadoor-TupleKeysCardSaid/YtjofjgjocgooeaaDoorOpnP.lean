/- A parameter that is a row of parts, opened. -/
import Derived.Test.YtjofjgjocgooeaaDoorTupK
import Derived.Deep.Slices
import Derived.ChangeSame
set_option linter.unusedVariables false
namespace Go.Proofs.YtjofjgjocgooeaaDoor
open Go.RowKit

section
variable {H : Type} {enc : TypeId × Value → H} {w : World} {base : Nat} {spare : Nat → Bool} {held : Bool}
theorem cells39 : Tryd.prog.cellsOf 39 = 3 := by kernel_rfl
theorem cells4 : Tryd.prog.cellsOf 4 = 1 := by kernel_rfl
theorem cells3 : Tryd.prog.cellsOf 3 = 1 := by kernel_rfl
theorem cells9 : Tryd.prog.cellsOf 9 = 1 := by kernel_rfl
/-- One part. -/
theorem open_part {fuel : Nat} {cs : List Value} {x : DataW H × List MemPlace} (h : DataW.trod enc Tryd.prog w base spare held fuel 39 cs = some x) :
    ∃ p : TP, cs = [.bool p.isNum, .int .i64 p.num, .string ⟨p.text.toArray⟩] ∧ p.ok := by
  obtain ⟨ys, n, _, _, hlen, _, hf⟩ := DataW.trod_struct Tryd.underlying39 h
  rw [cells39] at hlen
  match cs, hlen with
  | [c0, c1, c2], _ =>
    have f0 : DataW.trod enc Tryd.prog w base spare held n 4 (([c0, c1, c2].drop 0).take (Tryd.prog.cellsOf 4)) = ys[0]? := hf 0 _ rfl
    have f1 : DataW.trod enc Tryd.prog w base spare held n 3 (([c0, c1, c2].drop 1).take (Tryd.prog.cellsOf 3)) = ys[1]? := hf 1 _ rfl
    have f2 : DataW.trod enc Tryd.prog w base spare held n 9 (([c0, c1, c2].drop 2).take (Tryd.prog.cellsOf 9)) = ys[2]? := hf 2 _ rfl
    rw [cells4] at f0
    rw [cells3] at f1
    rw [cells9] at f2
    have g0 : ∃ y, ys[0]? = some y := by
      cases e : ys[0]? with
      | some y => exact ⟨y, rfl⟩
      | none => exfalso; simp at e; simp_all
    have g1 : ∃ y, ys[1]? = some y := by
      cases e : ys[1]? with
      | some y => exact ⟨y, rfl⟩
      | none => exfalso; simp at e; simp_all
    have g2 : ∃ y, ys[2]? = some y := by
      cases e : ys[2]? with
      | some y => exact ⟨y, rfl⟩
      | none => exfalso; simp at e; simp_all
    obtain ⟨y0, e0⟩ := g0
    obtain ⟨y1, e1⟩ := g1
    obtain ⟨y2, e2⟩ := g2
    rw [e0] at f0
    rw [e1] at f1
    rw [e2] at f2
    obtain ⟨k, h0, _⟩ := DataW.trod_bool Tryd.underlying4 f0
    obtain ⟨x, h1, _, hx⟩ := DataW.trod_int Tryd.underlying3 f1
    obtain ⟨s, h2, _, _⟩ := DataW.trod_string Tryd.underlying9 f2
    simp at h0 h1 h2
    subst h0 h1 h2
    refine ⟨⟨k, x, s.data.toList⟩, rfl, ?_⟩
    simp [Lit.wf, IntKind.min, IntKind.max, IntKind.signed, IntKind.bits] at hx
    exact ⟨by show _ ≤ x; omega, by show x < _; omega⟩
/-- A row of parts. -/
theorem open_parts {fuel : Nat} {a : Option Addr} {len cap : Nat} {x : DataW H × List MemPlace} (h : DataW.trod enc Tryd.prog w base spare held fuel 22 [.slice a len cap] = some x) :
    ∃ l : List TP, len = l.length ∧ RdP w a l ∧ (∀ p ∈ l, p.ok) ∧ l.length ≤ maxLen := by
  rcases Go.Deep.open_slice Tryd.underlying22 h with ⟨h0, _⟩ | ⟨ad, len', cap', m, n, D, Pl, h0, hb, hl, hm, hmm, hx, hi⟩
  · simp at h0
    obtain ⟨rfl, rfl, rfl⟩ := h0
    exact ⟨[], rfl, .inl rfl, by simp, Nat.zero_le _⟩
  · simp at h0
    obtain ⟨rfl, rfl, rfl⟩ := h0
    have hml : len ≤ m := by rw [hmm]; split <;> omega
    rw [cells39] at hi
    have key : ∀ i, i < len → ∃ p : TP, p.ok ∧ w.cell? ((ad.add (i * 3)).add 0) = some (.bool p.isNum) ∧ w.cell? ((ad.add (i * 3)).add 1) = some (.int .i64 p.num) ∧ w.cell? ((ad.add (i * 3)).add 2) = some (.string ⟨p.text.toArray⟩) := by
      intro i hil
      obtain ⟨cs', hc, ht⟩ := hi i (by omega)
      obtain ⟨p, rfl, hp⟩ := open_part ht
      obtain ⟨_, _, hat⟩ := World.cells?_some hc
      exact ⟨p, hp, hat 0 (by omega), hat 1 (by omega), hat 2 (by omega)⟩
    by_cases h0 : len = 0
    · subst h0
      exact ⟨[], rfl, .inl rfl, by simp, Nat.zero_le _⟩
    · have hsp : ad.spot = none := by
        obtain ⟨p, _, h1, _⟩ := key 0 (by omega)
        obtain ⟨b, off, spot⟩ := ad
        cases spot with
        | none => rfl
        | some k =>
          have e0 : ((⟨b, off, some k⟩ : Addr).add (0 * 3)).add 0 = ⟨b, off, some k⟩ := by simp [Addr.add]
          rw [e0] at h1
          unfold World.cell? at h1
          split at h1 <;> simp at h1
      obtain ⟨b, off, spot⟩ := ad
      simp only at hsp
      subst hsp
      have key2 : ∀ i, ∃ p : TP, i < len → p.ok ∧ w.cell? ⟨b, off + i * 3, none⟩ = some (.bool p.isNum) ∧ w.cell? ⟨b, off + i * 3 + 1, none⟩ = some (.int .i64 p.num) ∧ w.cell? ⟨b, off + i * 3 + 2, none⟩ = some (.string ⟨p.text.toArray⟩) := by
        intro i
        by_cases h : i < len
        · obtain ⟨p, h1, h2, h3, h4⟩ := key i h
          simp only [Addr.add_lit] at h2 h3 h4
          exact ⟨p, fun _ => ⟨h1, h2, h3, h4⟩⟩
        · exact ⟨⟨false, 0, []⟩, fun h' => absurd h' h⟩
      obtain ⟨f, hf⟩ : ∃ f : Nat → TP, ∀ i, i < len → (f i).ok ∧ w.cell? ⟨b, off + i * 3, none⟩ = some (.bool (f i).isNum) ∧ w.cell? ⟨b, off + i * 3 + 1, none⟩ = some (.int .i64 (f i).num) ∧ w.cell? ⟨b, off + i * 3 + 2, none⟩ = some (.string ⟨(f i).text.toArray⟩) :=
        ⟨fun i => Classical.choose (key2 i), fun i => Classical.choose_spec (key2 i)⟩
      refine ⟨(List.range len).map f, by simp, .inr ⟨b, off, rfl, fun i hi' => ?_⟩, fun p hp => ?_, by simp; omega⟩
      · simp only [List.length_map, List.length_range] at hi'
        simp only [List.getElem_map, List.getElem_range]
        exact (hf i hi').2
      · simp only [List.mem_map, List.mem_range] at hp
        obtain ⟨i, hi', rfl⟩ := hp
        exact (hf i hi').1
end
end Go.Proofs.YtjofjgjocgooeaaDoor

/- A parameter that is a row of pairs, opened. -/
import Derived.Test.YtgmieceebchmfaaDoorTxtK
import Derived.Deep.Slices
import Derived.ChangeSame
set_option linter.unusedVariables false
namespace Go.Proofs.YtgmieceebchmfaaDoor
open Go.RowKit

section
variable {H : Type} {enc : TypeId × Value → H} {w : World} {base : Nat} {spare : Nat → Bool} {held : Bool}
theorem cellsPair : Tryd.prog.cellsOf 38 = 2 := by kernel_rfl
theorem cellsStr : Tryd.prog.cellsOf 9 = 1 := by kernel_rfl
set_option maxRecDepth 100000 in
/-- One pair. -/
theorem open_pair {fuel : Nat} {cs : List Value} {x : DataW H × List MemPlace} (h : DataW.trod enc Tryd.prog w base spare held fuel 38 cs = some x) :
    ∃ p : PairL, cs = paircell p := by
  obtain ⟨ys, n, _, _, hlen, _, hf⟩ := DataW.trod_struct Tryd.underlying38 h
  rw [cellsPair] at hlen
  match cs, hlen with
  | [c0, c1], _ =>
    have f0 : DataW.trod enc Tryd.prog w base spare held n 9 (([c0, c1].drop 0).take (Tryd.prog.cellsOf 9)) = ys[0]? := hf 0 _ rfl
    have f1 : DataW.trod enc Tryd.prog w base spare held n 9 (([c0, c1].drop 1).take (Tryd.prog.cellsOf 9)) = ys[1]? := hf 1 _ rfl
    rw [cellsStr] at f0
    rw [cellsStr] at f1
    have g0 : ∃ y, ys[0]? = some y := by
      cases e : ys[0]? with
      | some y => exact ⟨y, rfl⟩
      | none => exfalso; simp at e; simp_all
    have g1 : ∃ y, ys[1]? = some y := by
      cases e : ys[1]? with
      | some y => exact ⟨y, rfl⟩
      | none => exfalso; simp at e; simp_all
    obtain ⟨y0, e0⟩ := g0
    obtain ⟨y1, e1⟩ := g1
    rw [e0] at f0
    rw [e1] at f1
    obtain ⟨s, h0, _, _⟩ := DataW.trod_string Tryd.underlying9 f0
    obtain ⟨t, h1, _, _⟩ := DataW.trod_string Tryd.underlying9 f1
    simp at h0 h1
    subst h0 h1
    exact ⟨⟨s.data.toList, t.data.toList⟩, rfl⟩
set_option maxRecDepth 100000 in
/-- A row of pairs. -/
theorem open_pairs {fuel : Nat} {a : Option Addr} {len cap : Nat} {x : DataW H × List MemPlace} (h : DataW.trod enc Tryd.prog w base spare held fuel 31 [.slice a len cap] = some x) :
    ∃ l : List PairL, len = l.length ∧ RdC w a (l.flatMap paircell) ∧ l.length ≤ cap := by
  rcases Go.Deep.open_slice Tryd.underlying31 h with ⟨h0, _⟩ | ⟨ad, len', cap', m, n, D, Pl, h0, hb, hl, hm, hmm, hx, hi⟩
  · simp at h0
    obtain ⟨rfl, rfl, rfl⟩ := h0
    exact ⟨[], rfl, .inl rfl, Nat.zero_le _⟩
  · simp at h0
    obtain ⟨rfl, rfl, rfl⟩ := h0
    have hml : len ≤ m := by rw [hmm]; split <;> omega
    rw [cellsPair] at hi
    have key : ∀ i, i < len → ∃ p : PairL, w.cell? ((ad.add (i * 2)).add 0) = some (.string ⟨p.1.toArray⟩) ∧ w.cell? ((ad.add (i * 2)).add 1) = some (.string ⟨p.2.toArray⟩) := by
      intro i hil
      obtain ⟨cs', hc, ht⟩ := hi i (by omega)
      obtain ⟨p, rfl⟩ := open_pair ht
      obtain ⟨_, _, hat⟩ := World.cells?_some hc
      exact ⟨p, hat 0 (by omega), hat 1 (by omega)⟩
    by_cases h0 : len = 0
    · subst h0
      exact ⟨[], rfl, .inl rfl, Nat.zero_le _⟩
    · have hsp : ad.spot = none := by
        obtain ⟨p, h1, _⟩ := key 0 (by omega)
        obtain ⟨b, off, spot⟩ := ad
        cases spot with
        | none => rfl
        | some k =>
          have e0 : ((⟨b, off, some k⟩ : Addr).add (0 * 2)).add 0 = ⟨b, off, some k⟩ := by simp [Addr.add]
          rw [e0] at h1
          unfold World.cell? at h1
          split at h1 <;> simp at h1
      obtain ⟨b, off, spot⟩ := ad
      simp only at hsp
      subst hsp
      have key2 : ∀ i, ∃ p : PairL, i < len → w.cell? ⟨b, off + i * 2, none⟩ = some (.string ⟨p.1.toArray⟩) ∧ w.cell? ⟨b, off + i * 2 + 1, none⟩ = some (.string ⟨p.2.toArray⟩) := by
        intro i
        by_cases h : i < len
        · obtain ⟨p, h2, h3⟩ := key i h
          simp only [Addr.add_lit] at h2 h3
          exact ⟨p, fun _ => ⟨h2, h3⟩⟩
        · exact ⟨([], []), fun h' => absurd h' h⟩
      obtain ⟨f, hf⟩ : ∃ f : Nat → PairL, ∀ i, i < len → w.cell? ⟨b, off + i * 2, none⟩ = some (.string ⟨(f i).1.toArray⟩) ∧ w.cell? ⟨b, off + i * 2 + 1, none⟩ = some (.string ⟨(f i).2.toArray⟩) :=
        ⟨fun i => Classical.choose (key2 i), fun i => Classical.choose_spec (key2 i)⟩
      refine ⟨(List.range len).map f, by simp, .inr ⟨b, off, rfl, fun i u hu => ?_⟩, by simp; omega⟩
      have hlen := flat_len paircell 2 paircell_len ((List.range len).map f)
      simp only [List.length_map, List.length_range] at hlen
      have hi2 := (List.getElem?_eq_some_iff.1 hu).1
      rw [hlen] at hi2
      have hj : i / 2 < len := by omega
      have hg := flat_get paircell 2 paircell_len ((List.range len).map f) (i / 2) (i % 2) (by simpa using hj) (by omega)
      rw [show i / 2 * 2 + i % 2 = i by omega, hu] at hg
      simp only [List.getElem_map, List.getElem_range] at hg
      obtain ⟨k1, k2⟩ := hf (i / 2) hj
      rcases Nat.mod_two_eq_zero_or_one i with hr | hr
      · rw [hr] at hg
        simp [paircell] at hg
        rw [hg, ← k1]
        congr 2
        omega
      · rw [hr] at hg
        simp [paircell] at hg
        rw [hg, ← k2]
        congr 2
        omega
end
end Go.Proofs.YtgmieceebchmfaaDoor

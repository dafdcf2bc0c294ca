/- What the library's own variables hold; strconv.Atoi of any text. -/
import Derived.Test.YtbblnlddiafkhaaDoorTok3
import Derived.Lib.SmallJoins
import Derived.Lib.AtoiAll
set_option linter.unusedVariables false
namespace Go.Proofs.YtbblnlddiafkhaaDoor
open Go.RowKit

theorem var_below {w w' : World} {n : String} {cs : Array Value} (h : w.var? Tryd.prog n = some cs) (hb : Below w.heap.size w w') : w'.var? Tryd.prog n = some cs := by
  unfold World.var? at h ⊢
  cases hg : Tryd.prog.globalNamed n with
  | none => simp [hg] at h
  | some g =>
    simp only [hg, Option.bind_some] at h ⊢
    have hlt : g < w.heap.size := by
      rcases Nat.lt_or_ge g w.heap.size with h' | h'
      · exact h'
      · simp [Array.getElem?_eq_none h'] at h
    rw [hb.block g hlt]
    exact h
/-- An error of the library's own. -/
def Sent (w : World) (n : String) : Prop := ∃ tp p, w.var? Tryd.prog n = some #[.iface tp p]
structure Std (w : World) : Prop where
  pow : Pow w
  syn : Sent w "strconv.ErrSyntax"
  rng : Sent w "strconv.ErrRange"
  mx : ∃ m, w.cell? ⟨0, 0, none⟩ = some (.int .i64 m)
theorem Std.below {w w' : World} (h : Std w) (hb : Below w.heap.size w w') : Std w' :=
  ⟨h.pow.below hb, by obtain ⟨t, p, e⟩ := h.syn; exact ⟨t, p, var_below e hb⟩, by obtain ⟨t, p, e⟩ := h.rng; exact ⟨t, p, var_below e hb⟩,
    by obtain ⟨m, e⟩ := h.mx; exact ⟨m, (hb.cell (World.block_lt_of_cell? _ _ e)).trans e⟩⟩
theorem below_draws (w : World) (n : Nat) : Below w.heap.size w (w.drewN n) := below_drewN (Below.refl _ _) n

/-- How Atoi ends. -/
def AtoiRes (l : List UInt8) (e : Ending) : Prop :=
  (∃ v : Int, Lib.atoiAll l = .ok v ∧ e = .returned (.tuple #[.int .i64 v, .nilIface])) ∨
  ((∀ v, Lib.atoiAll l ≠ .ok v) ∧ ∃ (v : Int) (tp : TypeId) (p : Addr), e = .returned (.tuple #[.int .i64 v, .iface tp (.pointer (some p))]))
theorem atoi_any (l : List UInt8) (w : World) (hl : l.length ≤ 100000) (hs : Std w) :
    Calls Tryd.prog 24 #[.string ⟨l.toArray⟩] w fun e w' => AtoiRes l e ∧ Below w.heap.size w w' := by
  have hsz : (⟨l.toArray⟩ : ByteArray).size = l.length := by simp [ByteArray.size]
  cases h : Lib.atoiAll l with
  | ok v =>
    refine (Tryd.strconv_Atoi_ok ⟨l.toArray⟩ (by omega) v h w).mono ?_
    rintro e w' ⟨rfl, hw⟩
    refine ⟨.inl ⟨v, h, rfl⟩, ?_⟩
    rcases hw with rfl | ⟨t, rfl⟩
    · exact Below.refl _ _
    · exact Lib.bytesWorld_below _ _ _
  | range =>
    obtain ⟨tp, p, hv⟩ := hs.rng
    refine (Tryd.strconv_Atoi_range_var ⟨l.toArray⟩ (by omega) h tp p w hv).mono ?_
    rintro e w' ⟨N, rfl, _, _, hb⟩
    exact ⟨.inr ⟨fun v => by simp [h], _, _, _, rfl⟩, hb⟩
  | _ =>
    obtain ⟨tp, p, hv⟩ := hs.syn
    refine (Tryd.strconv_Atoi_syntax_var ⟨l.toArray⟩ (by omega) h tp p w hv).mono ?_
    rintro e w' ⟨N, rfl, _, _, hb⟩
    exact ⟨.inr ⟨fun v => by simp [h], _, _, _, rfl⟩, hb⟩
end Go.Proofs.YtbblnlddiafkhaaDoor

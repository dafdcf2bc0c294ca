/- Parts as the document has them. -/
import Derived.Test.YtjofjgjocgooeaaDoorTup5
import Derived.Test.YtjofjgjocgooeaaDoorRow
import Derived.Deep.LoopGhost
set_option linter.unusedVariables false
namespace Go.Proofs.YtjofjgjocgooeaaDoor
open Go.RowKit

def pcell (p : TP) : List Value := [.bool p.isNum, .int .i64 p.num, .string ⟨p.text.toArray⟩]
theorem pcell_len (p : TP) : (pcell p).length = 3 := rfl
def pcells (l : List TP) : List Value := l.flatMap pcell
theorem RdP.of_c {w : World} {a : Option Addr} {l : List TP} (h : RdC w a (pcells l)) : RdP w a l := by
  cases l with
  | nil => exact .inl rfl
  | cons p l =>
    obtain ⟨b, off, e, h⟩ := h.at (by simp [pcells, pcell])
    refine .inr ⟨b, off, e, fun i hi => ?_⟩
    have g : ∀ j, j < 3 → (pcells (p :: l))[i * 3 + j]? = (pcell (p :: l)[i])[j]? := fun j hj => flat_get pcell 3 pcell_len _ i j hi hj
    refine ⟨?_, ?_, ?_⟩
    · have := h (i * 3 + 0) _ (g 0 (by omega))
      simpa using this
    · have := h (i * 3 + 1) _ (g 1 (by omega))
      rw [Nat.add_assoc]; exact this
    · have := h (i * 3 + 2) _ (g 2 (by omega))
      rw [Nat.add_assoc]; exact this
def bothB (l : List TP) : Bool := decide (l.length ≤ 12) && l.all fun p => decide (p.text.length ≤ 60)
theorem bothB_iff {l : List TP} : bothB l = true ↔ l.length ≤ 12 ∧ ∀ p ∈ l, p.text.length ≤ 60 := by simp [bothB]
def BothIs (l : List TP) (e : Ending) (w' : World) : Prop :=
  (bothB l = true ∧ ∃ a' c', e = .returned (.tuple #[.slice a' l.length c', .bool true]) ∧ RdC w' a' (pcells l) ∧ l.length ≤ c') ∨ (bothB l = false ∧ e = .returned (.tuple #[.slice none 0 0, .bool false]))

theorem info_rp : (Tryd.prog.info? 45).map (fun i => (i.zero, i.size, i.bytes)) = some (some (.agg #[.bool false, .int .i64 0, .string ⟨#[]⟩]), 3, 32) := by kernel_rfl

theorem heap_new2 (w : World) (o o' : Obj) : ((w.alloc o).alloc o').heap[w.heap.size + 1]? = some o' := by
  have h := heap_alloc_new (w.alloc o) o'
  have e : (w.alloc o).heap.size = w.heap.size + 1 := by simp
  rwa [e] at h

set_option maxRecDepth 100000 in
set_option maxHeartbeats 4000000 in
theorem both_any (a : Option Addr) (c : Nat) (l : List TP) (w : World) (hr : RdP w a l) (hlm : l.length ≤ maxLen) :
    Calls Tryd.prog 9 #[.slice a l.length c] w fun e w' => BothIs l e w' ∧ Below w.heap.size w w' := by
  obtain ⟨i0, hi, hz0, hz1, hz2⟩ := info_parts info_rp
  unfold maxLen at hlm
  have HR := Lib.hid hr
  have HI := Lib.hid hi
  have HZ0 := Lib.hid hz0
  have HZ1 := Lib.hid hz1
  have HZ2 := Lib.hid hz2
  clear hr hi hz0 hz1 hz2
  by_cases hl : l.length ≤ 12
  · go_enter Tryd.func9, Tryd.ntmps9
    go_wp2_with fail
    go_loopg [4, 12] l.length (fun k v y wr => ∃ j : Nat, y = .int .i64 (j : Int) ∧ j + k = l.length ∧ Hid (wr.ownsRow w.heap.size 45 3 v j (pcells (l.take j))) ∧ Hid (∀ p ∈ l.take j, p.text.length ≤ 60) ∧ Hid (Below w.heap.size w wr))
    case atStart => exact ⟨0, rfl, by omega, Lib.hid (World.ownsRow_nil _ _ _ _), Lib.hid (by simp), Lib.hid (Below.refl _ _)⟩
    case round =>
      obtain ⟨j, rfl, hj, HO, HT, HB⟩ := hrel
      by_cases hlt : j < l.length
      · rcases HR.out.below HB.out with h | ⟨b, off, rfl, hc⟩
        · rw [h] at hlt; simp at hlt
        · obtain ⟨c1, c2, c3⟩ := hc j hlt
          have hltI : (j : Int) < (l.length : Int) := by omega
          clear hc
          by_cases ht : l[j].text.length ≤ 60
          · have htI : ¬ (60 : Int) < (l[j].text.length : Int) := by omega
            go_wp2_with (at_builtin; refine wpList_append_new rfl _ _ 24 rfl w.heap.size 45 i0 _ 3 32 Tryd.underlying24 HI.out HZ0.out HZ1.out HZ2.out rfl (by decide) _ _ _ rfl ((HO.out.alloc _).alloc _) (wr.heap.size + 1) 1 #[.bool l[j].isNum, .int .i64 l[j].num, .string ⟨l[j].text.toArray⟩] 45 (0, 0) ?c1 rfl rfl ?c2 ?c3 ?c4 ?c5 ?_)
            case c1 => exact (Array.getElem?_eq_some_iff.1 (heap_new2 wr _ _)).2
            case c2 => exact ⟨rfl, rfl, rfl⟩
            case c3 => omega
            case c4 => omega
            case c5 => have := HB.out.size; simp; omega
            intro v' w1 hown' hgrow
            have hb1 := below_own ((HB.out.alloc HB.out.size _).alloc (by have := HB.out.size; simp; omega) _) ((HO.out.alloc _).alloc _) hgrow (by have := HB.out.size; simp; omega)
            have HO1 := Lib.hid hown'
            have HB1 := Lib.hid hb1
            clear hown' hgrow hb1
            go_wp2_with fail
            go_roundg (gk - 1)
            case measure => omega
            case rel => exact ⟨j + 1, by first | rfl | (congr 1), by omega, Lib.hid (by
              have := HO1.out
              unfold pcells
              rw [flat_take pcell l j hlt]
              exact this), Lib.hid (by
              intro p hp
              rw [List.take_succ_eq_append_getElem hlt] at hp
              rcases List.mem_append.1 hp with hp | hp
              · exact HT.out p hp
              · simp at hp; subst hp; exact ht), HB1⟩
          · have htI : (60 : Int) < (l[j].text.length : Int) := by omega
            go_wp2_with fail
            go_ret2
            exact ⟨.inr ⟨by
              cases h : bothB l with
              | false => rfl
              | true => exact absurd ((bothB_iff.1 h).2 l[j] (List.getElem_mem _)) ht, rfl⟩, HB.out.alloc HB.out.size _⟩
      · have hge : ¬ (j : Int) < (l.length : Int) := by omega
        have e : l.take j = l := List.take_of_length_le (by omega)
        have ho := HO.out
        have ht := HT.out
        rw [e] at ho ht
        have hjl : j = l.length := by omega
        rw [hjl] at ho
        obtain ⟨a', c', rfl, hrc, hlc⟩ := RdC.of_own ho
        have HRC := Lib.hid hrc
        have HT1 := Lib.hid ht
        clear e ho ht hrc hjl HO HT
        go_wp2_with fail
        go_ret2
        exact ⟨.inl ⟨bothB_iff.2 ⟨hl, HT1.out⟩, a', c', rfl, HRC.out, hlc⟩, HB.out⟩
  · have hlI : (12 : Int) < (l.length : Int) := by omega
    go_enter Tryd.func9, Tryd.ntmps9
    go_wp2_with fail
    go_ret2
    exact ⟨.inr ⟨by simp [bothB, hl], rfl⟩, Below.refl _ _⟩
end Go.Proofs.YtjofjgjocgooeaaDoor

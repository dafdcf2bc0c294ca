/- tuple.Key. -/
import Derived.Test.YtjofjgjocgooeaaDoorTupK
set_option linter.unusedVariables false
namespace Go.Proofs.YtjofjgjocgooeaaDoor
open Go.RowKit

theorem pb_len (p : TP) (h : p.text.length ≤ 1000) : (pb p).length ≤ 2003 := by
  unfold pb
  split
  · simp [beN_len]
  · have h1 := esc_len p.text
    have h2 : p.text.count 0 ≤ p.text.length := List.count_le_length
    simp only [List.length_cons, List.length_append, List.length_nil]
    omega
theorem keyB_len : ∀ l : List TP, (∀ p ∈ l, p.text.length ≤ 1000) → (keyB l).length ≤ 2003 * l.length
  | [], _ => by simp [keyB]
  | p :: l, h => by
    have ih := keyB_len l (fun x hx => h x (by simp [hx]))
    have h1 := pb_len p (h p (by simp))
    show (pb p ++ keyB l).length ≤ _
    rw [List.length_append, List.length_cons]
    omega
theorem keyB_take (l : List TP) (j : Nat) (h : j < l.length) : keyB (l.take (j + 1)) = keyB (l.take j) ++ pb l[j] := by
  unfold keyB
  rw [List.take_succ_eq_append_getElem h, List.flatMap_append]
  simp [List.flatMap_cons]

set_option maxRecDepth 100000 in
set_option maxHeartbeats 4000000 in
theorem key_any (a : Option Addr) (c : Nat) (l : List TP) (m : Int) (w : World) (hr : RdP w a l) (hm : w.cell? ⟨0, 0, none⟩ = some (.int .i64 m)) (hok : ∀ p ∈ l, p.ok) (htx : ∀ p ∈ l, p.text.length ≤ 1000) (hl : l.length ≤ 1000) :
    Calls Tryd.prog 10 #[.slice a l.length c] w fun e w' => e = .returned (.string ⟨(keyB l).toArray⟩) ∧ Below w.heap.size w w' := by
  have HR := Lib.hid hr
  have HM := Lib.hid hm
  have HO := Lib.hid hok
  have HT := Lib.hid htx
  clear hr hm hok htx
  go_enter Tryd.func10, Tryd.ntmps10
  go_wp2_with fail
  go_loopg [8] l.length (fun k y wr => ∃ j : Nat, y = .int .i64 (j : Int) ∧ j + k = l.length ∧ Hid (Bld w.heap.size (keyB (l.take j)) wr) ∧ Hid (Below w.heap.size w wr))
  case atStart => exact ⟨0, rfl, by omega, Lib.hid (Bld.fresh w), Lib.hid ((Below.refl _ _).alloc (Nat.le_refl _) _)⟩
  case round =>
    obtain ⟨j, rfl, hj, HBL, HB⟩ := hrel
    by_cases hlt : j < l.length
    · rcases HR.out.below HB.out with h | ⟨b, off, rfl, hc⟩
      · rw [h] at hlt; simp at hlt
      · obtain ⟨c1, c2, c3⟩ := hc j hlt
        have hltI : (j : Int) < (l.length : Int) := by omega
        have hmr : wr.cell? ⟨0, 0, none⟩ = some (.int .i64 m) := by rw [HB.out.cell (World.block_lt_of_cell? _ _ HM.out)]; exact HM.out
        have HMR := Lib.hid hmr
        clear hc hmr
        go_wp2_with fail
        refine (bytes_any l[j] m _ (HO.out _ (List.getElem_mem _)) (by rw [((Below.refl wr.heap.size wr).alloc (Nat.le_refl _) _).cell (World.block_lt_of_cell? _ _ HMR.out)]; exact HMR.out) (by have := HT.out _ (List.getElem_mem hlt); omega)).mono ?_
        rintro e w1 ⟨rfl, hb1⟩
        have hba : Below wr.heap.size wr w1 := ((Below.refl _ _).alloc (Nat.le_refl _) _).trans (hb1.mono (by simp))
        have HBL1 := Lib.hid (HBL.out.below hba)
        have HB2 := Lib.hid (HB.out.trans (hba.mono HB.out.size))
        clear hb1 hba
        go_wp2_with fail
        refine (WriteString_any w.heap.size _ _ w1 HBL1.out (by
          have h1 := keyB_len (l.take j) (fun x hx => HT.out x (List.mem_of_mem_take hx))
          have h2 := pb_len l[j] (HT.out _ (List.getElem_mem hlt))
          have h3 : (l.take j).length ≤ 1000 := by rw [List.length_take]; omega
          show (keyB (l.take j)).length + (pb l[j]).toArray.size ≤ _
          rw [List.size_toArray]
          omega)).mono ?_
        rintro e w2 ⟨rfl, hbl2, hb3⟩
        have HBL2 := Lib.hid hbl2
        have HB3 := Lib.hid (HB2.out.trans hb3)
        clear hbl2 hb3
        go_wp2_with fail
        go_roundg (gk - 1)
        case measure => omega
        case rel => exact ⟨j + 1, by first | rfl | (congr 1), by omega, Lib.hid (by rw [keyB_take l j hlt]; simpa using HBL2.out), HB3⟩
    · have hge : ¬ (j : Int) < (l.length : Int) := by omega
      have hbl := HBL.out
      rw [List.take_of_length_le (by omega)] at hbl
      have HBL1 := Lib.hid hbl
      clear hbl
      go_wp2_with fail
      refine (BString_any w.heap.size (keyB l) wr HBL1.out).mono ?_
      rintro e w1 ⟨rfl, _, hb1, _⟩
      have HB1 := Lib.hid (HB.out.trans hb1)
      clear hb1
      go_wp2_with fail
      refine bodyPost_ret (results_tmp rfl _ _ _) rfl ?_
      exact ⟨rfl, HB1.out⟩
end Go.Proofs.YtjofjgjocgooeaaDoor

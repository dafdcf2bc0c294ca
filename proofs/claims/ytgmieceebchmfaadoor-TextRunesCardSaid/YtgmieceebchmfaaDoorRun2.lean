/- The walk of the law TextRunes. -/
import Derived.Test.YtgmieceebchmfaaDoorRun1
import Derived.Test.YtgmieceebchmfaaDoorTxtN
import Derived.Test.YtgmieceebchmfaaDoorTxtQ
import Derived.Laws.RangeAny
import Derived.Lib.OthersKept
set_option linter.unusedVariables false
namespace Go.Proofs.YtgmieceebchmfaaDoor
open Go.RowKit

set_option maxRecDepth 100000 in
set_option maxHeartbeats 8000000 in
theorem textRunes_walk (s : ByteArray) (w : World) (hs : s.size ≤ maxLen) (hm : ∃ m, w.cell? ⟨0, 0, none⟩ = some (.int .i64 m)) :
    Calls Tryd.prog 4 #[.string s] w fun e w' => e = .returned (.bool true) ∧ Below w.heap.size w w' := by
  obtain ⟨m, hm⟩ := hm
  unfold maxLen at hs
  obtain ⟨S, rfl⟩ := bytes_list s
  simp only [ByteArray.size, List.size_toArray] at hs
  have HM := Lib.hid hm
  clear hm
  go_enter Tryd.func4, Tryd.ntmps4
  go_wp2_with fail
  refine (anchor05_any m _ HM.out).mono ?_
  rintro e w1 ⟨rfl, hb1⟩
  have HB1 := Lib.hid hb1
  clear hb1 HM
  by_cases h1 : S.length ≤ 1000
  · have h1I : ¬ (1000 : Int) < (S.length : Int) := by omega
    go_wp2_with fail
    go_loopg [3] S.length (fun k y wr => ∃ (pos : Nat) (b : Bool), y = .bool b ∧ pos + k = S.length ∧ Hid (toldB S = (b && toldB (S.drop pos))) ∧ wr = w1.iter ⟨S.toArray⟩ pos)
    case atStart => exact ⟨0, true, rfl, by omega, Lib.hid (by simp), rfl⟩
    case round =>
      obtain ⟨pos, b, rfl, hk, HT, rfl⟩ := hrel
      by_cases hlt : pos < S.length
      · have hnx := fun ty => run_next_any (P := Tryd.prog) w1 ⟨S.toArray⟩ pos ty (by simpa [ByteArray.size] using hlt)
        obtain ⟨c, n, hd, hcase⟩ := decode_chr S pos hlt
        rw [hd] at hnx
        have hst := toldB_step (S.drop pos) (by simp; omega)
        have hle := chr_len (S.drop pos) (by simp; omega)
        rw [List.length_drop] at hle
        simp only at hnx
        rcases hcase with ⟨q1, rfl, rfl, q4⟩ | ⟨q1, q2, q3⟩
        · rw [if_pos q1] at hst
          have ht := HT.out
          rw [hst, Bool.and_false] at ht
          have HT2 := Lib.hid ht
          clear ht hst HT q1 hle hd
          by_cases h3 : pos + 3 ≤ S.length
          · have h3I : ¬ (S.length : Int) < (pos : Int) + 3 := by omega
            have hsl := fun w => str_mid S pos (pos + 3) (by omega) h3 (pos : Int) ((pos : Int) + 3) rfl (by omega) w
            rw [show pos + 3 - pos = 3 by omega] at hsl
            generalize (S.drop pos).take 3 = T at *
            have hb : (T == [239, 191, 189]) = false := by simpa using q4
            go_wp2_with fail
            go_roundg (gk - 1)
            case measure => omega
            case rel => exact ⟨pos + 1, false, rfl, by omega, Lib.hid (by rw [HT2.out]; rfl), rfl⟩
          · have h3I : (S.length : Int) < (pos : Int) + 3 := by omega
            go_wp2_with fail
            go_roundg (gk - 1)
            case measure => omega
            case rel => exact ⟨pos + 1, false, rfl, by omega, Lib.hid (by rw [HT2.out]; rfl), rfl⟩
        · rw [if_neg (by omega), q1] at hst
          rw [q1] at hle
          have ht := HT.out
          rw [hst, List.drop_drop] at ht
          have HT2 := Lib.hid ht
          clear ht hst HT q1 hd
          by_cases hc : c = 65533
          · subst hc
            obtain ⟨h3, h4⟩ := q3 rfl
            have h3I : ¬ (S.length : Int) < (pos : Int) + 3 := by omega
            have hsl := fun w => str_mid S pos (pos + 3) (by omega) h3 (pos : Int) ((pos : Int) + 3) rfl (by omega) w
            rw [show pos + 3 - pos = 3 by omega, h4] at hsl
            clear q3 h4
            go_wp2_with fail
            go_roundg (gk - n)
            case measure => omega
            case rel => exact ⟨pos + n, b, rfl, by omega, HT2, rfl⟩
          · have hcI : ¬ (c : Int) = 65533 := by omega
            have hcB : ((c : Int) == 65533) = false := by rw [beq_eq_false_iff_ne]; exact hcI
            clear q3
            go_wp2_with fail
            go_roundg (gk - n)
            case measure => omega
            case rel => exact ⟨pos + n, b, rfl, by omega, HT2, rfl⟩
      · have hnx := fun ty => run_next_end (P := Tryd.prog) w1 ⟨S.toArray⟩ pos ty (by simpa [ByteArray.size] using hlt)
        have ht := HT.out
        rw [List.drop_of_length_le (by omega)] at ht
        have e : toldB [] = true := rfl
        rw [e, Bool.and_true] at ht
        have HT2 := Lib.hid ht
        clear ht HT e
        go_wp2_with fail
        refine (told_any S _ (by omega)).mono ?_
        rintro e w2 ⟨rfl, hb2⟩
        rw [HT2.out]
        go_wp2_with fail
        refine bodyPost_ret (results_tmp rfl _ _ _) rfl ?_
        refine ⟨by simp, HB1.out.trans (((Below.refl _ _).alloc (Nat.le_refl _) _).trans (hb2.mono (by simp [World.iter])) |>.mono HB1.out.size)⟩
  · have h1I : (1000 : Int) < (S.length : Int) := by omega
    go_wp2_with fail
    refine bodyPost_ret (results_tmp rfl _ _ _) rfl ?_
    exact ⟨rfl, HB1.out⟩
end Go.Proofs.YtgmieceebchmfaaDoor

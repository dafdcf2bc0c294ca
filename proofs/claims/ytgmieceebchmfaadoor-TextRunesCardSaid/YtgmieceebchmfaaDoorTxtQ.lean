/- The document's Escape. -/
import Derived.Test.YtgmieceebchmfaaDoorTxtO
import Derived.Deep.QuietTactic
import Derived.BigQuiet
set_option linter.unusedVariables false
namespace Go.Proofs.YtgmieceebchmfaaDoor
open Go.RowKit

theorem str_cat (a b : List UInt8) : (⟨a.toArray⟩ : ByteArray) ++ (⟨b.toArray⟩ : ByteArray) = ⟨(a ++ b).toArray⟩ := by
  apply ByteArray.ext
  simp
theorem hex_slice_i (n : Nat) (hn : n < 16) (LO HI : Int) (hL : LO = n) (hH : HI = n + 1) (w : World) :
    (Instr.slice 9 (.string ⟨#[48, 49, 50, 51, 52, 53, 54, 55, 56, 57, 65, 66, 67, 68, 69, 70]⟩) (some (.int .i64 LO)) (some (.int .i64 HI)) none).run Tryd.prog w = .ok (.string ⟨#[hexD n]⟩) w := by
  subst hL hH
  rw [run_slice_string w 9 _ .i64 .i64 (n : Int) ((n : Int) + 1) Tryd.underlying9 (by omega) (by omega) (by simp [ByteArray.size]; omega)]
  have e := hex_fin ⟨n, hn⟩
  simp only at e
  rw [show ((n : Int)).toNat = n by omega, show ((n : Int) + 1).toNat = n + 1 by omega, e]
theorem str_mid (l : List UInt8) (i j : Nat) (hij : i ≤ j) (hj : j ≤ l.length) (I J : Int) (hI : I = i) (hJ : J = j) (w : World) :
    (Instr.slice 9 (.string ⟨l.toArray⟩) (some (.int .i64 I)) (some (.int .i64 J)) none).run Tryd.prog w = .ok (.string ⟨((l.drop i).take (j - i)).toArray⟩) w := by
  subst hI hJ
  rw [run_slice_string w 9 _ .i64 .i64 (i : Int) (j : Int) Tryd.underlying9 (by omega) (by omega) (by simp [ByteArray.size]; omega)]
  congr 2
  apply ByteArray.ext
  apply Array.ext'
  simp [ByteArray.data_extract]
theorem str_one (l : List UInt8) (i : Nat) (h : i < l.length) (w : World) :
    (Instr.slice 9 (.string ⟨l.toArray⟩) (some (.int .i64 (i : Int))) (some (.int .i64 ((i : Int) + 1))) none).run Tryd.prog w = .ok (.string ⟨#[l[i]]⟩) w := by
  rw [str_mid l i (i + 1) (by omega) (by omega) _ _ rfl (by omega) w]
  have e : (l.drop i).take (i + 1 - i) = [l[i]] := by
    rw [show i + 1 - i = 1 by omega, List.drop_eq_getElem_cons h]
    rfl
  rw [e]

set_option maxRecDepth 100000 in
set_option maxHeartbeats 8000000 in
theorem refescape_any (s : List UInt8) (w : World) (hs : s.length ≤ 1000000) :
    Calls Tryd.prog 17 #[.string ⟨s.toArray⟩] w fun e w' => e = .returned (.string ⟨(escT s).toArray⟩) ∧ Below w.heap.size w w' := by
  go_enter Tryd.func17, Tryd.ntmps17
  go_wp2_with fail
  go_loopg [3, 4] s.length (fun k out y wr => ∃ i : Nat, y = .int .i64 (i : Int) ∧ i + k = s.length ∧ out = .string ⟨(escT (s.take i)).toArray⟩ ∧ Hid (Below w.heap.size w wr))
  case atStart => exact ⟨0, rfl, by omega, rfl, Lib.hid (Below.refl _ _)⟩
  case round =>
    obtain ⟨i, rfl, hi, rfl, HB⟩ := hrel
    by_cases hlt : i < s.length
    · have hltI : (i : Int) < (s.length : Int) := by omega
      have hix := fun w => str_at s i hlt w
      have hone := fun w => str_one s i hlt w
      have htk := escT_take s i hlt
      have hel := escT_len (s.take i)
      have htl : (s.take i).length ≤ s.length := by rw [List.length_take]; omega
      generalize s[i] = c at *
      have hc256 := UInt8.toNat_lt c
      have HTK := Lib.hid htk
      clear htk
      obtain ⟨E, hE⟩ : ∃ E, escT (s.take i) = E := ⟨_, rfl⟩
      rw [hE] at hel ⊢
      have HE := Lib.hid hE
      clear hE
      go_wp2_with fail
      refine (reffree_any c wr).mono ?_
      rintro e w2 ⟨rfl, rfl⟩
      cases hf : freeB c.toNat with
      | true =>
        have heb : escB c = [c] := by unfold escB; rw [if_pos hf]
        have HEB := Lib.hid heb
        clear heb hf
        go_wp2_with fail
        go_roundg (gk - 1)
        case measure => omega
        case rel => exact ⟨i + 1, by first | rfl | (congr 1), by omega, by rw [HTK.out, HE.out, HEB.out]; exact congrArg Value.string (str_cat E [c]), HB⟩
      | false =>
        by_cases h32 : c = 32
        · subst h32
          have heb : escB 32 = [43] := by decide
          have HEB := Lib.hid heb
          clear heb hf
          go_wp2_with fail
          go_roundg (gk - 1)
          case measure => omega
          case rel => exact ⟨i + 1, by first | rfl | (congr 1), by omega, by rw [HTK.out, HE.out, HEB.out]; exact congrArg Value.string (str_cat E [43]), HB⟩
        · have h32I : ¬ ((c.toNat : Nat) : Int) = 32 := fun e => h32 (UInt8.toNat_inj.1 (by show c.toNat = 32; omega))
          have heb : escB c = [37, hexD (c.toNat / 16), hexD (c.toNat % 16)] := by unfold escB; rw [if_neg (by rw [hf]; simp), if_neg h32]
          have HEB := Lib.hid heb
          clear heb hf h32
          have hs1 := fun w => hex_slice_i (c.toNat / 16) (by omega) (((c.toNat : Nat) : Int) / 16) (((c.toNat : Nat) : Int) / 16 + 1) (by omega) (by omega) w
          have hs2 := fun w => hex_slice_i (c.toNat % 16) (by omega) (((c.toNat : Nat) : Int) % 16) (((c.toNat : Nat) : Int) % 16 + 1) (by omega) (by omega) w
          go_upto_region 10 with (fail)
          go_quiet (fail)
          go_wp2_with fail
          go_roundg (gk - 1)
          case measure => omega
          case rel => exact ⟨i + 1, by first | rfl | (congr 1), by omega, by rw [HTK.out, HE.out, HEB.out]; exact congrArg Value.string (str_cat E [37, hexD (c.toNat / 16), hexD (c.toNat % 16)]), Lib.hid (below_drewN HB.out _)⟩
    · have hltI : ¬ (i : Int) < (s.length : Int) := by omega
      have htk : s.take i = s := List.take_of_length_le (by omega)
      rw [htk]
      go_wp2_with fail
      refine bodyPost_ret (results_tmp rfl _ _ _) rfl ?_
      exact ⟨rfl, HB.out⟩
end Go.Proofs.YtgmieceebchmfaaDoor

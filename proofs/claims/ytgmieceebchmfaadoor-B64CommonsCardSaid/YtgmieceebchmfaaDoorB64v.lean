/- b64.Standard, b64.FromStandard. -/
import Derived.Test.YtgmieceebchmfaaDoorB64u
import Derived.Test.YtgmieceebchmfaaDoorB64e
import Derived.Test.YtgmieceebchmfaaDoorB64h
set_option linter.unusedVariables false
namespace Go.Proofs.YtgmieceebchmfaaDoor
open Go.RowKit

theorem cat_str (a b : List UInt8) : (⟨a.toArray⟩ : ByteArray) ++ (⟨b.toArray⟩ : ByteArray) = ⟨(a ++ b).toArray⟩ := by
  apply ByteArray.ext
  simp
theorem enc_size (l : List UInt8) (hl : l.length ≤ 100000) : (enc l).length ≤ 200000 := by
  rw [enc_len]; omega

set_option maxRecDepth 100000 in
set_option maxHeartbeats 8000000 in
theorem Standard_any (a : Option Addr) (l : List UInt8) (cp : Nat) (w : World) (hr : Rd w a l) (hl : l.length ≤ 100000) :
    Calls Tryd.prog 25 #[.slice a l.length cp] w fun e w' => e = .returned (.string ⟨(stdL l).toArray⟩) ∧ Below w.heap.size w w' := by
  have HR := Lib.hid hr
  have hel := enc_size l hl
  clear hr
  have hst : stdL l = padded ((enc l).map stdC) := rfl
  have HST := Lib.hid hst
  clear hst
  go_enter Tryd.func25, Tryd.ntmps25
  go_wp2_with fail
  refine (Encode_any a l cp w HR.out (by omega)).mono ?_
  rintro e w1 ⟨rfl, hb1⟩
  have HB1 := Lib.hid hb1
  generalize enc l = E at *
  clear hb1
  go_wp2_with fail
  refine (swap_any E 45 95 43 47 w1 (by omega)).mono ?_
  rintro e w2 ⟨rfl, hb2⟩
  have HB2 := Lib.hid (HB1.out.trans (hb2.mono HB1.out.size))
  clear hb2 HB1
  rw [show swF 45 95 43 47 = stdC from rfl]
  have hlm : (E.map stdC).length = E.length := by simp
  generalize E.map stdC = F at *
  have hFl : F.length ≤ 200000 := by omega
  clear hlm
  go_wp2_with fail
  refine (pad_any F.length w2 (by omega)).mono ?_
  rintro e w3 ⟨rfl, hb3⟩
  have HB3 := Lib.hid (HB2.out.trans (hb3.mono HB2.out.size))
  clear hb3 HB2
  have hpl : padN F.length ≤ 3 := by unfold padN; omega
  have hcat := cat_str F (List.replicate (padN F.length) 61)
  have hrl : (List.replicate (padN F.length) (61 : UInt8)).length = padN F.length := by simp
  rw [show F ++ List.replicate (padN F.length) 61 = padded F from rfl] at hcat
  generalize List.replicate (padN F.length) (61 : UInt8) = R at *
  generalize padded F = U at *
  go_wp2_with fail
  go_ret
  exact ⟨by rw [HST.out]; rfl, HB3.out⟩

/-- What FromStandard answers. -/
def FromRes (B : Nat) (l : List UInt8) (w : World) (e : Ending) (w' : World) : Prop :=
  Below B w w' ∧ ((fromL l = none ∧ e = .returned (.tuple #[.slice none 0 0, .int .i64 10])) ∨ ∃ b v, fromL l = some b ∧ b.length ≤ l.length ∧ e = .returned (.tuple #[v, .int .i64 0]) ∧ Own B w' v b)
theorem trim_len (s : List UInt8) : (Lib.trimRightB s 61).length ≤ s.length := by
  unfold Lib.trimRightB
  rw [List.length_reverse]
  refine Nat.le_trans (List.Sublist.length_le (List.dropWhile_sublist _)) (by simp)

set_option maxRecDepth 100000 in
set_option maxHeartbeats 8000000 in
theorem FromStandard_any (s : List UInt8) (w : World) (hl : s.length ≤ 100000) :
    Calls Tryd.prog 23 #[.string ⟨s.toArray⟩] w fun e w' => FromRes w.heap.size s w e w' := by
  have hfr : fromL s = if (Lib.trimRightB s 61).map stdC ≠ Lib.trimRightB s 61 ∨ padded (Lib.trimRightB s 61) ≠ s then none else dec ((Lib.trimRightB s 61).map unC) := rfl
  have htl := trim_len s
  have htr := Tryd.strings_TrimRight_one ⟨s.toArray⟩ 61 (by decide) w (by simp only [ByteArray.size, List.size_toArray]; omega)
  have e0 : (⟨s.toArray⟩ : ByteArray).data.toList = s := rfl
  rw [e0] at htr
  generalize Lib.trimRightB s 61 = T at *
  have HFR := Lib.hid hfr
  have HTR := Lib.hid htr
  clear hfr htr e0
  go_enter Tryd.func23, Tryd.ntmps23
  go_wp2_with fail
  refine HTR.out.mono ?_
  rintro e w1 ⟨rfl, rfl⟩
  clear HTR
  go_wp2_with fail
  refine (swap_any T 45 95 43 47 w1 (by omega)).mono ?_
  rintro e w2 ⟨rfl, hb2⟩
  have HB2 := Lib.hid hb2
  clear hb2
  rw [show swF 45 95 43 47 = stdC from rfl]
  by_cases h1 : T.map stdC = T
  · rw [h1]
    go_wp2_with fail
    refine (pad_any T.length w2 (by omega)).mono ?_
    rintro e w3 ⟨rfl, hb3⟩
    have HB3 := Lib.hid (HB2.out.trans (hb3.mono HB2.out.size))
    clear hb3 HB2
    have hpl : padN T.length ≤ 3 := by unfold padN; omega
    have hcat := cat_str T (List.replicate (padN T.length) 61)
    rw [show T ++ List.replicate (padN T.length) 61 = padded T from rfl] at hcat
    have hrl : (List.replicate (padN T.length) (61 : UInt8)).length = padN T.length := by simp
    generalize List.replicate (padN T.length) (61 : UInt8) = R at *
    by_cases h2 : padded T = s
    · rw [h2] at hcat
      have hf := HFR.out
      rw [if_neg (by simp [h1, h2])] at hf
      have HF := Lib.hid hf
      clear hf HFR h1 h2
      go_wp2_with fail
      refine (swap_any T 43 47 45 95 w3 (by omega)).mono ?_
      rintro e w4 ⟨rfl, hb4⟩
      have HB4 := Lib.hid (HB3.out.trans (hb4.mono HB3.out.size))
      clear hb4 HB3
      rw [show swF 43 47 45 95 = unC from rfl]
      have hml : (T.map unC).length = T.length := by simp
      generalize T.map unC = V at *
      go_wp2_with fail
      refine (Decode_any ⟨V.toArray⟩ w4 (by simp only [ByteArray.size, List.size_toArray]; omega)).mono ?_
      rintro e w5 ⟨hb5, hres⟩
      have HB5 := Lib.hid (HB4.out.trans (hb5.mono HB4.out.size))
      have hsz4 := HB4.out.size
      rw [show (⟨V.toArray⟩ : ByteArray).data.toList = V from rfl] at hres
      rcases hres with ⟨hd, rfl⟩ | ⟨b, v, hd, hbl, rfl, hown⟩
      · have hn : fromL s = none := by rw [HF.out, hd]
        have HN := Lib.hid hn
        clear hn HF HB4 hb5 hd
        go_wp2_with fail
        go_ret2
        exact ⟨HB5.out, .inl ⟨HN.out, rfl⟩⟩
      · have hn : fromL s = some b := by rw [HF.out, hd]
        have HN := Lib.hid hn
        have HO := Lib.hid hown
        clear hn HF HB4 hb5 hd hown
        go_wp2_with fail
        go_ret2
        exact ⟨HB5.out, .inr ⟨b, _, HN.out, by omega, rfl, HO.out.mono hsz4⟩⟩
    · have hn : fromL s = none := by rw [HFR.out, if_pos (.inr h2)]
      have HN := Lib.hid hn
      clear hn HFR h1
      generalize padded T = U at *
      have hb : (U == s) = false := by simpa using h2
      go_wp2_with fail
      go_ret2
      exact ⟨HB3.out, .inl ⟨HN.out, rfl⟩⟩
  · have hn : fromL s = none := by rw [HFR.out, if_pos (.inl h1)]
    have HN := Lib.hid hn
    clear hn HFR
    generalize T.map stdC = U at *
    have hb : (U == T) = false := by simpa using h1
    go_wp2_with fail
    go_ret2
    exact ⟨HB2.out, .inl ⟨HN.out, rfl⟩⟩
end Go.Proofs.YtgmieceebchmfaaDoor

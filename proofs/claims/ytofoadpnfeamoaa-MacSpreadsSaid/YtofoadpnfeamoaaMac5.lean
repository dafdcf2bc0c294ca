/- Package klaxonref02: pad, Code. -/
import Derived.Test.YtofoadpnfeamoaaMac3
set_option linter.unusedVariables false
namespace Go.Proofs.Ytofoadpnfeamoaa
open Go.RowKit

theorem heap_new_at (w : World) (o : Obj) (h : w.heap.size < (w.alloc o).heap.size) : (w.alloc o).heap[w.heap.size] = o := by
  have h1 := heap_alloc_new w o
  rw [Array.getElem?_eq_getElem h] at h1
  simpa using h1

set_option maxRecDepth 100000 in
set_option maxHeartbeats 4000000 in
theorem rpad_any (a : Option Addr) (c : Nat) (l : List UInt8) (n : Nat) (xb : UInt8) (X : Int) (w : World) (hr : Rd w a l) (hn : n = l.length) (hX : X = (xb.toNat : Nat)) (hlen : l.length ≤ 900000) :
    Calls Try.prog 52 #[.slice a n c, .int .u8 X] w fun e w' => ∃ v', e = .returned v' ∧ Tl w.heap.size w' v' (padF l xb) ∧ Below w.heap.size w w' := by
  subst hn hX
  have HR := Lib.hid hr
  clear hr
  go_enter Try.func52, Try.ntmps52
  by_cases h64 : l.length ≤ 64
  · have h64I : (l.length : Int) ≤ 64 := by omega
    have HPF : Hid (padF l xb = (padK l).map (· ^^^ xb)) := Lib.hid (by unfold padF keyF; rw [if_neg (by omega)])
    have HK : Hid (Rd w a l) := HR
    have HKL : Hid (l.length = l.length) := Lib.hid rfl
    have HK64 : Hid (l.length ≤ 64) := Lib.hid h64
    have HW2 : Hid (Below w.heap.size w w) := Lib.hid (Below.refl _ _)
    go_upto_region 4 with (fail)
    go_wp2_with fail
    go_loopg [6, 5] 64 (fun k y x wr => ∃ j q co : Nat, ∃ ao : Option Addr, y = .int .i64 j ∧ x = .slice ao q co ∧ j + k = 64 ∧ Hid (Tl w.heap.size wr (.slice ao q co) ((padF l xb).take j)) ∧ Hid (Below w.heap.size w wr))
    case atStart => exact ⟨0, 0, 0, none, rfl, rfl, rfl, Lib.hid (Tl.nil _ _), Lib.hid (Below.refl _ _)⟩
    case round =>
      obtain ⟨j, q, co, ao, rfl, rfl, hj, HT, HBK⟩ := hrel
      by_cases hlt : j < 64
      · have hpl := padF_len l xb
        have hpk : (padK l).length = 64 := padK_len l (by have := HK64.out; first | omega | (have := HKL.out; omega))
        have htk : (padF l xb).take (j + 1) = (padF l xb).take j ++ [(padF l xb)[j]] := by rw [List.take_add_one, List.getElem?_eq_getElem (by omega)]; rfl
        have hat : (padF l xb)[j]? = ((padK l)[j]?).map (· ^^^ xb) := by rw [HPF.out, List.getElem?_map]
        rw [List.getElem?_eq_getElem (by omega)] at hat
        have htl : ((padF l xb).take j).length ≤ 64 := by simp; omega
        have HTLL := Lib.hid htl
        have j0 : 0 ≤ (j : Int) := by omega
        have jn : ((j : Int)).toNat = j := by omega
        have jlt : (j : Int) < 64 := by omega
        obtain ⟨pb, hpb⟩ : ∃ x, (padF l xb)[j] = x := ⟨_, rfl⟩
        rw [hpb] at htk hat
        have HTK := Lib.hid htk
        by_cases hjk : j < l.length
        · obtain ⟨bk, ok, hak, hck⟩ := (HK.out.below HBK.out).at hjk
          have hcell := hck j hjk
          have hpb2 : pb = l[j] ^^^ xb := by
            unfold padK at hat
            rw [List.getElem?_append_left hjk, List.getElem?_eq_getElem hjk] at hat
            simpa using hat
          have hxo : bits .xor .u8 ((xb.toNat : Nat) : Int) (((l[j]).toNat : Nat) : Int) = ((pb.toNat : Nat) : Int) := by
            rw [u8_xor_nat _ _ xb.toNat_lt (l[j]).toNat_lt, hpb2, UInt8.toNat_xor, Nat.xor_comm]
          have jkI : (j : Int) < ((l.length : Nat) : Int) := by have := HKL.out; omega
          obtain ⟨n1, hn1⟩ : ∃ x, (l[j]).toNat = x := ⟨_, rfl⟩
          rw [hn1] at hcell hxo
          subst hak
          clear hat hn1 hpb hpb2 htk htl hck hpl hpk hjk
          go_wp2_with (at_builtin; go_loud (refine wpList_append_tl rfl (.tmp 28) (.tmp 30) rfl w.heap.size _ _ rfl (HT.out.alloc _) (some ⟨wr.heap.size, 0, none⟩) [pb] 1 1 rfl rfl (Rd.of_lit (T := 5) (fr := (0, 0)) [pb] ?c0) ?c1 ?c2 ?_))
          case c0 => first | (rw [heap_alloc_new]; rfl) | (simp only [Lib.byteCells, List.map_cons, List.map_nil]; exact heap_new_at _ _ _)
          case c1 => have := HTLL.out; first | omega | (simp only [List.length_singleton]; omega)
          case c2 => have := HBK.out.size; first | omega | (simp; omega)
          intro a4 n4 c4 w4 hn4 ht4 hg4 how4
          have hb5 : Below w.heap.size w w4 := below_grow_tl (HBK.out.alloc HBK.out.size (.cells #[.int .u8 (pb.toNat : Int)] 5)) (HT.out.alloc _) hg4 (by have := HBK.out.size; simp; omega)
          have ht5 : Tl w.heap.size w4 (.slice a4 n4 c4) ((padF l xb).take (j + 1)) := by rw [HTK.out]; exact ht4
          have HT5 := Lib.hid ht5
          have HB5 := Lib.hid hb5
          clear hn4 ht4 hg4 how4 hb5 ht5
          go_wp2_with fail
          go_roundg (gk - 1)
          case measure => omega
          case rel => exact ⟨j + 1, n4, c4, a4, by go_num, rfl, by omega, HT5, HB5⟩
        · have hpb2 : pb = xb := by
            unfold padK at hat
            rw [List.getElem?_append_right (by omega), List.getElem?_replicate, if_pos (by omega)] at hat
            simpa using hat
          have jkI : ¬ (j : Int) < ((l.length : Nat) : Int) := by have := HKL.out; omega
          have htk2 := HTK.out
          rw [hpb2] at htk2
          have HTK := Lib.hid htk2
          clear hat hpb htk htk2 htl hpl hpk hjk hpb2
          go_wp2_with (at_builtin; go_loud (refine wpList_append_tl rfl (.tmp 28) (.tmp 30) rfl w.heap.size _ _ rfl (HT.out.alloc _) (some ⟨wr.heap.size, 0, none⟩) [xb] 1 1 rfl rfl (Rd.of_lit (T := 5) (fr := (0, 0)) [xb] ?c0) ?c1 ?c2 ?_))
          case c0 => first | (rw [heap_alloc_new]; rfl) | (simp only [Lib.byteCells, List.map_cons, List.map_nil]; exact heap_new_at _ _ _)
          case c1 => have := HTLL.out; first | omega | (simp only [List.length_singleton]; omega)
          case c2 => have := HBK.out.size; first | omega | (simp; omega)
          intro a4 n4 c4 w4 hn4 ht4 hg4 how4
          have hb5 : Below w.heap.size w w4 := below_grow_tl (HBK.out.alloc HBK.out.size (.cells #[.int .u8 (xb.toNat : Int)] 5)) (HT.out.alloc _) hg4 (by have := HBK.out.size; simp; omega)
          have ht5 : Tl w.heap.size w4 (.slice a4 n4 c4) ((padF l xb).take (j + 1)) := by rw [HTK.out]; exact ht4
          have HT5 := Lib.hid ht5
          have HB5 := Lib.hid hb5
          clear hn4 ht4 hg4 how4 hb5 ht5
          go_wp2_with fail
          go_roundg (gk - 1)
          case measure => omega
          case rel => exact ⟨j + 1, n4, c4, a4, by go_num, rfl, by omega, HT5, HB5⟩
      · obtain rfl : j = 64 := by omega
        have ht := HT.out
        rw [List.take_of_length_le (by rw [padF_len]; exact Nat.le_refl _)] at ht
        have htw := ht.mono HW2.out.size
        have hbw := HW2.out.trans (HBK.out.mono HW2.out.size)
        have HTW := Lib.hid htw
        have HBW := Lib.hid hbw
        clear ht htw hbw HT HBK
        go_wp2_with fail
        go_ret
        exact ⟨_, rfl, HTW.out, HBW.out⟩
  · have h64I : (64 : Int) < (l.length : Int) := by omega
    have hkf : padF l xb = (padK (sha l)).map (· ^^^ xb) := by unfold padF keyF; rw [if_pos (by omega)]
    have HPF := Lib.hid hkf
    have HSM := Lib.hid (sum_ref l a l.length c w HR.out rfl hlen)
    clear hkf
    go_wp2_with fail
    refine HSM.out.mono ?_
    rintro e w2 ⟨v2, rfl, ht2, hb2⟩
    obtain ⟨ak, ck, rfl, hrk, _⟩ := ht2.shape
    rw [sha_len]
    have HK := Lib.hid hrk
    have HKL : Hid ((sha l).length = 32) := Lib.hid (sha_len l)
    have HK64 : Hid (32 ≤ 64) := Lib.hid (by decide)
    have HW2 := Lib.hid hb2
    clear ht2 hb2 hrk HSM
    go_upto_region 4 with (fail)
    go_wp2_with fail
    go_loopg [6, 5] 64 (fun k y x wr => ∃ j q co : Nat, ∃ ao : Option Addr, y = .int .i64 j ∧ x = .slice ao q co ∧ j + k = 64 ∧ Hid (Tl w2.heap.size wr (.slice ao q co) ((padF l xb).take j)) ∧ Hid (Below w2.heap.size w2 wr))
    case atStart => exact ⟨0, 0, 0, none, rfl, rfl, rfl, Lib.hid (Tl.nil _ _), Lib.hid (Below.refl _ _)⟩
    case round =>
      obtain ⟨j, q, co, ao, rfl, rfl, hj, HT, HBK⟩ := hrel
      by_cases hlt : j < 64
      · have hpl := padF_len l xb
        have hpk : (padK (sha l)).length = 64 := padK_len (sha l) (by have := HK64.out; first | omega | (have := HKL.out; omega))
        have htk : (padF l xb).take (j + 1) = (padF l xb).take j ++ [(padF l xb)[j]] := by rw [List.take_add_one, List.getElem?_eq_getElem (by omega)]; rfl
        have hat : (padF l xb)[j]? = ((padK (sha l))[j]?).map (· ^^^ xb) := by rw [HPF.out, List.getElem?_map]
        rw [List.getElem?_eq_getElem (by omega)] at hat
        have htl : ((padF l xb).take j).length ≤ 64 := by simp; omega
        have HTLL := Lib.hid htl
        have j0 : 0 ≤ (j : Int) := by omega
        have jn : ((j : Int)).toNat = j := by omega
        have jlt : (j : Int) < 64 := by omega
        obtain ⟨pb, hpb⟩ : ∃ x, (padF l xb)[j] = x := ⟨_, rfl⟩
        rw [hpb] at htk hat
        have HTK := Lib.hid htk
        by_cases hjk : j < (sha l).length
        · obtain ⟨bk, ok, hak, hck⟩ := (HK.out.below HBK.out).at hjk
          have hcell := hck j hjk
          have hpb2 : pb = (sha l)[j] ^^^ xb := by
            unfold padK at hat
            rw [List.getElem?_append_left hjk, List.getElem?_eq_getElem hjk] at hat
            simpa using hat
          have hxo : bits .xor .u8 ((xb.toNat : Nat) : Int) ((((sha l)[j]).toNat : Nat) : Int) = ((pb.toNat : Nat) : Int) := by
            rw [u8_xor_nat _ _ xb.toNat_lt ((sha l)[j]).toNat_lt, hpb2, UInt8.toNat_xor, Nat.xor_comm]
          have jkI : (j : Int) < ((32 : Nat) : Int) := by have := HKL.out; omega
          obtain ⟨n1, hn1⟩ : ∃ x, ((sha l)[j]).toNat = x := ⟨_, rfl⟩
          rw [hn1] at hcell hxo
          subst hak
          clear hat hn1 hpb hpb2 htk htl hck hpl hpk hjk
          go_wp2_with (at_builtin; go_loud (refine wpList_append_tl rfl (.tmp 28) (.tmp 30) rfl w2.heap.size _ _ rfl (HT.out.alloc _) (some ⟨wr.heap.size, 0, none⟩) [pb] 1 1 rfl rfl (Rd.of_lit (T := 5) (fr := (0, 0)) [pb] ?c0) ?c1 ?c2 ?_))
          case c0 => first | (rw [heap_alloc_new]; rfl) | (simp only [Lib.byteCells, List.map_cons, List.map_nil]; exact heap_new_at _ _ _)
          case c1 => have := HTLL.out; first | omega | (simp only [List.length_singleton]; omega)
          case c2 => have := HBK.out.size; first | omega | (simp; omega)
          intro a4 n4 c4 w4 hn4 ht4 hg4 how4
          have hb5 : Below w2.heap.size w2 w4 := below_grow_tl (HBK.out.alloc HBK.out.size (.cells #[.int .u8 (pb.toNat : Int)] 5)) (HT.out.alloc _) hg4 (by have := HBK.out.size; simp; omega)
          have ht5 : Tl w2.heap.size w4 (.slice a4 n4 c4) ((padF l xb).take (j + 1)) := by rw [HTK.out]; exact ht4
          have HT5 := Lib.hid ht5
          have HB5 := Lib.hid hb5
          clear hn4 ht4 hg4 how4 hb5 ht5
          go_wp2_with fail
          go_roundg (gk - 1)
          case measure => omega
          case rel => exact ⟨j + 1, n4, c4, a4, by go_num, rfl, by omega, HT5, HB5⟩
        · have hpb2 : pb = xb := by
            unfold padK at hat
            rw [List.getElem?_append_right (by omega), List.getElem?_replicate, if_pos (by omega)] at hat
            simpa using hat
          have jkI : ¬ (j : Int) < ((32 : Nat) : Int) := by have := HKL.out; omega
          have htk2 := HTK.out
          rw [hpb2] at htk2
          have HTK := Lib.hid htk2
          clear hat hpb htk htk2 htl hpl hpk hjk hpb2
          go_wp2_with (at_builtin; go_loud (refine wpList_append_tl rfl (.tmp 28) (.tmp 30) rfl w2.heap.size _ _ rfl (HT.out.alloc _) (some ⟨wr.heap.size, 0, none⟩) [xb] 1 1 rfl rfl (Rd.of_lit (T := 5) (fr := (0, 0)) [xb] ?c0) ?c1 ?c2 ?_))
          case c0 => first | (rw [heap_alloc_new]; rfl) | (simp only [Lib.byteCells, List.map_cons, List.map_nil]; exact heap_new_at _ _ _)
          case c1 => have := HTLL.out; first | omega | (simp only [List.length_singleton]; omega)
          case c2 => have := HBK.out.size; first | omega | (simp; omega)
          intro a4 n4 c4 w4 hn4 ht4 hg4 how4
          have hb5 : Below w2.heap.size w2 w4 := below_grow_tl (HBK.out.alloc HBK.out.size (.cells #[.int .u8 (xb.toNat : Int)] 5)) (HT.out.alloc _) hg4 (by have := HBK.out.size; simp; omega)
          have ht5 : Tl w2.heap.size w4 (.slice a4 n4 c4) ((padF l xb).take (j + 1)) := by rw [HTK.out]; exact ht4
          have HT5 := Lib.hid ht5
          have HB5 := Lib.hid hb5
          clear hn4 ht4 hg4 how4 hb5 ht5
          go_wp2_with fail
          go_roundg (gk - 1)
          case measure => omega
          case rel => exact ⟨j + 1, n4, c4, a4, by go_num, rfl, by omega, HT5, HB5⟩
      · obtain rfl : j = 64 := by omega
        have ht := HT.out
        rw [List.take_of_length_le (by rw [padF_len]; exact Nat.le_refl _)] at ht
        have htw := ht.mono HW2.out.size
        have hbw := HW2.out.trans (HBK.out.mono HW2.out.size)
        have HTW := Lib.hid htw
        have HBW := Lib.hid hbw
        clear ht htw hbw HT HBK
        go_wp2_with fail
        go_ret
        exact ⟨_, rfl, HTW.out, HBW.out⟩

set_option maxRecDepth 100000 in
set_option maxHeartbeats 4000000 in
theorem rcode_any (ak : Option Addr) (ck nk : Nat) (key m : List UInt8) (am : Option Addr) (n c : Nat) (w : World) (hk : Rd w ak key) (hnk : nk = key.length) (hr : Rd w am m) (hn : n = m.length) (hkl : key.length ≤ 800000) (hlen : m.length ≤ 800000) :
    Calls Try.prog 33 #[.slice ak nk ck, .slice am n c] w fun e w' => ∃ v', e = .returned v' ∧ Tl w.heap.size w' v' (mac key m) ∧ Below w.heap.size w w' := by
  subst hn hnk
  have HR := Lib.hid hr
  have HKY := Lib.hid hk
  clear hr hk
  go_enter Try.func33, Try.ntmps33
  go_wp2_with fail
  refine (rpad_any ak ck key key.length 0x36 54 w HKY.out rfl rfl (by omega)).mono ?_
  rintro e w1 ⟨v1, rfl, ht1, hb1⟩
  obtain ⟨a1, c1, rfl, hr1, _⟩ := ht1.shape
  obtain ⟨P, hP⟩ : ∃ P, padF key 0x36 = P := ⟨_, rfl⟩
  have hPl : P.length = 64 := by rw [← hP]; exact padF_len _ _
  rw [hP] at ht1 hr1 ⊢
  have HT1 := Lib.hid ht1
  have HB1 := Lib.hid hb1
  have HPP := Lib.hid hP
  have HPL := Lib.hid hPl
  clear ht1 hb1 hr1 hP hPl
  go_wp2_with (at_builtin; go_loud (refine wpList_append_tl rfl (.tmp 7) (.tmp 8) rfl w.heap.size _ P rfl HT1.out am m m.length c rfl rfl (HR.out.below HB1.out) ?c1 ?c2 ?_))
  case c1 => have := HPL.out; omega
  case c2 => exact HB1.out.size
  intro a2 n2 c2 w2 hn2 ht2 hg2 how2
  have hb2 : Below w.heap.size w w2 := below_grow_tl HB1.out HT1.out hg2 HB1.out.size
  obtain ⟨a', c', hsh, hr2, _⟩ := ht2.shape
  simp at hsh
  obtain ⟨rfl, rfl, rfl⟩ := hsh
  have hsm := sum_ref (P ++ m) a2 (P ++ m).length c2 w2 hr2 rfl (by rw [List.length_append]; have := HPL.out; omega)
  rw [List.length_append] at hsm
  have HSM := Lib.hid hsm
  have HB2 := Lib.hid hb2
  clear hn2 ht2 hg2 how2 hb2 hr2 hsm HT1 HB1
  go_wp2_with fail
  refine HSM.out.mono ?_
  rintro e w3 ⟨v3, rfl, ht3, hb3⟩
  obtain ⟨a3, c3, rfl, hr3, _⟩ := ht3.shape
  have hb3w := HB2.out.trans (hb3.mono HB2.out.size)
  obtain ⟨I, hI⟩ : ∃ I, sha (P ++ m) = I := ⟨_, rfl⟩
  have hIl : I.length = 32 := by rw [← hI]; exact sha_len _
  rw [hI] at hr3 ⊢
  have HR3 := Lib.hid hr3
  have HB3 := Lib.hid hb3w
  have HII := Lib.hid hI
  have HIL := Lib.hid hIl
  clear ht3 hb3 hb3w hr3 hI hIl HSM HB2
  go_wp2_with fail
  refine (rpad_any ak ck key key.length 0x5c 92 w3 (HKY.out.below HB3.out) rfl rfl (by omega)).mono ?_
  rintro e w4 ⟨v4, rfl, ht4, hb4⟩
  obtain ⟨a4, c4, rfl, hr4, _⟩ := ht4.shape
  have hb4w := HB3.out.trans (hb4.mono HB3.out.size)
  have hr34 := HR3.out.below hb4
  have ht4w := ht4.mono HB3.out.size
  obtain ⟨O, hO⟩ : ∃ O, padF key 0x5c = O := ⟨_, rfl⟩
  have hOl : O.length = 64 := by rw [← hO]; exact padF_len _ _
  rw [hO] at ht4w ⊢
  have HT4 := Lib.hid ht4w
  have HB4 := Lib.hid hb4w
  have HR4 := Lib.hid hr34
  have HOO := Lib.hid hO
  have HOL := Lib.hid hOl
  clear ht4 hb4 hr4 hb4w hr34 ht4w hO hOl HR3 HB3
  go_wp2_with (at_builtin; go_loud (refine wpList_append_tl rfl (.tmp 12) (.tmp 13) rfl w.heap.size _ O rfl HT4.out a3 I I.length c3 rfl rfl HR4.out ?c1 ?c2 ?_))
  case c1 => have := HOL.out; have := HIL.out; omega
  case c2 => exact HB4.out.size
  intro a5 n5 c5 w5 hn5 ht5 hg5 how5
  have hb5 : Below w.heap.size w w5 := below_grow_tl HB4.out HT4.out hg5 HB4.out.size
  obtain ⟨a', c', hsh, hr5, _⟩ := ht5.shape
  simp at hsh
  obtain ⟨rfl, rfl, rfl⟩ := hsh
  have hsm := sum_ref (O ++ I) a5 (O ++ I).length c5 w5 hr5 rfl (by rw [List.length_append]; have := HOL.out; have := HIL.out; omega)
  rw [List.length_append] at hsm
  have HSM := Lib.hid hsm
  have HB5 := Lib.hid hb5
  clear hn5 ht5 hg5 how5 hb5 hr5 hsm HT4 HB4 HR4
  go_wp2_with fail
  refine HSM.out.mono ?_
  rintro e w6 ⟨v6, rfl, ht6, hb6⟩
  have hmac : sha (O ++ I) = mac key m := by
    unfold mac
    rw [HOO.out, HPP.out, HII.out]
  rw [hmac] at ht6
  have hb7 := HB5.out.trans (hb6.mono HB5.out.size)
  have ht7 := ht6.mono HB5.out.size
  obtain ⟨a7, c7, rfl, _⟩ := ht7.shape
  have HT7 := Lib.hid ht7
  have HB7 := Lib.hid hb7
  rw [mac_len] at HT7 ⊢
  clear ht6 hb6 hb7 ht7 hmac HSM
  go_wp2_with fail
  go_ret
  exact ⟨_, rfl, HT7.out, HB7.out⟩
theorem ent_rcode : ∀ args w, (callFunc 33 args).run Try.prog w = .ok (.enter 33 args) w := run_enters Try.func33 (by kernel_rfl) rfl
theorem grow_rcode {Q : Exit → Act → World → Prop} {o : Oper} {a : Act} {w : World} {x y : Operand} {ts : Array TypeId} {key m : List UInt8} (ho : o.op = .call { callee := .value (.func 33), args := #[x, y], argTypes := ts }) (hx : VBytes key (a.eval x) w) (hy : VBytes m (a.eval y) w) (hk : key.length ≤ 800000) (hlen : m.length ≤ 800000) :
    o.wp Try.prog a w (Grew o.dst (VBytes (mac key m)) a w) Q := by
  obtain ⟨ak, ck, e1, h1⟩ := hx
  obtain ⟨ap, cp, e2, h2⟩ := hy
  refine grow_call ent_rcode ho ?_
  simp only [List.map_toArray, List.map_cons, List.map_nil, e1, e2]
  refine (rcode_any ak ck _ key m ap _ cp w h1 rfl h2 rfl hk hlen).mono ?_
  rintro e w' ⟨v', rfl, ht, hb⟩
  obtain ⟨a', c', h1, h2, _⟩ := ht.shape
  exact ⟨v', rfl, ⟨a', c', h1, h2⟩, hb⟩
end Go.Proofs.Ytofoadpnfeamoaa

/- mac.Code; the anchor of klaxonlaw02. -/
import Derived.Test.YtofoadpnfeamoaaMac1
import Derived.Test.YtofoadpnfeamoaaShaH
set_option linter.unusedVariables false
namespace Go.Proofs.Ytofoadpnfeamoaa
open Go.RowKit

/-- The code of a message under a key. -/
def mac (k m : List UInt8) : List UInt8 := sha (padF k 0x5c ++ sha (padF k 0x36 ++ m))
theorem mac_len (k m : List UInt8) : (mac k m).length = 32 := sha_len _
/-- Two parts. -/
theorem RdS.two {w : World} {a b : Option Addr} {l m : List UInt8} {c d : Nat} (h : Rd w a l) (k : Rd w b m) (T : TypeId) : RdS (w.alloc (.cells #[.slice a l.length c, .slice b m.length d] T)) (some ⟨w.heap.size, 0, none⟩) [l, m] := by
  refine .inr ⟨w.heap.size, 0, rfl, fun i hi => ?_⟩
  match i, hi with
  | 0, _ => exact ⟨a, c, by rw [Lib.cell_of_heap (heap_alloc_new w _)]; rfl, h.alloc _⟩
  | 1, _ => exact ⟨b, d, by rw [Lib.cell_of_heap (heap_alloc_new w _)]; rfl, k.alloc _⟩
  | n + 2, h => exact absurd h (by simp)

set_option maxRecDepth 100000 in
set_option maxHeartbeats 4000000 in
theorem code_any (ak : Option Addr) (ck nk : Nat) (key : List UInt8) (ps : List (List UInt8)) (ap : Option Addr) (n c : Nat) (w : World) (hk : Rd w ak key) (hnk : nk = key.length) (hr : RdS w ap ps) (hn : n = ps.length) (hkl : key.length ≤ 800000) (hps : ps.length ≤ 1000000) (hlen : ps.flatten.length ≤ 800000) :
    Calls Try.prog 32 #[.slice ak nk ck, .slice ap n c] w fun e w' => ∃ v', e = .returned v' ∧ Tl w.heap.size w' v' (mac key ps.flatten) ∧ Below w.heap.size w w' := by
  subst hn hnk
  have HR := Lib.hid hr
  have HKY := Lib.hid hk
  clear hr hk
  go_enter Try.func32, Try.ntmps32
  go_wp2_with fail
  refine (new_any w).mono ?_
  rintro e w1 ⟨rfl, rfl⟩
  have hm := new_hm w.heap.size w (Nat.le_refl _)
  have hb1 : Below w.heap.size w (w.alloc (.cells (hCells iv (.slice none 0 0) 0) 74)) := (Below.refl _ _).alloc (Nat.le_refl _) _
  have hsz : w.heap.size < (w.alloc (.cells (hCells iv (.slice none 0 0) 0) 74)).heap.size := by simp
  obtain ⟨w1, hw1⟩ : ∃ w1, w.alloc (.cells (hCells iv (.slice none 0 0) 0) 74) = w1 := ⟨_, rfl⟩
  rw [hw1] at hm hb1 hsz ⊢
  have HM1 := Lib.hid hm
  have HB1 := Lib.hid hb1
  have HSZ := Lib.hid hsz
  clear hw1 hm hb1 hsz
  go_wp2_with fail
  refine (pad_any ak ck key key.length 0x36 54 w1 (HKY.out.below HB1.out) rfl rfl (by omega)).mono ?_
  rintro e w2 ⟨gp, rfl, htp, hbp⟩
  have hm2 := HAt.below HM1.out hbp
  have hb2 := HB1.out.trans (hbp.mono HB1.out.size)
  have hgp := htp.lt gp rfl
  have hrp : Rd w2 (some ⟨gp, 0, none⟩) (padF key 0x36) := by
    obtain ⟨a', c', h, hr, _⟩ := htp.shape
    simp at h
    rw [h.1]
    exact hr
  have hW := write_any w.heap.size w.heap.size (.slice none 0 0) [] (padF key 0x36) (some ⟨gp, 0, none⟩) 64 64 w2 hm2 hb2.size hrp (padF_len _ _).symm (fun hne b off s e => by
    simp at e
    have := HSZ.out
    omega) (by rw [padF_len]; simp)
  rw [List.nil_append] at hW
  have HW := Lib.hid hW
  have HB2 := Lib.hid hb2
  clear hW hb2 hgp hrp hm2 htp hbp HM1
  go_wp2_with fail
  refine HW.out.mono ?_
  rintro e w3 ⟨rfl, v3, hm3, hk3, _⟩
  have hb3 : Below w.heap.size w w3 := HB2.out.trans (hk3.below w.heap.size HB2.out.size (fun k hk h => by
    rcases h with h | h
    · omega
    · cases h))
  obtain ⟨P, hP⟩ : ∃ P, padF key 0x36 = P := ⟨_, rfl⟩
  have hPl : P.length = 64 := by rw [← hP]; exact padF_len _ _
  rw [hP] at hm3
  have HM3 := Lib.hid hm3
  have HB3 := Lib.hid hb3
  have HPP := Lib.hid hP
  have HPL := Lib.hid hPl
  clear hm3 hk3 hb3 HW hP hPl HB1 HB2
  go_wp2_with fail
  go_loopg [15] ps.length (fun k y wr => ∃ j : Nat, ∃ v : Value, y = .int .i64 j ∧ j + k = ps.length ∧ Hid (HM w.heap.size wr w.heap.size v (P ++ (ps.take j).flatten)) ∧ Hid (Below w.heap.size w wr))
  case atStart => exact ⟨0, v3, rfl, by omega, by simpa using HM3, HB3⟩
  case round =>
    clear HM3 HB3
    obtain ⟨j, v, rfl, hj, HX, HB⟩ := hrel
    by_cases hlt : j < ps.length
    · obtain ⟨b, off, hap, hc⟩ : ∃ b off, ap = some ⟨b, off, none⟩ ∧ ∀ i (h : i < ps.length), ∃ x c, w.cell? ⟨b, off + i, none⟩ = some (.slice x (ps[i]).length c) ∧ Rd w x ps[i] := by
        rcases HR.out with h | h
        · rw [h] at hlt; simp at hlt
        · exact h
      obtain ⟨x, cx, hcell, hrd⟩ := hc j hlt
      obtain ⟨l, hl⟩ : ∃ l, ps[j] = l := ⟨_, rfl⟩
      rw [hl] at hcell hrd
      have hcell' := cell_now HB.out hcell
      have htake : (ps.take (j + 1)).flatten = (ps.take j).flatten ++ l := by
        rw [List.take_add_one, List.getElem?_eq_getElem hlt, hl]
        simp
      have hfl := flatten_le ps (j + 1)
      rw [htake, List.length_append] at hfl
      have hpl := HPL.out
      have hw := write_any w.heap.size w.heap.size v (P ++ (ps.take j).flatten) l x l.length cx wr HX.out HB.out.size (hrd.below HB.out) rfl (fun hne b off s e => by
        subst e
        have := hrd.lt hne
        omega) (by rw [List.length_append]; omega)
      rw [List.append_assoc, ← htake] at hw
      have HW := Lib.hid hw
      have hjI : (j : Int) < (ps.length : Int) := by omega
      have hjn : ((j : Int)).toNat = j := by omega
      have hj0 : 0 ≤ (j : Int) := by omega
      subst hap
      clear hc hcell hrd hl hw htake hfl hpl
      go_wp2_with fail
      refine HW.out.mono ?_
      rintro e w2 ⟨rfl, v', hm2, hk2, _⟩
      have hb2 : Below w.heap.size w w2 := HB.out.trans (hk2.below w.heap.size HB.out.size (fun k hk h => by
        rcases h with h | h
        · omega
        · have := (HX.out.tl.lt k h).1
          omega))
      have HM2 := Lib.hid hm2
      have HB2 := Lib.hid hb2
      clear hm2 hk2 hb2 hcell'
      go_wp2_with fail
      go_roundg (gk - 1)
      case measure => omega
      case rel => exact ⟨j + 1, v', by go_num, by omega, HM2, HB2⟩
    · obtain rfl : j = ps.length := by omega
      have hm := HX.out
      rw [List.take_length] at hm
      have hpl := HPL.out
      obtain ⟨M, hM⟩ : ∃ M, ps.flatten = M := ⟨_, rfl⟩
      rw [hM] at hm hlen
      have HM2 := Lib.hid hm
      have HMM := Lib.hid hM
      clear hm hM HX
      go_wp2_with fail
      refine (pad_any ak ck key key.length 0x5c 92 wr (HKY.out.below HB.out) rfl rfl (by omega)).mono ?_
      rintro e w4 ⟨gp, rfl, htp, hbp⟩
      have HM4 := Lib.hid (HAt.below HM2.out hbp)
      have HB4 := Lib.hid (HB.out.trans (hbp.mono HB.out.size))
      have HTP := Lib.hid htp
      clear htp hbp HM2 HB
      go_wp2_with fail
      refine (hsum_any w.heap.size w.heap.size v (P ++ M) w4 HM4.out (by rw [List.length_append]; omega)).mono ?_
      rintro e w5 ⟨v5, rfl, ht5, hb5⟩
      have hr5 : Rd w5 (some ⟨gp, 0, none⟩) (padF key 0x5c) := by
        obtain ⟨a', c', h, hr, _⟩ := (HTP.out.keep (w' := w5) fun k hk => hb5.block k (HTP.out.lt k hk).2).shape
        simp at h
        rw [h.1]
        exact hr
      obtain ⟨a6, c6, rfl, hr6, _⟩ := ht5.shape
      have hb6 := HB4.out.trans (hb5.mono HB4.out.size)
      have hrs := RdS.two (c := 64) (d := c6) hr5 hr6 22
      rw [padF_len, sha_len] at hrs
      have hb7 := hb6.alloc hb6.size (.cells #[.slice (some ⟨gp, 0, none⟩) 64 64, .slice a6 32 c6] 22)
      have hsm := sum_any [padF key 0x5c, sha (P ++ M)] (some ⟨w5.heap.size, 0, none⟩) 2 2 _ hrs rfl (by simp) (by simp [padF_len, sha_len])
      rw [sha_len]
      have HSM := Lib.hid hsm
      have HB7 := Lib.hid hb7
      clear hr5 hr6 hb6 hrs hb7 hsm ht5 hb5 HTP HM4 HB4
      go_wp2_with fail
      refine HSM.out.mono ?_
      rintro e w8 ⟨v8, rfl, ht8, hb8⟩
      have hmac : sha [padF key 0x5c, sha (P ++ M)].flatten = mac key M := by
        unfold mac
        rw [HPP.out]
        simp
      rw [hmac] at ht8
      have hb9 := HB7.out.trans (hb8.mono HB7.out.size)
      have ht9 := ht8.mono HB7.out.size
      obtain ⟨a9, c9, rfl, _⟩ := ht9.shape
      have HT9 := Lib.hid ht9
      have HB9 := Lib.hid hb9
      rw [mac_len] at HT9 ⊢
      clear ht8 hb8 ht9 hb9 hmac
      go_wp2_with fail
      go_ret
      exact ⟨_, rfl, by rw [HMM.out]; exact HT9.out, HB9.out⟩
end Go.Proofs.Ytofoadpnfeamoaa

/- The reference of package b64: letters, and three bytes at a time. -/
import Derived.Test.YtgmieceebchmfaaDoorB64b
import Derived.Test.YtgmieceebchmfaaDoorB64q
import Derived.Deep.DeepCutAuto
set_option linter.unusedVariables false
namespace Go.Proofs.YtgmieceebchmfaaDoor
open Go.RowKit

set_option maxHeartbeats 400000 in
theorem letter_walk (n : Nat) (w : World) (h : n < 64) (hv : (lt64 n).toNat = if n < 26 then 65 + n else if n < 52 then 71 + n else if n < 62 then n - 4 else if n = 62 then 45 else 95) :
    Calls Tryd.prog 63 #[.int .i64 n] w fun e w' => e = .returned (.int .u8 (lt64 n).toNat) ∧ w' = w := by
  have HV := Lib.hid hv
  clear hv
  by_cases h1 : n < 26
  · go_enter Tryd.func63, Tryd.ntmps63
    go_wp2
    go_ret
    rw [HV.out, if_pos h1]
    exact ⟨by simp, rfl⟩
  by_cases h2 : n < 52
  · go_enter Tryd.func63, Tryd.ntmps63
    go_wp2
    go_ret
    rw [HV.out, if_neg h1, if_pos h2]
    exact ⟨by simp; omega, rfl⟩
  by_cases h3 : n < 62
  · go_enter Tryd.func63, Tryd.ntmps63
    go_wp2
    go_ret
    rw [HV.out, if_neg h1, if_neg h2, if_pos h3]
    exact ⟨by simp; omega, rfl⟩
  by_cases h4 : n = 62
  · subst h4
    go_enter Tryd.func63, Tryd.ntmps63
    go_wp2
    go_ret
    exact ⟨rfl, rfl⟩
  · have : n = 63 := by omega
    subst this
    go_enter Tryd.func63, Tryd.ntmps63
    go_wp2
    go_ret
    exact ⟨rfl, rfl⟩

theorem lt64_val : ∀ n, n < 64 → (lt64 n).toNat = if n < 26 then 65 + n else if n < 52 then 71 + n else if n < 62 then n - 4 else if n = 62 then 45 else 95 := by decide

theorem letter_any (N : Int) (n : Nat) (w : World) (hN : N = n) (h : n < 64) :
    Calls Tryd.prog 63 #[.int .i64 N] w fun e w' => e = .returned (.int .u8 (lt64 n).toNat) ∧ w' = w := by
  subst hN
  exact letter_walk n w h (lt64_val n h)

set_option maxRecDepth 100000 in
set_option maxHeartbeats 2000000 in
theorem refEncode_any (a : Option Addr) (l : List UInt8) (cp : Nat) (w : World) (hr : Rd w a l) (hl : l.length ≤ 1000000) :
    Calls Tryd.prog 45 #[.slice a l.length cp] w fun e w' => e = .returned (.string ⟨(enc3 l).toArray⟩) ∧ Below w.heap.size w w' := by
  go_enter Tryd.func45, Tryd.ntmps45
  go_wp2
  go_loopg [3, 4] (l.length + 3) (fun k v i wr => ∃ (j : Nat) (o : List UInt8), j + k = l.length + 3 ∧ j ≤ l.length + 2 ∧ i = .int .i64 j ∧ o.length ≤ 4 * j ∧ Own w.heap.size wr v o ∧ Below w.heap.size w wr ∧ Hid (o ++ enc3 (l.drop j) = enc3 l))
  case atStart => exact ⟨0, [], by omega, by omega, rfl, by simp, Own.nil _ _, Below.refl _ _, Lib.hid (by simp)⟩
  case round =>
    obtain ⟨gO, rfl⟩ : ∃ x : Nat, x = gk := ⟨_, rfl⟩
    obtain ⟨j, o, hj, hj2, rfl, hol, hown, hbel, hfin⟩ := hrel
    by_cases hlt : j < l.length
    · obtain ⟨b, off, rfl, hc⟩ := hr.at hlt
      have hc0 := cell_now hbel (hc j hlt)
      have hx0 : (l[j]).toNat < 256 := (l[j]).toNat_lt
      go_upto_if 25 with (fail)
      go_cut [5, 6] (fun x y wc => ∃ n k : Nat, x = .int .i64 n ∧ y = .int .i64 k ∧ G1 l j n k ∧ wr = wc)
      case first =>
        by_cases h1 : j + 1 < l.length
        · have hc1 := cell_now hbel (hc (j + 1) h1)
          have hx1 : (l[j + 1]).toNat < 256 := (l[j + 1]).toNat_lt
          go_wp2_with fail
          go_meet
          exact ⟨(l[j]).toNat * 65536 + (l[j + 1]).toNat * 256, 3, by simp, rfl, .inl ⟨h1, rfl, rfl⟩, rfl⟩
        · go_wp2_with fail
          go_meet
          exact ⟨(l[j]).toNat * 65536, 2, by simp, rfl, .inr ⟨by omega, rfl, rfl⟩, rfl⟩
      case rest =>
        obtain ⟨n1, k1, rfl, rfl, hg1, rfl⟩ := hcut
        clear hc0
        have hn1 : n1 < 16777216 := by
          rcases hg1 with ⟨h, e, _⟩ | ⟨h, e, _⟩
          · have := (l[j + 1]'h).toNat_lt; omega
          · omega
        go_upto_if 39 with (fail)
        go_cut [5, 6] (fun x y wc => ∃ n k : Nat, x = .int .i64 n ∧ y = .int .i64 k ∧ G2 l j n k ∧ wr = wc)
        case first =>
          by_cases h2 : j + 2 < l.length
          · have hc2 := cell_now hbel (hc (j + 2) h2)
            have hx2 : (l[j + 2]).toNat < 256 := (l[j + 2]).toNat_lt
            go_wp2_with fail
            go_meet
            refine ⟨n1 + (l[j + 2]).toNat, 4, by simp, rfl, ?_, rfl⟩
            rcases hg1 with ⟨h, e, _⟩ | ⟨h, e, _⟩
            · exact G2_of3 l j _ h2 (by rw [e])
            · omega
          · go_wp2_with fail
            go_meet
            refine ⟨n1, k1, rfl, rfl, ?_, rfl⟩
            rcases hg1 with ⟨h, rfl, rfl⟩ | ⟨h, rfl, rfl⟩
            · exact G2_of2 l j _ (by omega) rfl
            · exact G2_of1 l j _ h rfl
        case rest =>
          clear hg1 hn1
          obtain ⟨n, k, rfl, rfl, hg2, rfl⟩ := hcut
          clear n1 k1
          obtain ⟨hn, hk2, hk4, hjl, heq⟩ := hg2
          have HEQ := Lib.hid heq
          clear heq
          have hnI : (n : Int) < 16777216 := by omega
          have hcells : ints (four n) = [.int .i64 ((n : Int) / 262144), .int .i64 ((n : Int) / 4096 % 64), .int .i64 ((n : Int) / 64 % 64), .int .i64 ((n : Int) % 64)] := by simp [ints, four]
          have HC := Lib.hid hcells
          clear hcells
          have hown2 := hown.alloc (.cells #[.int .i64 ((n : Int) / 262144), .int .i64 ((n : Int) / 4096 % 64), .int .i64 ((n : Int) / 64 % 64), .int .i64 ((n : Int) % 64)] 100)
          have hnew := heap_alloc_new wr (.cells #[.int .i64 ((n : Int) / 262144), .int .i64 ((n : Int) / 4096 % 64), .int .i64 ((n : Int) / 64 % 64), .int .i64 ((n : Int) % 64)] 100)
          have hbel2 := hbel.alloc hbel.size (.cells #[.int .i64 ((n : Int) / 262144), .int .i64 ((n : Int) / 4096 % 64), .int .i64 ((n : Int) / 64 % 64), .int .i64 ((n : Int) % 64)] 100)
          have hblock : (wr.alloc (.cells #[.int .i64 ((n : Int) / 262144), .int .i64 ((n : Int) / 4096 % 64), .int .i64 ((n : Int) / 64 % 64), .int .i64 ((n : Int) % 64)] 100)).heap[wr.heap.size]? = some (.cells (ints (four n)).toArray 100) := by
            rw [HC.out]; exact hnew
          have HN := Lib.hid hnew
          have HB := Lib.hid hblock
          clear hnew hblock
          go_wp2
          go_loopg [3, 8] k (fun q v2 x wq => ∃ i : Nat, i + q = k ∧ x = .int .i64 i ∧ Own w.heap.size wq v2 (o ++ (fourL n).take i) ∧ Below w.heap.size w wq ∧ Hid (wq.heap[wr.heap.size]? = some (.cells (ints (four n)).toArray 100)))
          case atStart =>
            refine ⟨0, by omega, rfl, ?_, ?_, ?_⟩
            · simpa using hown2
            · exact hbel2
            · exact HB
          case round =>
            obtain ⟨i, hi, rfl, hown3, hbel3, hblk⟩ := hrel
            by_cases hik : i < k
            · have hi4 : i < 4 := by omega
              have hcell := cell_ints hblk.out (j := i) hi4
              have hlt64 := four_lt n hn i hi4
              go_wp2_with fail
              refine (letter_any _ _ _ rfl hlt64).mono ?_
              rintro e w2 ⟨rfl, rfl⟩
              obtain ⟨x, hx⟩ : ∃ x, lt64 (four n)[i] = x := ⟨_, rfl⟩
              rw [hx]
              have htk : (o ++ (fourL n).take i) ++ [x] = o ++ (fourL n).take (i + 1) := by
                rw [List.take_succ_eq_append_getElem (show i < (fourL n).length by simp [fourL, four]; omega), ← hx]
                simp [fourL]
                rfl
              have HX := Lib.hid htk
              clear hx htk hcell
              have hle : (o ++ (fourL n).take i).length ≤ 5000000 := by
                have : ((fourL n).take i).length ≤ 4 := by simp [fourL, four]; omega
                simp only [List.length_append]
                omega
              go_wp2_with (at_builtin; go_loud (refine wpList_append_rd rfl (.tmp 64) (.tmp 69) rfl w.heap.size _ (o ++ (fourL n).take i) rfl (hown3.alloc _) (some ⟨w2.heap.size, 0, none⟩) [x] 1 1 rfl rfl (Rd.of_lit [x] (heap_alloc_new _ _)) ?c1 ?c2 ?_))
              case c1 => simp only [List.length_singleton]; omega
              case c2 => have := hbel3.size; simp; omega
              intro v4 w4 hown4 hg4
              have hblk4 := Lib.hid ((hown3.alloc (.cells #[.int .u8 x.toNat] 5)).other hg4 (block_alloc hblk.out _) (by decide))
              have hbel4 := below_grow (hbel3.alloc hbel3.size (.cells #[.int .u8 x.toNat] 5)) (hown3.alloc _) hg4 (by have := hbel3.size; simp; omega)
              go_wp2
              go_roundg (gk - 1)
              case measure => omega
              case rel => exact ⟨i + 1, by omega, by go_num, by rw [← HX.out, List.append_assoc]; exact hown4, hbel4, hblk4⟩
            · have hik2 : i = k := by omega
              have HIK := Lib.hid hik2
              clear hik2
              go_wp2
              go_roundg (gO - 3)
              case measure => omega
              case rel =>
                have e := HIK.out
                subst e
                refine ⟨j + 3, _, by omega, by omega, by go_num, ?_, hown3, hbel3, Lib.hid ?_⟩
                · have : ((fourL n).take i).length ≤ 4 := by simp [fourL, four]; omega
                  simp only [List.length_append]
                  omega
                · rw [← hfin.out, HEQ.out, List.append_assoc]
    · have hdrop : l.drop j = [] := List.drop_eq_nil_of_le (by omega)
      have ho : o = enc3 l := by
        have := hfin.out
        rw [hdrop] at this
        simpa [enc3] using this
      subst ho
      obtain ⟨a2, c2, rfl, hr2⟩ := hown.shape
      have hconv := str_of_rd hr2 _ c2 rfl
      clear hdrop hfin
      go_wp2
      go_ret
      exact ⟨rfl, hbel⟩

theorem refEncode_at (a : Option Addr) (l : List UInt8) (n cp : Nat) (w : World) (hr : Rd w a l) (hn : n = l.length) (hl : l.length ≤ 1000000) :
    Calls Tryd.prog 45 #[.slice a n cp] w fun e w' => e = .returned (.string ⟨(enc l).toArray⟩) ∧ Below w.heap.size w w' := by
  subst hn
  rw [enc_eq]
  exact refEncode_any a l cp w hr hl
end Go.Proofs.YtgmieceebchmfaaDoor

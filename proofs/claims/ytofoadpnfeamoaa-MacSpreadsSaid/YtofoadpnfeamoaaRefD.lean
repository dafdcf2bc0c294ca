/- Package klaxonref01: Sum. -/
import Derived.Test.YtofoadpnfeamoaaRefC
import Derived.Test.YtofoadpnfeamoaaSl
set_option linter.unusedVariables false
namespace Go.Proofs.Ytofoadpnfeamoaa
open Go.RowKit

theorem be64_small (N : Nat) (h : N < 4294967296) : be64 N = [0, 0, 0, 0] ++ [UInt8.ofNat (N / 16777216), UInt8.ofNat (N / 65536 % 256), UInt8.ofNat (N / 256 % 256), UInt8.ofNat (N % 256)] := by
  have e : ∀ x : Nat, UInt8.ofNat (x % 256) = UInt8.ofNat x := fun x => by
    apply UInt8.toNat_inj.1
    simp [UInt8.toNat_ofNat']
  unfold be64
  rw [e, e, e, show N / 2 ^ 56 = 0 by omega, show N / 2 ^ 48 = 0 by omega, show N / 2 ^ 40 = 0 by omega, show N / 2 ^ 32 = 0 by omega]
  rfl
theorem wrap_byteM (N D : Nat) : IntKind.u8.wrap ((N : Int) / (D : Int) % 256) = ((UInt8.ofNat (N / D % 256)).toNat : Int) := by
  simp [IntKind.wrap, IntKind.bits, IntKind.signed, UInt8.toNat_ofNat']
theorem wrap_byteN (N D : Nat) : IntKind.u8.wrap ((N : Int) / (D : Int) % 256) = ((UInt8.ofNat (N / D)).toNat : Int) := by
  simp [IntKind.wrap, IntKind.bits, IntKind.signed, UInt8.toNat_ofNat']
theorem wrap_byteN1 (N : Nat) : IntKind.u8.wrap ((N : Int) % 256) = ((UInt8.ofNat N).toNat : Int) := by
  simp [IntKind.wrap, IntKind.bits, IntKind.signed, UInt8.toNat_ofNat']
theorem wrap_byteM1 (N : Nat) : IntKind.u8.wrap ((N : Int) % 256) = ((UInt8.ofNat (N % 256)).toNat : Int) := by
  simp [IntKind.wrap, IntKind.bits, IntKind.signed, UInt8.toNat_ofNat']

set_option maxRecDepth 100000 in
set_option maxHeartbeats 8000000 in
theorem sum_ref (m : List UInt8) (a0 : Option Addr) (n c0 : Nat) (w : World) (hr : Rd w a0 m) (hn : n = m.length) (hlen : m.length ≤ 900000) :
    Calls Try.prog 24 #[.slice a0 n c0] w fun e w' => ∃ v', e = .returned v' ∧ Tl w.heap.size w' v' (sha m) ∧ Below w.heap.size w w' := by
  subst hn
  have HR := Lib.hid hr
  clear hr
  go_enter Try.func24, Try.ntmps24
  go_wp2_with (at_builtin; go_loud (refine wpList_append_tl rfl (.tmp 18) (.tmp 19) rfl w.heap.size _ [] rfl (Tl.of_own (Own.empty w)) a0 m m.length c0 rfl rfl (HR.out.alloc _) ?c1 ?c2 ?_))
  case c1 => simp; omega
  case c2 => simp
  intro a1 n1 c1 w1 hn1 ht1 hg1 how1
  have hB1 : Below w.heap.size w w1 := below_grow_tl ((Below.refl _ _).alloc (Nat.le_refl _) _) (Tl.of_own (Own.empty w)) hg1 (by simp)
  clear hg1 how1 hn1
  go_wp2_with (at_builtin; go_loud (refine wpList_append_tl rfl (.tmp 20) (.tmp 21) rfl w.heap.size _ m rfl (ht1.alloc _) (some ⟨w1.heap.size, 0, none⟩) [0x80] 1 1 rfl rfl (Rd.of_lit (T := 5) (fr := (0, 0)) [0x80] ?c0) ?c1 ?c2 ?_))
  case c0 => rw [heap_alloc_new]; rfl
  case c1 => simp; omega
  case c2 => have := hB1.size; simp; omega
  intro a2 n2 c2 w2 hn2 ht2 hg2 how2
  have hB2 : Below w.heap.size w w2 := below_grow_tl (hB1.alloc hB1.size (.cells #[.int .u8 (128 : Int)] 5)) (ht1.alloc _) hg2 (by have := hB1.size; simp; omega)
  obtain ⟨r2, hr2⟩ : ∃ x, m ++ [0x80] = x := ⟨_, rfl⟩
  have hr2l : r2.length = m.length + 1 := by rw [← hr2, List.length_append]; rfl
  rw [hr2] at ht2
  obtain rfl : n2 = m.length + 1 := by
    obtain ⟨a, c, h, _⟩ := ht2.shape
    simp at h
    rw [h.2.1, hr2l]
  have HR2 := Lib.hid hr2
  have HT2 := Lib.hid ht2
  have HB2 := Lib.hid hB2
  have H2L := Lib.hid hr2l
  clear hn2 hg2 how2 hr2 ht1 hB1 hr2l ht2 hB2
  go_wp2_with fail
  go_loopg [3] (zer m.length) (fun k x wr => ∃ z a c, ∃ q : Nat, x = .slice a q c ∧ z + k = zer m.length ∧ q = m.length + 1 + z ∧ Hid (Tl w.heap.size wr (.slice a q c) (r2 ++ List.replicate z 0)) ∧ Hid (Below w.heap.size w wr))
  case atStart => exact ⟨0, a2, c2, _, rfl, by omega, rfl, by simpa using HT2, HB2⟩
  case round =>
    obtain ⟨z, a, c, q, rfl, hz, hq, HT, HB⟩ := hrel
    by_cases hlt : z < zer m.length
    · have hc : ((q : Nat) : Int) % 64 ≠ 56 := by unfold zer at hlt; omega
      have HQ := Lib.hid hq
      clear hq
      go_wp2_with (at_builtin; go_loud (refine wpList_append_tl rfl (.tmp 27) (.tmp 28) rfl w.heap.size _ (r2 ++ List.replicate z 0) rfl (HT.out.alloc _) (some ⟨wr.heap.size, 0, none⟩) [0] 1 1 rfl rfl (Rd.of_lit (T := 5) (fr := (0, 0)) [0] ?c0) ?c1 ?c2 ?_))
      case c0 => rw [heap_alloc_new]; rfl
      case c1 => have := H2L.out; have := zer_lt m.length; simp; omega
      case c2 => have := HB.out.size; simp; omega
      intro a4 n4 c4 w4 hn4 ht4 hg4 how4
      have hB4 : Below w.heap.size w w4 := below_grow_tl (HB.out.alloc HB.out.size (.cells #[.int .u8 (0 : Int)] 5)) (HT.out.alloc _) hg4 (by have := HB.out.size; simp; omega)
      have hn5 : n4 = m.length + 1 + (z + 1) := by
        obtain ⟨a, c, h, _⟩ := ht4.shape
        simp at h
        have := H2L.out
        omega
      have HN5 := Lib.hid hn5
      clear hn4 hg4 how4 hn5
      go_wp2_with fail
      go_roundg (gk - 1)
      case measure => omega
      case rel =>
        refine ⟨z + 1, a4, c4, n4, rfl, by omega, HN5.out, Lib.hid ?_, Lib.hid hB4⟩
        rw [List.replicate_succ']
        simpa using ht4
    · obtain rfl : z = zer m.length := by omega
      have hc : ((q : Nat) : Int) % 64 = 56 := by unfold zer at hq; omega
      obtain ⟨r3, hr3⟩ : ∃ x, r2 ++ List.replicate (zer m.length) 0 = x := ⟨_, rfl⟩
      rw [hr3] at HT
      have HR3 := Lib.hid hr3
      have h3l : r3.length = m.length + 1 + zer m.length := by rw [← hr3, List.length_append, List.length_replicate, H2L.out]
      have H3L := Lib.hid h3l
      have HQ := Lib.hid hq
      clear hq hr3 h3l
      go_wp2_with (at_builtin; go_loud (refine wpList_append_tl rfl (.tmp 30) (.tmp 31) rfl w.heap.size _ r3 rfl (HT.out.alloc _) (some ⟨wr.heap.size, 0, none⟩) [0, 0, 0, 0] 4 4 rfl rfl (Rd.of_lit (T := 5) (fr := (0, 0)) [0, 0, 0, 0] ?c0) ?c1 ?c2 ?_))
      case c0 => rw [heap_alloc_new]; rfl
      case c1 => have := H3L.out; have := zer_lt m.length; simp; omega
      case c2 => have := HB.out.size; simp; omega
      intro a4 n4 c4 w4 hn4 ht4 hg4 how4
      have hB4 : Below w.heap.size w w4 := below_grow_tl (HB.out.alloc HB.out.size (.cells #[.int .u8 (0 : Int), .int .u8 (0 : Int), .int .u8 (0 : Int), .int .u8 (0 : Int)] 5)) (HT.out.alloc _) hg4 (by have := HB.out.size; simp; omega)
      obtain ⟨r4, hr4⟩ : ∃ x, r3 ++ [0, 0, 0, 0] = x := ⟨_, rfl⟩
      rw [hr4] at ht4
      have HR4 := Lib.hid hr4
      have h4l : r4.length ≤ m.length + 69 := by rw [← hr4, List.length_append, H3L.out]; have := zer_lt m.length; simp; omega
      have H4L := Lib.hid h4l
      have HT4 := Lib.hid ht4
      have HB4 := Lib.hid hB4
      clear hn4 hg4 how4 hr4 ht4 hB4 h4l hc
      obtain ⟨N, hN⟩ : ∃ x, m.length * 8 = x := ⟨_, rfl⟩
      have hmul : IntKind.i64.wrap (8 * (m.length : Int)) = (N : Int) := by rw [← hN, show 8 * (m.length : Int) = ((m.length * 8 : Nat) : Int) by omega]; exact wr_nat _ (by omega)
      have hN2 : N < 4294967296 := by omega
      have hbe := be64_small N hN2
      obtain ⟨b0, hb0⟩ : ∃ y, UInt8.ofNat (N / 16777216) = y := ⟨_, rfl⟩
      obtain ⟨b1, hb1⟩ : ∃ y, UInt8.ofNat (N / 65536 % 256) = y := ⟨_, rfl⟩
      obtain ⟨b2, hb2⟩ : ∃ y, UInt8.ofNat (N / 256 % 256) = y := ⟨_, rfl⟩
      obtain ⟨b3, hb3⟩ : ∃ y, UInt8.ofNat (N % 256) = y := ⟨_, rfl⟩
      have k0 : IntKind.u8.wrap ((N : Int) / 16777216) = ((b0.toNat : Nat) : Int) := by rw [← hb0]; exact wrap_byte N 16777216
      have k1 : IntKind.u8.wrap ((N : Int) / 65536 % 256) = ((b1.toNat : Nat) : Int) := by rw [← hb1]; exact wrap_byteM N 65536
      have k2 : IntKind.u8.wrap ((N : Int) / 256 % 256) = ((b2.toNat : Nat) : Int) := by rw [← hb2]; exact wrap_byteM N 256
      have k3 : IntKind.u8.wrap ((N : Int) % 256) = ((b3.toNat : Nat) : Int) := by rw [← hb3]; exact wrap_byteM1 N
      have d1 : wrap64 ((N : Int) / 16777216) = (N : Int) / 16777216 := wrap64_in _ (by omega) (by omega)
      have d2 : wrap64 ((N : Int) / 65536) = (N : Int) / 65536 := wrap64_in _ (by omega) (by omega)
      have d3 : wrap64 ((N : Int) / 256) = (N : Int) / 256 := wrap64_in _ (by omega) (by omega)
      rw [hb0, hb1, hb2, hb3] at hbe
      have HBE := Lib.hid hbe
      have HN := Lib.hid hN
      clear hN hbe hb0 hb1 hb2 hb3
      go_wp2_with (at_builtin; go_loud (refine wpList_append_tl rfl (.tmp 36) (.tmp 51) rfl w.heap.size _ r4 rfl (HT4.out.alloc _) (some ⟨w4.heap.size, 0, none⟩) [b0, b1, b2, b3] 4 4 rfl rfl (Rd.of_lit (T := 5) (fr := (0, 0)) [b0, b1, b2, b3] ?c0) ?c1 ?c2 ?_))
      case c0 => rw [heap_alloc_new]; rfl
      case c1 => have := H4L.out; simp; omega
      case c2 => have := HB4.out.size; simp; omega
      intro a5 n5 c5 w5 hn5 ht5 hg5 how5
      have hB5 : Below w.heap.size w w5 := below_grow_tl (HB4.out.alloc HB4.out.size (.cells #[.int .u8 (b0.toNat : Int), .int .u8 (b1.toNat : Int), .int .u8 (b2.toNat : Int), .int .u8 (b3.toNat : Int)] 5)) (HT4.out.alloc _) hg5 (by have := HB4.out.size; simp; omega)
      have hpd : r4 ++ [b0, b1, b2, b3] = padded m := by
        rw [← HR4.out, ← HR3.out, ← HR2.out]
        unfold padded padT
        rw [HN.out, HBE.out]
        simp
      rw [hpd] at ht5
      have hpl := padded_len m
      have hple := padded_le m
      have hpg := padded_gt m
      have hsha : sha m = outB (stOf (padded m) ((padded m).length / 64)) := rfl
      obtain ⟨PD, hPD⟩ : ∃ x, padded m = x := ⟨_, rfl⟩
      rw [hPD] at ht5 hpl hple hsha hpg
      have hPpos : 0 < PD.length := by omega
      obtain ⟨a6, c6, hv6, hrd6, hc6, _⟩ := ht5.shape
      simp at hv6
      obtain ⟨rfl, rfl, rfl⟩ := hv6
      have hPb : PD.length ≤ 900072 := by omega
      have HRD := Lib.hid hrd6
      have HC6 := Lib.hid hc6
      have HB5 := Lib.hid hB5
      have HSH := Lib.hid hsha
      have HPL := Lib.hid hpl
      clear hn5 ht5 hg5 how5 hB5 hpd hsha hpl hple hpg hPD hrd6 hc6 d1 d2 d3 k0 k1 k2 k3 hmul hN2 HB4 HT4 HB HT HR2 HR3 HR4 H2L H3L H4L HT2 HB2 HN HBE HQ HR hz hlt
      go_wp2_with fail
      refine (keys_any w5).mono ?_
      rintro e w6 ⟨rfl, hw6⟩
      have hk6 : w6.heap[w5.heap.size]? = some (.cells (ints kTab).toArray 3 (0, 0)) := by rw [hw6]; exact heap_alloc_new w5 _
      have hb6 : Below w5.heap.size w5 w6 := by rw [hw6]; exact (Below.refl _ _).alloc (Nat.le_refl _) _
      have hs6 : w6.heap.size = w5.heap.size + 1 := by rw [hw6]; simp
      obtain ⟨gy, hgy⟩ : ∃ g, w5.heap.size = g := ⟨_, rfl⟩
      rw [hgy] at hk6 hs6 ⊢
      clear hw6
      go_wp2_with fail
      refine (first_any w6).mono ?_
      rintro e w7 ⟨rfl, hw7⟩
      have hh7 : w7.heap[w6.heap.size]? = some (.cells (ints iv).toArray 3 (0, 0)) := by rw [hw7]; exact heap_alloc_new w6 _
      have hb7 : Below w6.heap.size w6 w7 := by rw [hw7]; exact (Below.refl _ _).alloc (Nat.le_refl _) _
      obtain ⟨gh, hgh⟩ : ∃ g, w6.heap.size = g := ⟨_, rfl⟩
      rw [hgh] at hh7 ⊢
      have hk7 := block_below hk6 hb7
      have hrd7 := (HRD.out.below hb6).below hb7
      have hane : ∀ b off s, a5 = some ⟨b, off, s⟩ → b < gy := by
        intro b off s e
        have h1 := HRD.out
        rw [e] at h1
        have := h1.lt (fun h0 => by rw [h0] at hPpos; simp at hPpos)
        omega
      have HANE := Lib.hid hane
      have hbel7 : Below w.heap.size w w7 := (HB5.out.trans (hb6.mono HB5.out.size)).trans (hb7.mono (Nat.le_trans HB5.out.size hb6.size))
      have hW0 : w.heap.size ≤ gy := by rw [← hgy]; exact HB5.out.size
      have hyh : gy < gh := by omega
      have HK7 := Lib.hid hk7
      have HH7 := Lib.hid hh7
      have HR7 := Lib.hid hrd7
      have HB7 := Lib.hid hbel7
      clear hw7 hb7 hb6 hs6 hk6 hh7 hk7 hrd7 hbel7 hgy hgh HB5 HRD hane
      go_wp2_with fail
      go_loopg [7] (PD.length / 64) (fun k y wr => ∃ j : Nat, y = .int .i64 (64 * (j : Int)) ∧ j + k = PD.length / 64 ∧ Hid (Rd wr a5 PD) ∧ Hid (wr.heap[gy]? = some (.cells (ints kTab).toArray 3 (0, 0))) ∧ Hid (wr.heap[gh]? = some (.cells (ints (stOf PD j)).toArray 3 (0, 0))) ∧ Hid (Below w.heap.size w wr))
      case atStart => exact ⟨0, rfl, by omega, HR7, HK7, HH7, HB7⟩
      case round =>
        clear HR7 HK7 HH7 HB7
        obtain ⟨j, rfl, hj, HR, HK, HH, HB⟩ := hrel
        obtain ⟨gO, rfl⟩ : ∃ x : Nat, x = gk := ⟨_, rfl⟩
        obtain ⟨st, hst⟩ : ∃ x, stOf PD j = x := ⟨_, rfl⟩
        have hst8 := stOf_st8 PD j
        rw [hst] at HH hst8
        by_cases hlt : j < PD.length / 64
        · have hplm := HPL.out
          have hjI : 64 * (j : Int) < (PD.length : Int) := by omega
          have hw64 : IntKind.i64.wrap (64 * (j : Int) + 64) = 64 * (j : Int) + 64 := IntWalk.i64_in _ (by omega)
          obtain ⟨a', c', hsl, hrd⟩ := slice_lh a5 PD c5 (64 * j) (64 * j + 64) 64 (64 * (j : Int)) (64 * (j : Int) + 64) (by omega) (by omega) HC6.out (by omega) (by omega) (by omega)
          have hrdw := hrd wr HR.out
          obtain ⟨L, hL⟩ : ∃ L, (PD.drop (64 * j)).take 64 = L := ⟨_, rfl⟩
          have hLl : L.length = 64 := by rw [← hL, List.length_take, List.length_drop]; omega
          have hws : schedU L 64 = schedU (PD.drop (64 * j)) 64 := by rw [← hL]; exact schedU_take _ _
          rw [hL] at hrdw
          have hsc := schedule_ref a' L 64 c' wr hrdw hLl.symm (by omega) (by omega)
          rw [hws] at hsc
          have hwl : (schedU (PD.drop (64 * j)) 64).length = 64 := schedU_len _ _
          have hwlt : ∀ t, (schedU (PD.drop (64 * j)) 64).getD t 0 < 4294967296 := fun t => getD_lt _ 64 t
          have hstep : stOf PD (j + 1) = List.zipWith (fun x y => (x + y) % 4294967296) (rnds (schedU (PD.drop (64 * j)) 64) st 64) st := by
            simp only [stOf]
            rw [hst]
            rfl
          obtain ⟨ws, hwse⟩ : ∃ ws, schedU (PD.drop (64 * j)) 64 = ws := ⟨_, rfl⟩
          rw [hwse] at hsc hwl hwlt hstep
          have HSC := Lib.hid hsc
          have HWL := Lib.hid hwlt
          have HST := Lib.hid hstep
          clear hrd hrdw hL hws hsc hwlt hstep hwse hLl
          go_upto_region 12 with (fail)
          go_wp2_with fail
          refine HSC.out.mono ?_
          rintro e w1 ⟨gw, cw, rfl, how, hb1⟩
          have hrw : RowI w1 gw ws := fun i hi => how.cell hi
          have HRW := Lib.hid hrw
          have hk1 := block_below HK.out hb1
          have hh1 := block_below HH.out hb1
          have hr1 := HR.out.below hb1
          have hB1 := HB.out.trans (hb1.mono HB.out.size)
          have HK1 := Lib.hid hk1
          have HH1 := Lib.hid hh1
          have HR1 := Lib.hid hr1
          have HB1 := Lib.hid hB1
          have h8 : st.length = 8 := hst8.1
          clear how hb1 hrw hk1 hh1 hr1 hB1 HSC HR HK HH HB hsl
          go_wp2_with (at_builtin; go_loud (refine wpList_append_ints rfl (.tmp 67) (.tmp 68) rfl w1.heap.size _ [] rfl (OwnI.empty w1) gh st 8 8 rfl h8.symm (by omega) ?c0 ?c1 ?c2 ?_))
          case c0 =>
            intro i hi
            have h1 : w1.cell? ⟨gh, i, none⟩ = some (.int .i64 (st[i] : Nat)) := by
              rw [Lib.cell_of_heap HH1.out]
              simp [ints, hi]
            rw [World.cell?_alloc_lt _ _ _ (World.block_lt_of_cell? _ _ h1)]
            exact h1
          case c1 => simp; omega
          case c2 => simp
          intro gs n2 cs w2 hn2 ho2 hg2 how2
          have hb2 : Below w1.heap.size w1 w2 := ((Below.refl _ _).alloc (Nat.le_refl _) _).grown hg2 (by simp) (fun k hk => (OwnI.lt (OwnI.empty w1) k hk).1)
          obtain rfl : n2 = 8 := by
            obtain ⟨g, c, h⟩ := ho2.shape (by first | omega | (simp; omega))
            simp at h
            omega
          have hgs2 : gh < gs := by
            have h1 := (Array.getElem?_eq_some_iff.1 HH1.out).1
            rcases how2 with h | h
            · simp [Value.ownBlock] at h
              omega
            · try simp at h
              omega
          have hrs : RowI w2 gs st := fun i hi => ho2.cell (by simpa using hi)
          have hrw2 := HRW.out.below hb2
          have hk2 := block_below HK1.out hb2
          have hh2 := block_below HH1.out hb2
          have hr2 := HR1.out.below hb2
          have hB2 := HB1.out.trans (hb2.mono HB1.out.size)
          have HRS := Lib.hid hrs
          have HRW := Lib.hid hrw2
          have HK2 := Lib.hid hk2
          have HH2 := Lib.hid hh2
          have HR2 := Lib.hid hr2
          have HB2 := Lib.hid hB2
          clear hn2 ho2 hg2 how2 hb2 hrs hrw2 hk2 hh2 hr2 hB2 HK1 HH1 HR1 HB1
          go_wp2_with fail
          go_loopg [10, 9] 64 (fun k y x wr => ∃ t gs cs : Nat, y = .int .i64 t ∧ x = .slice (some ⟨gs, 0, none⟩) 8 cs ∧ t + k = 64 ∧ gh < gs ∧ Hid (RowI wr gs (rnds ws st t)) ∧ Hid (Below w2.heap.size w2 wr))
          case atStart => exact ⟨0, gs, cs, rfl, rfl, rfl, hgs2, HRS, Lib.hid (Below.refl _ _)⟩
          case round =>
            clear HRS
            obtain ⟨t, gs, cs, rfl, rfl, ht, hgg, HS, HB⟩ := hrel
            by_cases ht64 : t < 64
            · obtain ⟨sa, sb, sc, sd, se, sf, sg, sh, hs, ba, bb, bc, bd, be, bf, bg, bh⟩ := (rnds_st8 ws hst8 t).shape
              have hS := HS.out
              rw [hs] at hS
              have c0 := hS 0 (by simp)
              have c1 := hS 1 (by simp)
              have c2 := hS 2 (by simp)
              have c3 := hS 3 (by simp)
              have c4 := hS 4 (by simp)
              have c5 := hS 5 (by simp)
              have c6 := hS 6 (by simp)
              have c7 := hS 7 (by simp)
              simp only [List.getElem_cons_zero, List.getElem_cons_succ] at c0 c1 c2 c3 c4 c5 c6 c7
              have hkt := kAt_lt t
              have hwt := HWL.out t
              have ck := (show wr.cell? ⟨gy, t, none⟩ = some (.int .i64 (kAt t : Nat)) by
                rw [Lib.cell_of_heap (block_below HK2.out HB.out)]
                have : t < kTab.length := ht64
                simp [ints, kAt, List.getD, this])
              have cwt := (show wr.cell? ⟨gw, t, none⟩ = some (.int .i64 (ws.getD t 0 : Nat)) by
                have := (HRW.out.below HB.out) t (by omega)
                rw [this, getD_nat])
              have hrn : rnds ws st (t + 1) = rnd (kAt t) (ws.getD t 0) [sa, sb, sc, sd, se, sf, sg, sh] := by
                simp only [rnds]
                rw [hs]
              obtain ⟨wt, ewt⟩ : ∃ x, ws.getD t 0 = x := ⟨_, rfl⟩
              obtain ⟨kt, ekt⟩ : ∃ x, kAt t = x := ⟨_, rfl⟩
              rw [ewt] at hwt cwt hrn
              rw [ekt] at hkt ck hrn
              obtain ⟨r6, r11, r25, v1, v2, s1, a1, ne, a2, ch, s2, s3, s4, C6, C11, C25, f1, f2, f3, f4, f5, f6, f7, f8, f9, f10, em, bm⟩ := ref_round1 se sf sg sh kt wt be bf bg bh hkt hwt
              have HR6 := Lib.hid C6
              have HR11 := Lib.hid C11
              have HR25 := Lib.hid C25
              have HBS4 := Lib.hid bm
              have HEM := Lib.hid em
              have HRN := Lib.hid hrn
              have tn : ((t : Int)).toNat = t := by omega
              have t0 : 0 ≤ (t : Int) := by omega
              have t64 : (t : Int) < 64 := by omega
              clear hS hs ewt ekt C6 C11 C25 em bm hrn hkt hwt
              go_upto_region 19 with (fail)
              refine wp_region_grow (by kernel_rfl) (by kernel_rfl) [80, 81, 82, 83, 84, 85, 86, 87, 88, 89, 90, 91, 92, 93, 94, 95, 96, 97, 98, 99, 100, 101, 102, 103, 104, 105, 106, 107, 108, 109, 110, 111, 112, 113, 114, 115, 13] rfl (by decide) (by kernel_rfl) (fun i => [VIs (.slice (some ⟨gs, 0, none⟩) 8 cs), VIs (.pointer (some ⟨gs, 7, none⟩)), VIs (.int .i64 (sh : Nat)), VIs (.int .i64 (se : Nat)), VIs (.int .i64 (r6 : Nat)), VIs (.int .i64 (se : Nat)), VIs (.int .i64 (r11 : Nat)), VIs (.int .i64 (v1 : Nat)), VIs (.int .i64 (se : Nat)), VIs (.int .i64 (r25 : Nat)), VIs (.int .i64 (v2 : Nat)), VIs (.int .i64 (s1 : Nat)), VIs (.int .i64 (se : Nat)), VIs (.slice (some ⟨gs, 0, none⟩) 8 cs), VIs (.pointer (some ⟨gs, 5, none⟩)), VIs (.int .i64 (sf : Nat)), VIs (.int .i64 (a1 : Nat)), VIs (.int .i64 (se : Nat)), VIs (.int .i64 (ne : Nat)), VIs (.slice (some ⟨gs, 0, none⟩) 8 cs), VIs (.pointer (some ⟨gs, 6, none⟩)), VIs (.int .i64 (sg : Nat)), VIs (.int .i64 (a2 : Nat)), VIs (.int .i64 (ch : Nat)), VIs (.int .i64 (s2 : Nat)), VIs (.slice (some ⟨gy, 0, none⟩) 64 64), VIs (.int .i64 (t : Nat)), VIs (.pointer (some ⟨gy, t, none⟩)), VIs (.int .i64 (kt : Nat)), VIs (.int .i64 (s3 : Nat)), VIs (.slice (some ⟨gw, 0, none⟩) 64 cw), VIs (.int .i64 (t : Nat)), VIs (.pointer (some ⟨gw, t, none⟩)), VIs (.int .i64 (wt : Nat)), VIs (.int .i64 (s4 : Nat)), VIs (.int .i64 ((s4) % 4294967296 : Nat)), VIs (.int .i64 (s4 % 4294967296 : Nat))].getD i fun _ _ => True) (stab_list _ ?_) ?_ ?_
              · intro V hV
                simp only [List.mem_cons, List.mem_nil_iff, or_false] at hV
                rcases hV with rfl | rfl | rfl | rfl | rfl | rfl | rfl | rfl | rfl | rfl | rfl | rfl | rfl | rfl | rfl | rfl | rfl | rfl | rfl | rfl | rfl | rfl | rfl | rfl | rfl | rfl | rfl | rfl | rfl | rfl | rfl | rfl | rfl | rfl | rfl | rfl | rfl <;> first | exact VIs.stab _ | exact VBytes.stab _ | exact VStr.stab _ | exact VParts.stab _ | exact VRow.stab _ | exact VRow8.stab _ _
              · intro i o ho a' w' hf hb hd
                rcases i with _ | _ | _ | _ | _ | _ | _ | _ | _ | _ | _ | _ | _ | _ | _ | _ | _ | _ | _ | _ | _ | _ | _ | _ | _ | _ | _ | _ | _ | _ | _ | _ | _ | _ | _ | _ | _ | i
                · cases ho
                  refine grow_op rfl rfl rfl (grow_move rfl ?_)
                  exact (hf.same 9 (by decide)).trans rfl
                · cases ho
                  refine grow_op rfl rfl rfl ?_
                  have e0 : a'.tmps.getD 80 undef = .slice (some ⟨gs, 0, none⟩) 8 cs := hd 0 (by kernel_rfl)
                  refine grow_value (v := .pointer (some ⟨gs, 7, none⟩)) (w' := w') ?_ rfl (Below.refl _ _)
                  simp only [execOp, Act.eval, e0]
                  go_simp
                · cases ho
                  refine grow_op rfl rfl rfl ?_
                  have e1 : a'.tmps.getD 81 undef = .pointer (some ⟨gs, 7, none⟩) := hd 1 (by kernel_rfl)
                  have hc := cell_now hb c7
                  refine grow_value (v := .int .i64 (sh : Nat)) (w' := w') ?_ rfl (Below.refl _ _)
                  simp only [execOp, Act.eval, e1]
                  go_simp
                · cases ho
                  refine grow_op rfl rfl rfl (grow_move rfl ?_)
                  exact (hf.same 11 (by decide)).trans rfl
                · cases ho
                  refine grow_op rfl rfl rfl ?_
                  have e3 : a'.tmps.getD 83 undef = .int .i64 (se : Nat) := hd 3 (by kernel_rfl)
                  refine grow_call ent_turn rfl ?_
                  simp only [List.map_toArray, List.map_cons, List.map_nil, Act.eval, e3]
                  exact turn_grew (HR6.out w')
                · cases ho
                  refine grow_op rfl rfl rfl (grow_move rfl ?_)
                  exact (hf.same 11 (by decide)).trans rfl
                · cases ho
                  refine grow_op rfl rfl rfl ?_
                  have e5 : a'.tmps.getD 85 undef = .int .i64 (se : Nat) := hd 5 (by kernel_rfl)
                  refine grow_call ent_turn rfl ?_
                  simp only [List.map_toArray, List.map_cons, List.map_nil, Act.eval, e5]
                  exact turn_grew (HR11.out w')
                · cases ho
                  refine grow_op rfl rfl rfl ?_
                  have e4 : a'.tmps.getD 84 undef = .int .i64 (r6 : Nat) := hd 4 (by kernel_rfl)
                  have e6 : a'.tmps.getD 86 undef = .int .i64 (r11 : Nat) := hd 6 (by kernel_rfl)
                  refine grow_value (v := .int .i64 (v1 : Nat)) (w' := w') ?_ rfl (Below.refl _ _)
                  simp only [execOp, Act.eval, e4, e6]
                  go_simp
                · cases ho
                  refine grow_op rfl rfl rfl (grow_move rfl ?_)
                  exact (hf.same 11 (by decide)).trans rfl
                · cases ho
                  refine grow_op rfl rfl rfl ?_
                  have e8 : a'.tmps.getD 88 undef = .int .i64 (se : Nat) := hd 8 (by kernel_rfl)
                  refine grow_call ent_turn rfl ?_
                  simp only [List.map_toArray, List.map_cons, List.map_nil, Act.eval, e8]
                  exact turn_grew (HR25.out w')
                · cases ho
                  refine grow_op rfl rfl rfl ?_
                  have e7 : a'.tmps.getD 87 undef = .int .i64 (v1 : Nat) := hd 7 (by kernel_rfl)
                  have e9 : a'.tmps.getD 89 undef = .int .i64 (r25 : Nat) := hd 9 (by kernel_rfl)
                  refine grow_value (v := .int .i64 (v2 : Nat)) (w' := w') ?_ rfl (Below.refl _ _)
                  simp only [execOp, Act.eval, e7, e9]
                  go_simp
                · cases ho
                  refine grow_op rfl rfl rfl ?_
                  have e2 : a'.tmps.getD 82 undef = .int .i64 (sh : Nat) := hd 2 (by kernel_rfl)
                  have e10 : a'.tmps.getD 90 undef = .int .i64 (v2 : Nat) := hd 10 (by kernel_rfl)
                  refine grow_value (v := .int .i64 (s1 : Nat)) (w' := w') ?_ rfl (Below.refl _ _)
                  simp only [execOp, Act.eval, e2, e10]
                  go_simp
                · cases ho
                  refine grow_op rfl rfl rfl (grow_move rfl ?_)
                  exact (hf.same 11 (by decide)).trans rfl
                · cases ho
                  refine grow_op rfl rfl rfl (grow_move rfl ?_)
                  exact (hf.same 9 (by decide)).trans rfl
                · cases ho
                  refine grow_op rfl rfl rfl ?_
                  have e13 : a'.tmps.getD 93 undef = .slice (some ⟨gs, 0, none⟩) 8 cs := hd 13 (by kernel_rfl)
                  refine grow_value (v := .pointer (some ⟨gs, 5, none⟩)) (w' := w') ?_ rfl (Below.refl _ _)
                  simp only [execOp, Act.eval, e13]
                  go_simp
                · cases ho
                  refine grow_op rfl rfl rfl ?_
                  have e14 : a'.tmps.getD 94 undef = .pointer (some ⟨gs, 5, none⟩) := hd 14 (by kernel_rfl)
                  have hc := cell_now hb c5
                  refine grow_value (v := .int .i64 (sf : Nat)) (w' := w') ?_ rfl (Below.refl _ _)
                  simp only [execOp, Act.eval, e14]
                  go_simp
                · cases ho
                  refine grow_op rfl rfl rfl ?_
                  have e12 : a'.tmps.getD 92 undef = .int .i64 (se : Nat) := hd 12 (by kernel_rfl)
                  have e15 : a'.tmps.getD 95 undef = .int .i64 (sf : Nat) := hd 15 (by kernel_rfl)
                  refine grow_value (v := .int .i64 (a1 : Nat)) (w' := w') ?_ rfl (Below.refl _ _)
                  simp only [execOp, Act.eval, e12, e15]
                  go_simp
                · cases ho
                  refine grow_op rfl rfl rfl (grow_move rfl ?_)
                  exact (hf.same 11 (by decide)).trans rfl
                · cases ho
                  refine grow_op rfl rfl rfl ?_
                  have e17 : a'.tmps.getD 97 undef = .int .i64 (se : Nat) := hd 17 (by kernel_rfl)
                  refine grow_value (v := .int .i64 (ne : Nat)) (w' := w') ?_ rfl (Below.refl _ _)
                  simp only [execOp, Act.eval, e17]
                  go_simp
                · cases ho
                  refine grow_op rfl rfl rfl (grow_move rfl ?_)
                  exact (hf.same 9 (by decide)).trans rfl
                · cases ho
                  refine grow_op rfl rfl rfl ?_
                  have e19 : a'.tmps.getD 99 undef = .slice (some ⟨gs, 0, none⟩) 8 cs := hd 19 (by kernel_rfl)
                  refine grow_value (v := .pointer (some ⟨gs, 6, none⟩)) (w' := w') ?_ rfl (Below.refl _ _)
                  simp only [execOp, Act.eval, e19]
                  go_simp
                · cases ho
                  refine grow_op rfl rfl rfl ?_
                  have e20 : a'.tmps.getD 100 undef = .pointer (some ⟨gs, 6, none⟩) := hd 20 (by kernel_rfl)
                  have hc := cell_now hb c6
                  refine grow_value (v := .int .i64 (sg : Nat)) (w' := w') ?_ rfl (Below.refl _ _)
                  simp only [execOp, Act.eval, e20]
                  go_simp
                · cases ho
                  refine grow_op rfl rfl rfl ?_
                  have e18 : a'.tmps.getD 98 undef = .int .i64 (ne : Nat) := hd 18 (by kernel_rfl)
                  have e21 : a'.tmps.getD 101 undef = .int .i64 (sg : Nat) := hd 21 (by kernel_rfl)
                  refine grow_value (v := .int .i64 (a2 : Nat)) (w' := w') ?_ rfl (Below.refl _ _)
                  simp only [execOp, Act.eval, e18, e21]
                  go_simp
                · cases ho
                  refine grow_op rfl rfl rfl ?_
                  have e16 : a'.tmps.getD 96 undef = .int .i64 (a1 : Nat) := hd 16 (by kernel_rfl)
                  have e22 : a'.tmps.getD 102 undef = .int .i64 (a2 : Nat) := hd 22 (by kernel_rfl)
                  refine grow_value (v := .int .i64 (ch : Nat)) (w' := w') ?_ rfl (Below.refl _ _)
                  simp only [execOp, Act.eval, e16, e22]
                  go_simp
                · cases ho
                  refine grow_op rfl rfl rfl ?_
                  have e11 : a'.tmps.getD 91 undef = .int .i64 (s1 : Nat) := hd 11 (by kernel_rfl)
                  have e23 : a'.tmps.getD 103 undef = .int .i64 (ch : Nat) := hd 23 (by kernel_rfl)
                  refine grow_value (v := .int .i64 (s2 : Nat)) (w' := w') ?_ rfl (Below.refl _ _)
                  simp only [execOp, Act.eval, e11, e23]
                  go_simp
                · cases ho
                  refine grow_op rfl rfl rfl (grow_move rfl ?_)
                  exact (hf.same 5 (by decide)).trans rfl
                · cases ho
                  refine grow_op rfl rfl rfl (grow_move rfl ?_)
                  exact (hf.same 10 (by decide)).trans rfl
                · cases ho
                  refine grow_op rfl rfl rfl ?_
                  have e25 : a'.tmps.getD 105 undef = .slice (some ⟨gy, 0, none⟩) 64 64 := hd 25 (by kernel_rfl)
                  have e26 : a'.tmps.getD 106 undef = .int .i64 (t : Nat) := hd 26 (by kernel_rfl)
                  refine grow_value (v := .pointer (some ⟨gy, t, none⟩)) (w' := w') ?_ rfl (Below.refl _ _)
                  simp only [execOp, Act.eval, e25, e26]
                  go_simp
                · cases ho
                  refine grow_op rfl rfl rfl ?_
                  have e27 : a'.tmps.getD 107 undef = .pointer (some ⟨gy, t, none⟩) := hd 27 (by kernel_rfl)
                  have hc := cell_now hb ck
                  refine grow_value (v := .int .i64 (kt : Nat)) (w' := w') ?_ rfl (Below.refl _ _)
                  simp only [execOp, Act.eval, e27]
                  go_simp
                · cases ho
                  refine grow_op rfl rfl rfl ?_
                  have e24 : a'.tmps.getD 104 undef = .int .i64 (s2 : Nat) := hd 24 (by kernel_rfl)
                  have e28 : a'.tmps.getD 108 undef = .int .i64 (kt : Nat) := hd 28 (by kernel_rfl)
                  refine grow_value (v := .int .i64 (s3 : Nat)) (w' := w') ?_ rfl (Below.refl _ _)
                  simp only [execOp, Act.eval, e24, e28]
                  go_simp
                · cases ho
                  refine grow_op rfl rfl rfl (grow_move rfl ?_)
                  exact (hf.same 8 (by decide)).trans rfl
                · cases ho
                  refine grow_op rfl rfl rfl (grow_move rfl ?_)
                  exact (hf.same 10 (by decide)).trans rfl
                · cases ho
                  refine grow_op rfl rfl rfl ?_
                  have e30 : a'.tmps.getD 110 undef = .slice (some ⟨gw, 0, none⟩) 64 cw := hd 30 (by kernel_rfl)
                  have e31 : a'.tmps.getD 111 undef = .int .i64 (t : Nat) := hd 31 (by kernel_rfl)
                  refine grow_value (v := .pointer (some ⟨gw, t, none⟩)) (w' := w') ?_ rfl (Below.refl _ _)
                  simp only [execOp, Act.eval, e30, e31]
                  go_simp
                · cases ho
                  refine grow_op rfl rfl rfl ?_
                  have e32 : a'.tmps.getD 112 undef = .pointer (some ⟨gw, t, none⟩) := hd 32 (by kernel_rfl)
                  have hc := cell_now hb cwt
                  refine grow_value (v := .int .i64 (wt : Nat)) (w' := w') ?_ rfl (Below.refl _ _)
                  simp only [execOp, Act.eval, e32]
                  go_simp
                · cases ho
                  refine grow_op rfl rfl rfl ?_
                  have e29 : a'.tmps.getD 109 undef = .int .i64 (s3 : Nat) := hd 29 (by kernel_rfl)
                  have e33 : a'.tmps.getD 113 undef = .int .i64 (wt : Nat) := hd 33 (by kernel_rfl)
                  refine grow_value (v := .int .i64 (s4 : Nat)) (w' := w') ?_ rfl (Below.refl _ _)
                  simp only [execOp, Act.eval, e29, e33]
                  go_simp
                · cases ho
                  refine grow_op rfl rfl rfl ?_
                  have e : a'.tmps.getD 114 undef = .int .i64 (s4 : Nat) := hd 34 (by kernel_rfl)
                  refine grow_call ent_top rfl ?_
                  simp only [List.map_toArray, List.map_cons, List.map_nil, Act.eval, e]
                  exact (top_any (s4) w' HBS4.out).mono (fun e w'' ⟨h1, h2⟩ => ⟨_, h1, rfl, by rw [h2]; exact Below.refl _ _⟩)
                · cases ho
                  refine grow_op rfl rfl rfl (grow_assign rfl ?_)
                  exact hd 35 (by kernel_rfl)
                · simp at ho
              · intro a' w' hf hb hd
                obtain rfl := hf.eq [Value.slice (some ⟨gs, 0, none⟩) 8 cs, Value.pointer (some ⟨gs, 7, none⟩), Value.int IntKind.i64 (sh : Nat), Value.int IntKind.i64 (se : Nat), Value.int IntKind.i64 (r6 : Nat), Value.int IntKind.i64 (se : Nat), Value.int IntKind.i64 (r11 : Nat), Value.int IntKind.i64 (v1 : Nat), Value.int IntKind.i64 (se : Nat), Value.int IntKind.i64 (r25 : Nat), Value.int IntKind.i64 (v2 : Nat), Value.int IntKind.i64 (s1 : Nat), Value.int IntKind.i64 (se : Nat), Value.slice (some ⟨gs, 0, none⟩) 8 cs, Value.pointer (some ⟨gs, 5, none⟩), Value.int IntKind.i64 (sf : Nat), Value.int IntKind.i64 (a1 : Nat), Value.int IntKind.i64 (se : Nat), Value.int IntKind.i64 (ne : Nat), Value.slice (some ⟨gs, 0, none⟩) 8 cs, Value.pointer (some ⟨gs, 6, none⟩), Value.int IntKind.i64 (sg : Nat), Value.int IntKind.i64 (a2 : Nat), Value.int IntKind.i64 (ch : Nat), Value.int IntKind.i64 (s2 : Nat), Value.slice (some ⟨gy, 0, none⟩) 64 64, Value.int IntKind.i64 (t : Nat), Value.pointer (some ⟨gy, t, none⟩), Value.int IntKind.i64 (kt : Nat), Value.int IntKind.i64 (s3 : Nat), Value.slice (some ⟨gw, 0, none⟩) 64 cw, Value.int IntKind.i64 (t : Nat), Value.pointer (some ⟨gw, t, none⟩), Value.int IntKind.i64 (wt : Nat), Value.int IntKind.i64 (s4 : Nat), Value.int IntKind.i64 ((s4) % 4294967296 : Nat), Value.int IntKind.i64 (s4 % 4294967296 : Nat)] (fun j hj => match j, hj with
                  | 0, _ => hd 0 (by decide)
                  | 1, _ => hd 1 (by decide)
                  | 2, _ => hd 2 (by decide)
                  | 3, _ => hd 3 (by decide)
                  | 4, _ => hd 4 (by decide)
                  | 5, _ => hd 5 (by decide)
                  | 6, _ => hd 6 (by decide)
                  | 7, _ => hd 7 (by decide)
                  | 8, _ => hd 8 (by decide)
                  | 9, _ => hd 9 (by decide)
                  | 10, _ => hd 10 (by decide)
                  | 11, _ => hd 11 (by decide)
                  | 12, _ => hd 12 (by decide)
                  | 13, _ => hd 13 (by decide)
                  | 14, _ => hd 14 (by decide)
                  | 15, _ => hd 15 (by decide)
                  | 16, _ => hd 16 (by decide)
                  | 17, _ => hd 17 (by decide)
                  | 18, _ => hd 18 (by decide)
                  | 19, _ => hd 19 (by decide)
                  | 20, _ => hd 20 (by decide)
                  | 21, _ => hd 21 (by decide)
                  | 22, _ => hd 22 (by decide)
                  | 23, _ => hd 23 (by decide)
                  | 24, _ => hd 24 (by decide)
                  | 25, _ => hd 25 (by decide)
                  | 26, _ => hd 26 (by decide)
                  | 27, _ => hd 27 (by decide)
                  | 28, _ => hd 28 (by decide)
                  | 29, _ => hd 29 (by decide)
                  | 30, _ => hd 30 (by decide)
                  | 31, _ => hd 31 (by decide)
                  | 32, _ => hd 32 (by decide)
                  | 33, _ => hd 33 (by decide)
                  | 34, _ => hd 34 (by decide)
                  | 35, _ => hd 35 (by decide)
                  | 36, _ => hd 36 (by decide)
                  | k + 37, h => absurd h (by simp)) (by decide) (by kernel_rfl) rfl
                simp only [List.zip_cons_cons, List.zip_nil_right, List.foldl_cons, List.foldl_nil, Act.put, List.setIfInBounds_toArray, List.set_cons_succ, List.set_cons_zero]
                have hbA := HB.out.trans (hb.mono HB.out.size)
                have d0 := cell_now hb c0
                have d1 := cell_now hb c1
                have d2 := cell_now hb c2
                have d3 := cell_now hb c3
                have d4 := cell_now hb c4
                have d5 := cell_now hb c5
                have d6 := cell_now hb c6
                obtain ⟨x1, hx1⟩ : ∃ x, s4 % 4294967296 = x := ⟨_, rfl⟩
                rw [hx1]
                have hx1l : x1 < 4294967296 := by omega
                have hem := HEM.out
                rw [hx1] at hem
                have HX1 := Lib.hid hem
                have HBA := Lib.hid hbA
                obtain ⟨r2, r13, r22, v1', v2', z1, z2, z3, z4, mj, t2, C2, C13, C22, g1, g2, g3, g4, g5, g6, g7, g8, em2, bm2⟩ := ref_round2 sa sb sc ba bb bc
                have HR2' := Lib.hid C2
                have HR13 := Lib.hid C13
                have HR22 := Lib.hid C22
                have HBT2 := Lib.hid bm2
                have HEM2 := Lib.hid em2
                clear C2 C13 C22 bm2 em2 hb hf hd hbA c0 c1 c2 c3 c4 c5 c6 c7 ck cwt f1 f2 f3 f4 f5 f6 f7 f8 f9 f10 HR6 HR11 HR25 HBS4 HEM hx1 hem HB HS
                obtain ⟨wA, hwA⟩ : ∃ x, w' = x := ⟨_, rfl⟩
                rw [hwA] at d0 d1 d2 d3 d4 d5 d6 HBA ⊢
                clear hwA
                go_upto_region 20 with (fail)
                refine wp_region_grow (by kernel_rfl) (by kernel_rfl) [116, 117, 118, 119, 120, 121, 122, 123, 124, 125, 126, 127, 128, 129, 130, 131, 132, 133, 134, 135, 136, 137, 138, 139, 140, 141, 142, 143, 144, 14] rfl (by decide) (by kernel_rfl) (fun i => [VIs (.int .i64 (sa : Nat)), VIs (.int .i64 (r2 : Nat)), VIs (.int .i64 (sa : Nat)), VIs (.int .i64 (r13 : Nat)), VIs (.int .i64 (v1' : Nat)), VIs (.int .i64 (sa : Nat)), VIs (.int .i64 (r22 : Nat)), VIs (.int .i64 (v2' : Nat)), VIs (.int .i64 (sa : Nat)), VIs (.slice (some ⟨gs, 0, none⟩) 8 cs), VIs (.pointer (some ⟨gs, 1, none⟩)), VIs (.int .i64 (sb : Nat)), VIs (.int .i64 (z1 : Nat)), VIs (.int .i64 (sa : Nat)), VIs (.slice (some ⟨gs, 0, none⟩) 8 cs), VIs (.pointer (some ⟨gs, 2, none⟩)), VIs (.int .i64 (sc : Nat)), VIs (.int .i64 (z2 : Nat)), VIs (.int .i64 (z4 : Nat)), VIs (.slice (some ⟨gs, 0, none⟩) 8 cs), VIs (.pointer (some ⟨gs, 1, none⟩)), VIs (.int .i64 (sb : Nat)), VIs (.slice (some ⟨gs, 0, none⟩) 8 cs), VIs (.pointer (some ⟨gs, 2, none⟩)), VIs (.int .i64 (sc : Nat)), VIs (.int .i64 (z3 : Nat)), VIs (.int .i64 (mj : Nat)), VIs (.int .i64 (t2 : Nat)), VIs (.int .i64 ((t2) % 4294967296 : Nat)), VIs (.int .i64 (t2 % 4294967296 : Nat))].getD i fun _ _ => True) (stab_list _ ?_) ?_ ?_
                · intro V hV
                  simp only [List.mem_cons, List.mem_nil_iff, or_false] at hV
                  rcases hV with rfl | rfl | rfl | rfl | rfl | rfl | rfl | rfl | rfl | rfl | rfl | rfl | rfl | rfl | rfl | rfl | rfl | rfl | rfl | rfl | rfl | rfl | rfl | rfl | rfl | rfl | rfl | rfl | rfl | rfl <;> first | exact VIs.stab _ | exact VBytes.stab _ | exact VStr.stab _ | exact VParts.stab _ | exact VRow.stab _ | exact VRow8.stab _ _
                · intro i o ho a' w' hf hb hd
                  rcases i with _ | _ | _ | _ | _ | _ | _ | _ | _ | _ | _ | _ | _ | _ | _ | _ | _ | _ | _ | _ | _ | _ | _ | _ | _ | _ | _ | _ | _ | _ | i
                  · cases ho
                    refine grow_op rfl rfl rfl (grow_move rfl ?_)
                    exact (hf.same 12 (by decide)).trans rfl
                  · cases ho
                    refine grow_op rfl rfl rfl ?_
                    have e0 : a'.tmps.getD 116 undef = .int .i64 (sa : Nat) := hd 0 (by kernel_rfl)
                    refine grow_call ent_turn rfl ?_
                    simp only [List.map_toArray, List.map_cons, List.map_nil, Act.eval, e0]
                    exact turn_grew (HR2'.out w')
                  · cases ho
                    refine grow_op rfl rfl rfl (grow_move rfl ?_)
                    exact (hf.same 12 (by decide)).trans rfl
                  · cases ho
                    refine grow_op rfl rfl rfl ?_
                    have e2 : a'.tmps.getD 118 undef = .int .i64 (sa : Nat) := hd 2 (by kernel_rfl)
                    refine grow_call ent_turn rfl ?_
                    simp only [List.map_toArray, List.map_cons, List.map_nil, Act.eval, e2]
                    exact turn_grew (HR13.out w')
                  · cases ho
                    refine grow_op rfl rfl rfl ?_
                    have e1 : a'.tmps.getD 117 undef = .int .i64 (r2 : Nat) := hd 1 (by kernel_rfl)
                    have e3 : a'.tmps.getD 119 undef = .int .i64 (r13 : Nat) := hd 3 (by kernel_rfl)
                    refine grow_value (v := .int .i64 (v1' : Nat)) (w' := w') ?_ rfl (Below.refl _ _)
                    simp only [execOp, Act.eval, e1, e3]
                    go_simp
                  · cases ho
                    refine grow_op rfl rfl rfl (grow_move rfl ?_)
                    exact (hf.same 12 (by decide)).trans rfl
                  · cases ho
                    refine grow_op rfl rfl rfl ?_
                    have e5 : a'.tmps.getD 121 undef = .int .i64 (sa : Nat) := hd 5 (by kernel_rfl)
                    refine grow_call ent_turn rfl ?_
                    simp only [List.map_toArray, List.map_cons, List.map_nil, Act.eval, e5]
                    exact turn_grew (HR22.out w')
                  · cases ho
                    refine grow_op rfl rfl rfl ?_
                    have e4 : a'.tmps.getD 120 undef = .int .i64 (v1' : Nat) := hd 4 (by kernel_rfl)
                    have e6 : a'.tmps.getD 122 undef = .int .i64 (r22 : Nat) := hd 6 (by kernel_rfl)
                    refine grow_value (v := .int .i64 (v2' : Nat)) (w' := w') ?_ rfl (Below.refl _ _)
                    simp only [execOp, Act.eval, e4, e6]
                    go_simp
                  · cases ho
                    refine grow_op rfl rfl rfl (grow_move rfl ?_)
                    exact (hf.same 12 (by decide)).trans rfl
                  · cases ho
                    refine grow_op rfl rfl rfl (grow_move rfl ?_)
                    exact (hf.same 9 (by decide)).trans rfl
                  · cases ho
                    refine grow_op rfl rfl rfl ?_
                    have e9 : a'.tmps.getD 125 undef = .slice (some ⟨gs, 0, none⟩) 8 cs := hd 9 (by kernel_rfl)
                    refine grow_value (v := .pointer (some ⟨gs, 1, none⟩)) (w' := w') ?_ rfl (Below.refl _ _)
                    simp only [execOp, Act.eval, e9]
                    go_simp
                  · cases ho
                    refine grow_op rfl rfl rfl ?_
                    have e10 : a'.tmps.getD 126 undef = .pointer (some ⟨gs, 1, none⟩) := hd 10 (by kernel_rfl)
                    have hc := cell_now hb d1
                    refine grow_value (v := .int .i64 (sb : Nat)) (w' := w') ?_ rfl (Below.refl _ _)
                    simp only [execOp, Act.eval, e10]
                    go_simp
                  · cases ho
                    refine grow_op rfl rfl rfl ?_
                    have e8 : a'.tmps.getD 124 undef = .int .i64 (sa : Nat) := hd 8 (by kernel_rfl)
                    have e11 : a'.tmps.getD 127 undef = .int .i64 (sb : Nat) := hd 11 (by kernel_rfl)
                    refine grow_value (v := .int .i64 (z1 : Nat)) (w' := w') ?_ rfl (Below.refl _ _)
                    simp only [execOp, Act.eval, e8, e11]
                    go_simp
                  · cases ho
                    refine grow_op rfl rfl rfl (grow_move rfl ?_)
                    exact (hf.same 12 (by decide)).trans rfl
                  · cases ho
                    refine grow_op rfl rfl rfl (grow_move rfl ?_)
                    exact (hf.same 9 (by decide)).trans rfl
                  · cases ho
                    refine grow_op rfl rfl rfl ?_
                    have e14 : a'.tmps.getD 130 undef = .slice (some ⟨gs, 0, none⟩) 8 cs := hd 14 (by kernel_rfl)
                    refine grow_value (v := .pointer (some ⟨gs, 2, none⟩)) (w' := w') ?_ rfl (Below.refl _ _)
                    simp only [execOp, Act.eval, e14]
                    go_simp
                  · cases ho
                    refine grow_op rfl rfl rfl ?_
                    have e15 : a'.tmps.getD 131 undef = .pointer (some ⟨gs, 2, none⟩) := hd 15 (by kernel_rfl)
                    have hc := cell_now hb d2
                    refine grow_value (v := .int .i64 (sc : Nat)) (w' := w') ?_ rfl (Below.refl _ _)
                    simp only [execOp, Act.eval, e15]
                    go_simp
                  · cases ho
                    refine grow_op rfl rfl rfl ?_
                    have e13 : a'.tmps.getD 129 undef = .int .i64 (sa : Nat) := hd 13 (by kernel_rfl)
                    have e16 : a'.tmps.getD 132 undef = .int .i64 (sc : Nat) := hd 16 (by kernel_rfl)
                    refine grow_value (v := .int .i64 (z2 : Nat)) (w' := w') ?_ rfl (Below.refl _ _)
                    simp only [execOp, Act.eval, e13, e16]
                    go_simp
                  · cases ho
                    refine grow_op rfl rfl rfl ?_
                    have e12 : a'.tmps.getD 128 undef = .int .i64 (z1 : Nat) := hd 12 (by kernel_rfl)
                    have e17 : a'.tmps.getD 133 undef = .int .i64 (z2 : Nat) := hd 17 (by kernel_rfl)
                    refine grow_value (v := .int .i64 (z4 : Nat)) (w' := w') ?_ rfl (Below.refl _ _)
                    simp only [execOp, Act.eval, e12, e17]
                    go_simp
                  · cases ho
                    refine grow_op rfl rfl rfl (grow_move rfl ?_)
                    exact (hf.same 9 (by decide)).trans rfl
                  · cases ho
                    refine grow_op rfl rfl rfl ?_
                    have e19 : a'.tmps.getD 135 undef = .slice (some ⟨gs, 0, none⟩) 8 cs := hd 19 (by kernel_rfl)
                    refine grow_value (v := .pointer (some ⟨gs, 1, none⟩)) (w' := w') ?_ rfl (Below.refl _ _)
                    simp only [execOp, Act.eval, e19]
                    go_simp
                  · cases ho
                    refine grow_op rfl rfl rfl ?_
                    have e20 : a'.tmps.getD 136 undef = .pointer (some ⟨gs, 1, none⟩) := hd 20 (by kernel_rfl)
                    have hc := cell_now hb d1
                    refine grow_value (v := .int .i64 (sb : Nat)) (w' := w') ?_ rfl (Below.refl _ _)
                    simp only [execOp, Act.eval, e20]
                    go_simp
                  · cases ho
                    refine grow_op rfl rfl rfl (grow_move rfl ?_)
                    exact (hf.same 9 (by decide)).trans rfl
                  · cases ho
                    refine grow_op rfl rfl rfl ?_
                    have e22 : a'.tmps.getD 138 undef = .slice (some ⟨gs, 0, none⟩) 8 cs := hd 22 (by kernel_rfl)
                    refine grow_value (v := .pointer (some ⟨gs, 2, none⟩)) (w' := w') ?_ rfl (Below.refl _ _)
                    simp only [execOp, Act.eval, e22]
                    go_simp
                  · cases ho
                    refine grow_op rfl rfl rfl ?_
                    have e23 : a'.tmps.getD 139 undef = .pointer (some ⟨gs, 2, none⟩) := hd 23 (by kernel_rfl)
                    have hc := cell_now hb d2
                    refine grow_value (v := .int .i64 (sc : Nat)) (w' := w') ?_ rfl (Below.refl _ _)
                    simp only [execOp, Act.eval, e23]
                    go_simp
                  · cases ho
                    refine grow_op rfl rfl rfl ?_
                    have e21 : a'.tmps.getD 137 undef = .int .i64 (sb : Nat) := hd 21 (by kernel_rfl)
                    have e24 : a'.tmps.getD 140 undef = .int .i64 (sc : Nat) := hd 24 (by kernel_rfl)
                    refine grow_value (v := .int .i64 (z3 : Nat)) (w' := w') ?_ rfl (Below.refl _ _)
                    simp only [execOp, Act.eval, e21, e24]
                    go_simp
                  · cases ho
                    refine grow_op rfl rfl rfl ?_
                    have e18 : a'.tmps.getD 134 undef = .int .i64 (z4 : Nat) := hd 18 (by kernel_rfl)
                    have e25 : a'.tmps.getD 141 undef = .int .i64 (z3 : Nat) := hd 25 (by kernel_rfl)
                    refine grow_value (v := .int .i64 (mj : Nat)) (w' := w') ?_ rfl (Below.refl _ _)
                    simp only [execOp, Act.eval, e18, e25]
                    go_simp
                  · cases ho
                    refine grow_op rfl rfl rfl ?_
                    have e7 : a'.tmps.getD 123 undef = .int .i64 (v2' : Nat) := hd 7 (by kernel_rfl)
                    have e26 : a'.tmps.getD 142 undef = .int .i64 (mj : Nat) := hd 26 (by kernel_rfl)
                    refine grow_value (v := .int .i64 (t2 : Nat)) (w' := w') ?_ rfl (Below.refl _ _)
                    simp only [execOp, Act.eval, e7, e26]
                    go_simp
                  · cases ho
                    refine grow_op rfl rfl rfl ?_
                    have e : a'.tmps.getD 143 undef = .int .i64 (t2 : Nat) := hd 27 (by kernel_rfl)
                    refine grow_call ent_top rfl ?_
                    simp only [List.map_toArray, List.map_cons, List.map_nil, Act.eval, e]
                    exact (top_any (t2) w' HBT2.out).mono (fun e w'' ⟨h1, h2⟩ => ⟨_, h1, rfl, by rw [h2]; exact Below.refl _ _⟩)
                  · cases ho
                    refine grow_op rfl rfl rfl (grow_assign rfl ?_)
                    exact hd 28 (by kernel_rfl)
                  · simp at ho
                · intro a' w' hf hb hd
                  obtain rfl := hf.eq [Value.int IntKind.i64 (sa : Nat), Value.int IntKind.i64 (r2 : Nat), Value.int IntKind.i64 (sa : Nat), Value.int IntKind.i64 (r13 : Nat), Value.int IntKind.i64 (v1' : Nat), Value.int IntKind.i64 (sa : Nat), Value.int IntKind.i64 (r22 : Nat), Value.int IntKind.i64 (v2' : Nat), Value.int IntKind.i64 (sa : Nat), Value.slice (some ⟨gs, 0, none⟩) 8 cs, Value.pointer (some ⟨gs, 1, none⟩), Value.int IntKind.i64 (sb : Nat), Value.int IntKind.i64 (z1 : Nat), Value.int IntKind.i64 (sa : Nat), Value.slice (some ⟨gs, 0, none⟩) 8 cs, Value.pointer (some ⟨gs, 2, none⟩), Value.int IntKind.i64 (sc : Nat), Value.int IntKind.i64 (z2 : Nat), Value.int IntKind.i64 (z4 : Nat), Value.slice (some ⟨gs, 0, none⟩) 8 cs, Value.pointer (some ⟨gs, 1, none⟩), Value.int IntKind.i64 (sb : Nat), Value.slice (some ⟨gs, 0, none⟩) 8 cs, Value.pointer (some ⟨gs, 2, none⟩), Value.int IntKind.i64 (sc : Nat), Value.int IntKind.i64 (z3 : Nat), Value.int IntKind.i64 (mj : Nat), Value.int IntKind.i64 (t2 : Nat), Value.int IntKind.i64 ((t2) % 4294967296 : Nat), Value.int IntKind.i64 (t2 % 4294967296 : Nat)] (fun j hj => match j, hj with
                    | 0, _ => hd 0 (by decide)
                    | 1, _ => hd 1 (by decide)
                    | 2, _ => hd 2 (by decide)
                    | 3, _ => hd 3 (by decide)
                    | 4, _ => hd 4 (by decide)
                    | 5, _ => hd 5 (by decide)
                    | 6, _ => hd 6 (by decide)
                    | 7, _ => hd 7 (by decide)
                    | 8, _ => hd 8 (by decide)
                    | 9, _ => hd 9 (by decide)
                    | 10, _ => hd 10 (by decide)
                    | 11, _ => hd 11 (by decide)
                    | 12, _ => hd 12 (by decide)
                    | 13, _ => hd 13 (by decide)
                    | 14, _ => hd 14 (by decide)
                    | 15, _ => hd 15 (by decide)
                    | 16, _ => hd 16 (by decide)
                    | 17, _ => hd 17 (by decide)
                    | 18, _ => hd 18 (by decide)
                    | 19, _ => hd 19 (by decide)
                    | 20, _ => hd 20 (by decide)
                    | 21, _ => hd 21 (by decide)
                    | 22, _ => hd 22 (by decide)
                    | 23, _ => hd 23 (by decide)
                    | 24, _ => hd 24 (by decide)
                    | 25, _ => hd 25 (by decide)
                    | 26, _ => hd 26 (by decide)
                    | 27, _ => hd 27 (by decide)
                    | 28, _ => hd 28 (by decide)
                    | 29, _ => hd 29 (by decide)
                    | k + 30, h => absurd h (by simp)) (by decide) (by kernel_rfl) rfl
                  simp only [List.zip_cons_cons, List.zip_nil_right, List.foldl_cons, List.foldl_nil, Act.put, List.setIfInBounds_toArray, List.set_cons_succ, List.set_cons_zero]

                  have hbA := HBA.out.trans (hb.mono HBA.out.size)
                  have c0 := cell_now hb d0
                  have c1 := cell_now hb d1
                  have c2 := cell_now hb d2
                  have c3 := cell_now hb d3
                  have c4 := cell_now hb d4
                  have c5 := cell_now hb d5
                  have c6 := cell_now hb d6
                  obtain ⟨x2, hx2⟩ : ∃ x, t2 % 4294967296 = x := ⟨_, rfl⟩
                  rw [hx2]
                  have hx2l : x2 < 4294967296 := by omega
                  have hem := HEM2.out
                  rw [hx2] at hem
                  have HX2 := Lib.hid hem
                  have HBA2 := Lib.hid hbA
                  have f1 : IntKind.i64.wrap ((x1 : Int) + (x2 : Int)) = ((x1 + x2 : Nat) : Int) := wr_nat (x1 + x2) (by omega)
                  have f2 : IntKind.i64.wrap ((sd : Int) + (x1 : Int)) = ((sd + x1 : Nat) : Int) := wr_nat (sd + x1) (by omega)
                  clear hb hf hd hbA d0 d1 d2 d3 d4 d5 d6 g1 g2 g3 g4 g5 g6 g7 g8 HR2' HR13 HR22 HBT2 HEM2 hx2 hem HBA
                  obtain ⟨wB, hwB⟩ : ∃ x, w' = x := ⟨_, rfl⟩
                  rw [hwB] at c0 c1 c2 c3 c4 c5 c6 HBA2 ⊢
                  clear hwB
                  have hghs : gh + 1 ≤ wB.heap.size := by
                    have h1 := (Array.getElem?_eq_some_iff.1 HH2.out).1
                    have h2 := HBA2.out.size
                    omega
                  go_upto_region 21 with (fail)
                  refine wp_region_grow_tail 29 (by kernel_rfl) (by kernel_rfl) (by decide) (by kernel_rfl) [145, 146, 147, 148, 149, 150, 151, 152, 153, 154, 155, 156, 157, 158, 159, 160, 161, 162, 163, 164, 165, 166, 167, 168, 169, 170, 171, 172, 173] rfl (by decide) (by kernel_rfl) (fun i => [VIs (.int .i64 (x1 : Nat)), VIs (.int .i64 (x2 : Nat)), VIs (.int .i64 (x1 + x2 : Nat)), VIs (.int .i64 ((x1 + x2) % 4294967296 : Nat)), VIs (.slice (some ⟨gs, 0, none⟩) 8 cs), VIs (.pointer (some ⟨gs, 0, none⟩)), VIs (.int .i64 (sa : Nat)), VIs (.slice (some ⟨gs, 0, none⟩) 8 cs), VIs (.pointer (some ⟨gs, 1, none⟩)), VIs (.int .i64 (sb : Nat)), VIs (.slice (some ⟨gs, 0, none⟩) 8 cs), VIs (.pointer (some ⟨gs, 2, none⟩)), VIs (.int .i64 (sc : Nat)), VIs (.slice (some ⟨gs, 0, none⟩) 8 cs), VIs (.pointer (some ⟨gs, 3, none⟩)), VIs (.int .i64 (sd : Nat)), VIs (.int .i64 (x1 : Nat)), VIs (.int .i64 (sd + x1 : Nat)), VIs (.int .i64 ((sd + x1) % 4294967296 : Nat)), VIs (.slice (some ⟨gs, 0, none⟩) 8 cs), VIs (.pointer (some ⟨gs, 4, none⟩)), VIs (.int .i64 (se : Nat)), VIs (.slice (some ⟨gs, 0, none⟩) 8 cs), VIs (.pointer (some ⟨gs, 5, none⟩)), VIs (.int .i64 (sf : Nat)), VIs (.slice (some ⟨gs, 0, none⟩) 8 cs), VIs (.pointer (some ⟨gs, 6, none⟩)), VIs (.int .i64 (sg : Nat)), VRow8 (gh + 1) [(x1 + x2) % 4294967296, sa, sb, sc, (sd + x1) % 4294967296, se, sf, sg]].getD i fun _ _ => True) (stab_list _ ?_) ?_ ?_
                  · intro V hV
                    simp only [List.mem_cons, List.mem_nil_iff, or_false] at hV
                    rcases hV with rfl | rfl | rfl | rfl | rfl | rfl | rfl | rfl | rfl | rfl | rfl | rfl | rfl | rfl | rfl | rfl | rfl | rfl | rfl | rfl | rfl | rfl | rfl | rfl | rfl | rfl | rfl | rfl | rfl <;> first | exact VIs.stab _ | exact VBytes.stab _ | exact VStr.stab _ | exact VParts.stab _ | exact VRow.stab _ | exact VRow8.stab _ _
                  · intro i o ho a' w' hf hb hd
                    rcases i with _ | _ | _ | _ | _ | _ | _ | _ | _ | _ | _ | _ | _ | _ | _ | _ | _ | _ | _ | _ | _ | _ | _ | _ | _ | _ | _ | _ | _ | i
                    · cases ho
                      refine grow_op rfl rfl rfl (grow_move rfl ?_)
                      exact (hf.same 13 (by decide)).trans rfl
                    · cases ho
                      refine grow_op rfl rfl rfl (grow_move rfl ?_)
                      exact (hf.same 14 (by decide)).trans rfl
                    · cases ho
                      refine grow_op rfl rfl rfl ?_
                      have e0 : a'.tmps.getD 145 undef = .int .i64 (x1 : Nat) := hd 0 (by kernel_rfl)
                      have e1 : a'.tmps.getD 146 undef = .int .i64 (x2 : Nat) := hd 1 (by kernel_rfl)
                      refine grow_value (v := .int .i64 (x1 + x2 : Nat)) (w' := w') ?_ rfl (Below.refl _ _)
                      simp only [execOp, Act.eval, e0, e1]
                      go_simp
                    · cases ho
                      refine grow_op rfl rfl rfl ?_
                      have e : a'.tmps.getD 147 undef = .int .i64 (x1 + x2 : Nat) := hd 2 (by kernel_rfl)
                      refine grow_call ent_top rfl ?_
                      simp only [List.map_toArray, List.map_cons, List.map_nil, Act.eval, e]
                      exact (top_any (x1 + x2) w' (by omega)).mono (fun e w'' ⟨h1, h2⟩ => ⟨_, h1, rfl, by rw [h2]; exact Below.refl _ _⟩)
                    · cases ho
                      refine grow_op rfl rfl rfl (grow_move rfl ?_)
                      exact (hf.same 9 (by decide)).trans rfl
                    · cases ho
                      refine grow_op rfl rfl rfl ?_
                      have e4 : a'.tmps.getD 149 undef = .slice (some ⟨gs, 0, none⟩) 8 cs := hd 4 (by kernel_rfl)
                      refine grow_value (v := .pointer (some ⟨gs, 0, none⟩)) (w' := w') ?_ rfl (Below.refl _ _)
                      simp only [execOp, Act.eval, e4]
                      go_simp
                    · cases ho
                      refine grow_op rfl rfl rfl ?_
                      have e5 : a'.tmps.getD 150 undef = .pointer (some ⟨gs, 0, none⟩) := hd 5 (by kernel_rfl)
                      have hc := cell_now hb c0
                      refine grow_value (v := .int .i64 (sa : Nat)) (w' := w') ?_ rfl (Below.refl _ _)
                      simp only [execOp, Act.eval, e5]
                      go_simp
                    · cases ho
                      refine grow_op rfl rfl rfl (grow_move rfl ?_)
                      exact (hf.same 9 (by decide)).trans rfl
                    · cases ho
                      refine grow_op rfl rfl rfl ?_
                      have e7 : a'.tmps.getD 152 undef = .slice (some ⟨gs, 0, none⟩) 8 cs := hd 7 (by kernel_rfl)
                      refine grow_value (v := .pointer (some ⟨gs, 1, none⟩)) (w' := w') ?_ rfl (Below.refl _ _)
                      simp only [execOp, Act.eval, e7]
                      go_simp
                    · cases ho
                      refine grow_op rfl rfl rfl ?_
                      have e8 : a'.tmps.getD 153 undef = .pointer (some ⟨gs, 1, none⟩) := hd 8 (by kernel_rfl)
                      have hc := cell_now hb c1
                      refine grow_value (v := .int .i64 (sb : Nat)) (w' := w') ?_ rfl (Below.refl _ _)
                      simp only [execOp, Act.eval, e8]
                      go_simp
                    · cases ho
                      refine grow_op rfl rfl rfl (grow_move rfl ?_)
                      exact (hf.same 9 (by decide)).trans rfl
                    · cases ho
                      refine grow_op rfl rfl rfl ?_
                      have e10 : a'.tmps.getD 155 undef = .slice (some ⟨gs, 0, none⟩) 8 cs := hd 10 (by kernel_rfl)
                      refine grow_value (v := .pointer (some ⟨gs, 2, none⟩)) (w' := w') ?_ rfl (Below.refl _ _)
                      simp only [execOp, Act.eval, e10]
                      go_simp
                    · cases ho
                      refine grow_op rfl rfl rfl ?_
                      have e11 : a'.tmps.getD 156 undef = .pointer (some ⟨gs, 2, none⟩) := hd 11 (by kernel_rfl)
                      have hc := cell_now hb c2
                      refine grow_value (v := .int .i64 (sc : Nat)) (w' := w') ?_ rfl (Below.refl _ _)
                      simp only [execOp, Act.eval, e11]
                      go_simp
                    · cases ho
                      refine grow_op rfl rfl rfl (grow_move rfl ?_)
                      exact (hf.same 9 (by decide)).trans rfl
                    · cases ho
                      refine grow_op rfl rfl rfl ?_
                      have e13 : a'.tmps.getD 158 undef = .slice (some ⟨gs, 0, none⟩) 8 cs := hd 13 (by kernel_rfl)
                      refine grow_value (v := .pointer (some ⟨gs, 3, none⟩)) (w' := w') ?_ rfl (Below.refl _ _)
                      simp only [execOp, Act.eval, e13]
                      go_simp
                    · cases ho
                      refine grow_op rfl rfl rfl ?_
                      have e14 : a'.tmps.getD 159 undef = .pointer (some ⟨gs, 3, none⟩) := hd 14 (by kernel_rfl)
                      have hc := cell_now hb c3
                      refine grow_value (v := .int .i64 (sd : Nat)) (w' := w') ?_ rfl (Below.refl _ _)
                      simp only [execOp, Act.eval, e14]
                      go_simp
                    · cases ho
                      refine grow_op rfl rfl rfl (grow_move rfl ?_)
                      exact (hf.same 13 (by decide)).trans rfl
                    · cases ho
                      refine grow_op rfl rfl rfl ?_
                      have e15 : a'.tmps.getD 160 undef = .int .i64 (sd : Nat) := hd 15 (by kernel_rfl)
                      have e16 : a'.tmps.getD 161 undef = .int .i64 (x1 : Nat) := hd 16 (by kernel_rfl)
                      refine grow_value (v := .int .i64 (sd + x1 : Nat)) (w' := w') ?_ rfl (Below.refl _ _)
                      simp only [execOp, Act.eval, e15, e16]
                      go_simp
                    · cases ho
                      refine grow_op rfl rfl rfl ?_
                      have e : a'.tmps.getD 162 undef = .int .i64 (sd + x1 : Nat) := hd 17 (by kernel_rfl)
                      refine grow_call ent_top rfl ?_
                      simp only [List.map_toArray, List.map_cons, List.map_nil, Act.eval, e]
                      exact (top_any (sd + x1) w' (by omega)).mono (fun e w'' ⟨h1, h2⟩ => ⟨_, h1, rfl, by rw [h2]; exact Below.refl _ _⟩)
                    · cases ho
                      refine grow_op rfl rfl rfl (grow_move rfl ?_)
                      exact (hf.same 9 (by decide)).trans rfl
                    · cases ho
                      refine grow_op rfl rfl rfl ?_
                      have e19 : a'.tmps.getD 164 undef = .slice (some ⟨gs, 0, none⟩) 8 cs := hd 19 (by kernel_rfl)
                      refine grow_value (v := .pointer (some ⟨gs, 4, none⟩)) (w' := w') ?_ rfl (Below.refl _ _)
                      simp only [execOp, Act.eval, e19]
                      go_simp
                    · cases ho
                      refine grow_op rfl rfl rfl ?_
                      have e20 : a'.tmps.getD 165 undef = .pointer (some ⟨gs, 4, none⟩) := hd 20 (by kernel_rfl)
                      have hc := cell_now hb c4
                      refine grow_value (v := .int .i64 (se : Nat)) (w' := w') ?_ rfl (Below.refl _ _)
                      simp only [execOp, Act.eval, e20]
                      go_simp
                    · cases ho
                      refine grow_op rfl rfl rfl (grow_move rfl ?_)
                      exact (hf.same 9 (by decide)).trans rfl
                    · cases ho
                      refine grow_op rfl rfl rfl ?_
                      have e22 : a'.tmps.getD 167 undef = .slice (some ⟨gs, 0, none⟩) 8 cs := hd 22 (by kernel_rfl)
                      refine grow_value (v := .pointer (some ⟨gs, 5, none⟩)) (w' := w') ?_ rfl (Below.refl _ _)
                      simp only [execOp, Act.eval, e22]
                      go_simp
                    · cases ho
                      refine grow_op rfl rfl rfl ?_
                      have e23 : a'.tmps.getD 168 undef = .pointer (some ⟨gs, 5, none⟩) := hd 23 (by kernel_rfl)
                      have hc := cell_now hb c5
                      refine grow_value (v := .int .i64 (sf : Nat)) (w' := w') ?_ rfl (Below.refl _ _)
                      simp only [execOp, Act.eval, e23]
                      go_simp
                    · cases ho
                      refine grow_op rfl rfl rfl (grow_move rfl ?_)
                      exact (hf.same 9 (by decide)).trans rfl
                    · cases ho
                      refine grow_op rfl rfl rfl ?_
                      have e25 : a'.tmps.getD 170 undef = .slice (some ⟨gs, 0, none⟩) 8 cs := hd 25 (by kernel_rfl)
                      refine grow_value (v := .pointer (some ⟨gs, 6, none⟩)) (w' := w') ?_ rfl (Below.refl _ _)
                      simp only [execOp, Act.eval, e25]
                      go_simp
                    · cases ho
                      refine grow_op rfl rfl rfl ?_
                      have e26 : a'.tmps.getD 171 undef = .pointer (some ⟨gs, 6, none⟩) := hd 26 (by kernel_rfl)
                      have hc := cell_now hb c6
                      refine grow_value (v := .int .i64 (sg : Nat)) (w' := w') ?_ rfl (Below.refl _ _)
                      simp only [execOp, Act.eval, e26]
                      go_simp
                    · cases ho
                      refine grow_op rfl rfl rfl ?_
                      exact grow_row8 (Nat.le_trans hghs hb.size) rfl (hd 3 (by kernel_rfl)) (hd 6 (by kernel_rfl)) (hd 9 (by kernel_rfl)) (hd 12 (by kernel_rfl)) (hd 18 (by kernel_rfl)) (hd 21 (by kernel_rfl)) (hd 24 (by kernel_rfl)) (hd 27 (by kernel_rfl))
                    · simp at ho
                  · intro a' w' hf hb hd

                    obtain ⟨gn, hv173, hgn, hrow⟩ : VRow8 _ _ (a'.tmps.getD 173 undef) w' := hd 28 (by decide)
                    obtain rfl := hf.eq [Value.int IntKind.i64 (x1 : Nat), Value.int IntKind.i64 (x2 : Nat), Value.int IntKind.i64 (x1 + x2 : Nat), Value.int IntKind.i64 ((x1 + x2) % 4294967296 : Nat), Value.slice (some ⟨gs, 0, none⟩) 8 cs, Value.pointer (some ⟨gs, 0, none⟩), Value.int IntKind.i64 (sa : Nat), Value.slice (some ⟨gs, 0, none⟩) 8 cs, Value.pointer (some ⟨gs, 1, none⟩), Value.int IntKind.i64 (sb : Nat), Value.slice (some ⟨gs, 0, none⟩) 8 cs, Value.pointer (some ⟨gs, 2, none⟩), Value.int IntKind.i64 (sc : Nat), Value.slice (some ⟨gs, 0, none⟩) 8 cs, Value.pointer (some ⟨gs, 3, none⟩), Value.int IntKind.i64 (sd : Nat), Value.int IntKind.i64 (x1 : Nat), Value.int IntKind.i64 (sd + x1 : Nat), Value.int IntKind.i64 ((sd + x1) % 4294967296 : Nat), Value.slice (some ⟨gs, 0, none⟩) 8 cs, Value.pointer (some ⟨gs, 4, none⟩), Value.int IntKind.i64 (se : Nat), Value.slice (some ⟨gs, 0, none⟩) 8 cs, Value.pointer (some ⟨gs, 5, none⟩), Value.int IntKind.i64 (sf : Nat), Value.slice (some ⟨gs, 0, none⟩) 8 cs, Value.pointer (some ⟨gs, 6, none⟩), Value.int IntKind.i64 (sg : Nat), Value.slice (some ⟨gn, 0, none⟩) 8 8] (fun j hj => match j, hj with
                      | 0, _ => hd 0 (by decide)
                      | 1, _ => hd 1 (by decide)
                      | 2, _ => hd 2 (by decide)
                      | 3, _ => hd 3 (by decide)
                      | 4, _ => hd 4 (by decide)
                      | 5, _ => hd 5 (by decide)
                      | 6, _ => hd 6 (by decide)
                      | 7, _ => hd 7 (by decide)
                      | 8, _ => hd 8 (by decide)
                      | 9, _ => hd 9 (by decide)
                      | 10, _ => hd 10 (by decide)
                      | 11, _ => hd 11 (by decide)
                      | 12, _ => hd 12 (by decide)
                      | 13, _ => hd 13 (by decide)
                      | 14, _ => hd 14 (by decide)
                      | 15, _ => hd 15 (by decide)
                      | 16, _ => hd 16 (by decide)
                      | 17, _ => hd 17 (by decide)
                      | 18, _ => hd 18 (by decide)
                      | 19, _ => hd 19 (by decide)
                      | 20, _ => hd 20 (by decide)
                      | 21, _ => hd 21 (by decide)
                      | 22, _ => hd 22 (by decide)
                      | 23, _ => hd 23 (by decide)
                      | 24, _ => hd 24 (by decide)
                      | 25, _ => hd 25 (by decide)
                      | 26, _ => hd 26 (by decide)
                      | 27, _ => hd 27 (by decide)
                      | 28, _ => hv173
                      | k + 29, h => absurd h (by simp)) (by decide) (by kernel_rfl) rfl
                    simp only [List.zip_cons_cons, List.zip_nil_right, List.foldl_cons, List.foldl_nil, Act.put, List.setIfInBounds_toArray, List.set_cons_succ, List.set_cons_zero]

                    have hbB := HBA2.out.trans (hb.mono HBA2.out.size)
                    have hrow2 : RowI w' gn (rnds ws st (t + 1)) := by
                      rw [HRN.out]
                      simp only [rnd]
                      rw [← HX1.out, ← HX2.out]
                      exact hrow
                    have HROW := Lib.hid hrow2
                    have HBB := Lib.hid hbB
                    clear hb hf hd hbB c0 c1 c2 c3 c4 c5 c6 f1 f2 HX1 HX2 hrow hrow2 hv173 HBA2
                    obtain ⟨wC, hwC⟩ : ∃ x, w' = x := ⟨_, rfl⟩
                    rw [hwC] at HROW HBB ⊢
                    clear hwC
                    have hti : IntKind.i64.wrap ((t : Int) + 1) = (t : Int) + 1 := IntWalk.i64_in _ (by omega)
                    go_wp2_with fail
                    go_roundg (gk - 1)
                    case measure => omega
                    case rel => exact ⟨t + 1, gn, 8, by go_num, rfl, by omega, by omega, HROW, HBB⟩
            · obtain rfl : t = 64 := by omega
              have hR8 := rnds_st8 ws hst8 64
              have hstep := HST.out
              have hrow := HS.out
              obtain ⟨R, hRe⟩ : ∃ R, rnds ws st 64 = R := ⟨_, rfl⟩
              rw [hRe] at hR8 hstep hrow
              rw [← mix_comm R st hR8 hst8] at hstep
              have HSTEP := Lib.hid hstep
              have HROW := Lib.hid hrow
              have hh3 := block_below HH2.out HB.out
              rw [← mix_zero st R] at hh3
              have HH3 := Lib.hid hh3
              clear hRe hstep hrow hh3 HST HS
              go_wp2_with fail
              obtain ⟨w3, hw3⟩ : ∃ w3, wr = w3 := ⟨_, rfl⟩
              go_loopg [15] 8 (fun k y wr => ∃ q : Nat, y = .int .i64 q ∧ q + k = 8 ∧ Hid (wr.heap[gh]? = some (.cells (ints (mix st R q)).toArray 3 (0, 0))) ∧ Hid (Keeps (fun k => k = gh) w3 wr))
              case atStart => exact ⟨0, rfl, rfl, HH3, Lib.hid (by rw [hw3]; exact Keeps.refl _ _)⟩
              case round =>
                rw [hw3] at HROW HB
                clear HH3 hw3
                obtain ⟨q, rfl, hq, HHq, HK3⟩ := hrel
                by_cases hq8 : q < 8
                · obtain ⟨x, y, m1, m2, hx, hy, m3⟩ := mix_step' R st hR8 hst8 q hq8
                  have ch : wr.cell? ⟨gh, q, none⟩ = some (.int .i64 (x : Nat)) := by
                    rw [Lib.cell_of_heap HHq.out]
                    simp [ints, m1]
                  have chf : wr.frozen? ⟨gh, q, none⟩ = false := Lib.frozen_of_heap HHq.out q
                  have cs' : wr.cell? ⟨gs, q, none⟩ = some (.int .i64 (y : Nat)) := by
                    have hlt : q < R.length := (List.getElem?_eq_some_iff.1 m2).1
                    have h1 := HROW.out q hlt
                    have e : R[q] = y := by rw [List.getElem?_eq_getElem hlt] at m2; simpa using m2
                    rw [e] at h1
                    have hb := World.block_lt_of_cell? _ _ h1
                    have h2 := World.cell?_of_block (w := w3) (w' := wr) (a := ⟨gs, q, none⟩) (HK3.out.block gs hb (by omega))
                    rw [h2]
                    exact h1
                  have hsum : IntKind.i64.wrap ((x : Int) + (y : Int)) = ((x + y : Nat) : Int) := wr_nat (x + y) (by omega)
                  obtain ⟨sm, hsm⟩ : ∃ z, x + y = z := ⟨_, rfl⟩
                  rw [hsm] at hsum m3
                  have HTOP := Lib.hid (fun w' : World => top_any sm w' (by omega))
                  obtain ⟨z, hz⟩ : ∃ z, sm % 4294967296 = z := ⟨_, rfl⟩
                  rw [hz] at HTOP m3
                  have HM3 := Lib.hid m3
                  have tn : ((q : Int)).toNat = q := by omega
                  have t0 : 0 ≤ (q : Int) := by omega
                  have t8 : (q : Int) < 8 := by omega
                  clear m1 m2 m3 hsm hz
                  go_upto_region 25 with (fail)
                  refine wp_region_still_tail 12 (by kernel_rfl) (by kernel_rfl) ?_
                  simp only [List.take_succ_cons, List.take_zero, List.drop_succ_cons, List.drop_zero]
                  repeat (refine wpStill_step (fun K hK => ?_); go_simp; (first | (with_reducible refine hK _ ?_) | (with_reducible refine ⟨_, HTOP.out _, hK _ ?_⟩)); clear hK K)
                  refine wpStill_nil ?_
                  change wpList _ _ _ _ _ wr.drew
                  have ch2 : wr.drew.cell? ⟨gh, q, none⟩ = some (.int .i64 (x : Nat)) := ch
                  have chf2 : wr.drew.frozen? ⟨gh, q, none⟩ = false := chf
                  have hhq2 : wr.drew.heap[gh]? = some (.cells (ints (mix st R q)).toArray 3 (0, 0)) := HHq.out
                  have hk3 := HK3.out.drew
                  have HHQ2 := Lib.hid hhq2
                  have HK32 := Lib.hid hk3
                  obtain ⟨wd, hwd⟩ : ∃ wd, wr.drew = wd := ⟨_, rfl⟩
                  rw [hwd] at ch2 chf2 HHQ2 HK32 ⊢
                  clear hwd ch chf cs' hhq2 hk3 hsum HHq HK3
                  go_wp2_with fail
                  go_roundg (gk - 1)
                  case measure => omega
                  case rel =>
                    refine ⟨q + 1, by go_num, by omega, Lib.hid ?_, Lib.hid (HK32.out.trans (Keeps.setCell (f := fun k => k = gh) _ _ _ rfl) (fun k _ h => h))⟩
                    rw [setCell_block HHQ2.out, HM3.out]
                    simp [ints, List.map_set]
                · obtain rfl : q = 8 := by omega
                  have hhj := HHq.out
                  rw [← HSTEP.out] at hhj
                  have hrj : Rd wr a5 PD := (HR2.out.below HB.out).keeps HK3.out (fun b off s e => by
                    have := HANE.out b off s e
                    omega)
                  have hkj : wr.heap[gy]? = some (.cells (ints kTab).toArray 3 (0, 0)) := by
                    have h1 := block_below HK2.out HB.out
                    rw [HK3.out.block gy (Array.getElem?_eq_some_iff.1 h1).1 (by omega)]
                    exact h1
                  have hbj : Below w.heap.size w wr := (HB2.out.trans (HB.out.mono HB2.out.size)).trans (HK3.out.below w.heap.size (Nat.le_trans HB2.out.size HB.out.size) (fun k hk e => by omega))
                  have HHJ := Lib.hid hhj
                  have HRJ := Lib.hid hrj
                  have HKJ := Lib.hid hkj
                  have HBJ := Lib.hid hbj
                  clear hhj hrj hkj hbj HHq HK3
                  have hi64 : IntKind.i64.wrap (64 * (j : Int) + 64) = 64 * (j : Int) + 64 := IntWalk.i64_in _ (by omega)
                  go_wp2_with fail
                  go_roundg (gO - 1)
                  case measure => omega
                  case rel => exact ⟨j + 1, by first | (congr 1; done) | (congr 1; omega), by omega, HRJ, HKJ, HHJ, HBJ⟩
        · obtain rfl : j = PD.length / 64 := by omega
          have hplm := HPL.out
          have hjI : ¬ 64 * ((PD.length / 64 : Nat) : Int) < (PD.length : Int) := by omega
          obtain ⟨J, hJ⟩ : ∃ x, PD.length / 64 = x := ⟨_, rfl⟩
          rw [hJ] at hjI hst
          have hfin : outB st = sha m := by rw [HSH.out, hJ, hst]
          have HFIN := Lib.hid hfin
          have h8l : st.length = 8 := hst8.1
          clear hfin hst hplm
          go_wp2_with fail
          go_loopg [17, 16] 8 (fun k y x wr => ∃ q qo co : Nat, ∃ ao : Option Addr, y = .int .i64 q ∧ x = .slice ao qo co ∧ q + k = 8 ∧ Hid (Tl w.heap.size wr (.slice ao qo co) (outB (st.take q))) ∧ Hid (wr.heap[gh]? = some (.cells (ints st).toArray 3 (0, 0))) ∧ Hid (Below w.heap.size w wr))
          case atStart => exact ⟨0, 0, 0, none, rfl, rfl, rfl, Lib.hid (Tl.nil _ _), HH, HB⟩
          case round =>
            clear HH HB HR HK
            obtain ⟨q, qo, co, ao, rfl, rfl, hq, HT, HH, HB⟩ := hrel
            by_cases hq8 : q < 8
            · obtain ⟨x, hx⟩ : ∃ x, st[q]? = some x := ⟨_, List.getElem?_eq_getElem (by omega)⟩
              have hxl : x < 4294967296 := hst8.2 x (List.mem_of_getElem? hx)
              have hout : outB (st.take (q + 1)) = outB (st.take q) ++ be32 x := by
                unfold outB
                rw [List.take_add_one, hx]
                simp
              have cx : wr.cell? ⟨gh, q, none⟩ = some (.int .i64 (x : Nat)) := by
                rw [Lib.cell_of_heap HH.out]
                simp [ints, hx]
              obtain ⟨y0, hy0⟩ : ∃ y, UInt8.ofNat (x / 16777216) = y := ⟨_, rfl⟩
              obtain ⟨y1, hy1⟩ : ∃ y, UInt8.ofNat (x / 65536) = y := ⟨_, rfl⟩
              obtain ⟨y2, hy2⟩ : ∃ y, UInt8.ofNat (x / 256) = y := ⟨_, rfl⟩
              obtain ⟨y3, hy3⟩ : ∃ y, UInt8.ofNat x = y := ⟨_, rfl⟩
              have k0 : IntKind.u8.wrap ((x : Int) / 16777216) = ((y0.toNat : Nat) : Int) := by rw [← hy0]; exact wrap_byte x 16777216
              have k1 : IntKind.u8.wrap ((x : Int) / 65536 % 256) = ((y1.toNat : Nat) : Int) := by rw [← hy1]; exact wrap_byteN x 65536
              have k2 : IntKind.u8.wrap ((x : Int) / 256 % 256) = ((y2.toNat : Nat) : Int) := by rw [← hy2]; exact wrap_byteN x 256
              have k3 : IntKind.u8.wrap ((x : Int) % 256) = ((y3.toNat : Nat) : Int) := by rw [← hy3]; exact wrap_byteN1 x
              have d1 : wrap64 ((x : Int) / 16777216) = (x : Int) / 16777216 := wrap64_in _ (by omega) (by omega)
              have d2 : wrap64 ((x : Int) / 65536) = (x : Int) / 65536 := wrap64_in _ (by omega) (by omega)
              have d3 : wrap64 ((x : Int) / 256) = (x : Int) / 256 := wrap64_in _ (by omega) (by omega)
              have e1 : IntKind.i64.wrap ((x : Int) / 16777216) = (x : Int) / 16777216 := IntWalk.i64_in _ (by omega)
              have e2 : IntKind.i64.wrap ((x : Int) / 65536) = (x : Int) / 65536 := IntWalk.i64_in _ (by omega)
              have e3 : IntKind.i64.wrap ((x : Int) / 256) = (x : Int) / 256 := IntWalk.i64_in _ (by omega)
              have u1 : ((x : Int) / 65536).tmod 256 = (x : Int) / 65536 % 256 := Int.tmod_eq_emod_of_nonneg (by omega)
              have u2 : ((x : Int) / 256).tmod 256 = (x : Int) / 256 % 256 := Int.tmod_eq_emod_of_nonneg (by omega)
              have u3 : ((x : Int)).tmod 256 = (x : Int) % 256 := Int.tmod_eq_emod_of_nonneg (by omega)
              have hbe : be32 x = [y0, y1, y2, y3] := by unfold be32; rw [hy0, hy1, hy2, hy3]
              rw [hbe] at hout
              have HOUT := Lib.hid hout
              have tn : ((q : Int)).toNat = q := by omega
              have t0 : 0 ≤ (q : Int) := by omega
              have t8 : (q : Int) < 8 := by omega
              have hol : (outB (st.take q)).length ≤ 32 := by rw [outB_len, List.length_take]; omega
              have HOL := Lib.hid hol
              clear hy0 hy1 hy2 hy3 hbe hout hx hol
              go_upto_region 30 with (fail)
              refine wp_region_grow_tail 28 (by kernel_rfl) (by kernel_rfl) (by decide) (by kernel_rfl) [195, 196, 197, 198, 199, 200, 201, 202, 203, 204, 205, 206, 207, 208, 209, 210, 211, 212, 213, 214, 215, 216, 217, 218, 219, 220, 221, 222] rfl (by decide) (by kernel_rfl) (fun i => [VIs (.slice ao qo co), VIs (.slice (some ⟨gh, 0, none⟩) 8 8), VIs (.int .i64 (q : Nat)), VIs (.pointer (some ⟨gh, q, none⟩)), VIs (.int .i64 (x : Nat)), VIs (.int .i64 ((x : Int) / 16777216)), VIs (.int .u8 (y0.toNat : Nat)), VIs (.slice (some ⟨gh, 0, none⟩) 8 8), VIs (.int .i64 (q : Nat)), VIs (.pointer (some ⟨gh, q, none⟩)), VIs (.int .i64 (x : Nat)), VIs (.int .i64 ((x : Int) / 65536)), VIs (.int .i64 ((x : Int) / 65536 % 256)), VIs (.int .u8 (y1.toNat : Nat)), VIs (.slice (some ⟨gh, 0, none⟩) 8 8), VIs (.int .i64 (q : Nat)), VIs (.pointer (some ⟨gh, q, none⟩)), VIs (.int .i64 (x : Nat)), VIs (.int .i64 ((x : Int) / 256)), VIs (.int .i64 ((x : Int) / 256 % 256)), VIs (.int .u8 (y2.toNat : Nat)), VIs (.slice (some ⟨gh, 0, none⟩) 8 8), VIs (.int .i64 (q : Nat)), VIs (.pointer (some ⟨gh, q, none⟩)), VIs (.int .i64 (x : Nat)), VIs (.int .i64 ((x : Int) % 256)), VIs (.int .u8 (y3.toNat : Nat)), VBytes [y0, y1, y2, y3]].getD i fun _ _ => True) (stab_list _ ?_) ?_ ?_
              · intro V hV
                simp only [List.mem_cons, List.mem_nil_iff, or_false] at hV
                rcases hV with rfl | rfl | rfl | rfl | rfl | rfl | rfl | rfl | rfl | rfl | rfl | rfl | rfl | rfl | rfl | rfl | rfl | rfl | rfl | rfl | rfl | rfl | rfl | rfl | rfl | rfl | rfl | rfl <;> first | exact VIs.stab _ | exact VBytes.stab _ | exact VStr.stab _ | exact VParts.stab _ | exact VRow.stab _ | exact VRow8.stab _ _
              · intro i o ho a' w' hf hb hd
                rcases i with _ | _ | _ | _ | _ | _ | _ | _ | _ | _ | _ | _ | _ | _ | _ | _ | _ | _ | _ | _ | _ | _ | _ | _ | _ | _ | _ | _ | i
                · cases ho
                  refine grow_op rfl rfl rfl (grow_move rfl ?_)
                  exact (hf.same 16 (by decide)).trans rfl
                · cases ho
                  refine grow_op rfl rfl rfl (grow_move rfl ?_)
                  exact (hf.same 6 (by decide)).trans rfl
                · cases ho
                  refine grow_op rfl rfl rfl (grow_move rfl ?_)
                  exact (hf.same 17 (by decide)).trans rfl
                · cases ho
                  refine grow_op rfl rfl rfl ?_
                  have e1 : a'.tmps.getD 196 undef = .slice (some ⟨gh, 0, none⟩) 8 8 := hd 1 (by kernel_rfl)
                  have e2 : a'.tmps.getD 197 undef = .int .i64 (q : Nat) := hd 2 (by kernel_rfl)
                  refine grow_value (v := .pointer (some ⟨gh, q, none⟩)) (w' := w') ?_ rfl (Below.refl _ _)
                  simp only [execOp, Act.eval, e1, e2]
                  go_simp
                · cases ho
                  refine grow_op rfl rfl rfl ?_
                  have e3 : a'.tmps.getD 198 undef = .pointer (some ⟨gh, q, none⟩) := hd 3 (by kernel_rfl)
                  have hc := cell_now hb cx
                  refine grow_value (v := .int .i64 (x : Nat)) (w' := w') ?_ rfl (Below.refl _ _)
                  simp only [execOp, Act.eval, e3]
                  go_simp
                · cases ho
                  refine grow_op rfl rfl rfl ?_
                  have e4 : a'.tmps.getD 199 undef = .int .i64 (x : Nat) := hd 4 (by kernel_rfl)
                  refine grow_value (v := .int .i64 ((x : Int) / 16777216)) (w' := w') ?_ rfl (Below.refl _ _)
                  simp only [execOp, Act.eval, e4]
                  go_simp
                · cases ho
                  refine grow_op rfl rfl rfl ?_
                  have e5 : a'.tmps.getD 200 undef = .int .i64 ((x : Int) / 16777216) := hd 5 (by kernel_rfl)
                  refine grow_value (v := .int .u8 (y0.toNat : Nat)) (w' := w') ?_ rfl (Below.refl _ _)
                  simp only [execOp, Act.eval, e5]
                  go_simp
                · cases ho
                  refine grow_op rfl rfl rfl (grow_move rfl ?_)
                  exact (hf.same 6 (by decide)).trans rfl
                · cases ho
                  refine grow_op rfl rfl rfl (grow_move rfl ?_)
                  exact (hf.same 17 (by decide)).trans rfl
                · cases ho
                  refine grow_op rfl rfl rfl ?_
                  have e7 : a'.tmps.getD 202 undef = .slice (some ⟨gh, 0, none⟩) 8 8 := hd 7 (by kernel_rfl)
                  have e8 : a'.tmps.getD 203 undef = .int .i64 (q : Nat) := hd 8 (by kernel_rfl)
                  refine grow_value (v := .pointer (some ⟨gh, q, none⟩)) (w' := w') ?_ rfl (Below.refl _ _)
                  simp only [execOp, Act.eval, e7, e8]
                  go_simp
                · cases ho
                  refine grow_op rfl rfl rfl ?_
                  have e9 : a'.tmps.getD 204 undef = .pointer (some ⟨gh, q, none⟩) := hd 9 (by kernel_rfl)
                  have hc := cell_now hb cx
                  refine grow_value (v := .int .i64 (x : Nat)) (w' := w') ?_ rfl (Below.refl _ _)
                  simp only [execOp, Act.eval, e9]
                  go_simp
                · cases ho
                  refine grow_op rfl rfl rfl ?_
                  have e10 : a'.tmps.getD 205 undef = .int .i64 (x : Nat) := hd 10 (by kernel_rfl)
                  refine grow_value (v := .int .i64 ((x : Int) / 65536)) (w' := w') ?_ rfl (Below.refl _ _)
                  simp only [execOp, Act.eval, e10]
                  go_simp
                · cases ho
                  refine grow_op rfl rfl rfl ?_
                  have e11 : a'.tmps.getD 206 undef = .int .i64 ((x : Int) / 65536) := hd 11 (by kernel_rfl)
                  refine grow_value (v := .int .i64 ((x : Int) / 65536 % 256)) (w' := w') ?_ rfl (Below.refl _ _)
                  simp only [execOp, Act.eval, e11]
                  go_simp
                · cases ho
                  refine grow_op rfl rfl rfl ?_
                  have e12 : a'.tmps.getD 207 undef = .int .i64 ((x : Int) / 65536 % 256) := hd 12 (by kernel_rfl)
                  refine grow_value (v := .int .u8 (y1.toNat : Nat)) (w' := w') ?_ rfl (Below.refl _ _)
                  simp only [execOp, Act.eval, e12]
                  go_simp
                · cases ho
                  refine grow_op rfl rfl rfl (grow_move rfl ?_)
                  exact (hf.same 6 (by decide)).trans rfl
                · cases ho
                  refine grow_op rfl rfl rfl (grow_move rfl ?_)
                  exact (hf.same 17 (by decide)).trans rfl
                · cases ho
                  refine grow_op rfl rfl rfl ?_
                  have e14 : a'.tmps.getD 209 undef = .slice (some ⟨gh, 0, none⟩) 8 8 := hd 14 (by kernel_rfl)
                  have e15 : a'.tmps.getD 210 undef = .int .i64 (q : Nat) := hd 15 (by kernel_rfl)
                  refine grow_value (v := .pointer (some ⟨gh, q, none⟩)) (w' := w') ?_ rfl (Below.refl _ _)
                  simp only [execOp, Act.eval, e14, e15]
                  go_simp
                · cases ho
                  refine grow_op rfl rfl rfl ?_
                  have e16 : a'.tmps.getD 211 undef = .pointer (some ⟨gh, q, none⟩) := hd 16 (by kernel_rfl)
                  have hc := cell_now hb cx
                  refine grow_value (v := .int .i64 (x : Nat)) (w' := w') ?_ rfl (Below.refl _ _)
                  simp only [execOp, Act.eval, e16]
                  go_simp
                · cases ho
                  refine grow_op rfl rfl rfl ?_
                  have e17 : a'.tmps.getD 212 undef = .int .i64 (x : Nat) := hd 17 (by kernel_rfl)
                  refine grow_value (v := .int .i64 ((x : Int) / 256)) (w' := w') ?_ rfl (Below.refl _ _)
                  simp only [execOp, Act.eval, e17]
                  go_simp
                · cases ho
                  refine grow_op rfl rfl rfl ?_
                  have e18 : a'.tmps.getD 213 undef = .int .i64 ((x : Int) / 256) := hd 18 (by kernel_rfl)
                  refine grow_value (v := .int .i64 ((x : Int) / 256 % 256)) (w' := w') ?_ rfl (Below.refl _ _)
                  simp only [execOp, Act.eval, e18]
                  go_simp
                · cases ho
                  refine grow_op rfl rfl rfl ?_
                  have e19 : a'.tmps.getD 214 undef = .int .i64 ((x : Int) / 256 % 256) := hd 19 (by kernel_rfl)
                  refine grow_value (v := .int .u8 (y2.toNat : Nat)) (w' := w') ?_ rfl (Below.refl _ _)
                  simp only [execOp, Act.eval, e19]
                  go_simp
                · cases ho
                  refine grow_op rfl rfl rfl (grow_move rfl ?_)
                  exact (hf.same 6 (by decide)).trans rfl
                · cases ho
                  refine grow_op rfl rfl rfl (grow_move rfl ?_)
                  exact (hf.same 17 (by decide)).trans rfl
                · cases ho
                  refine grow_op rfl rfl rfl ?_
                  have e21 : a'.tmps.getD 216 undef = .slice (some ⟨gh, 0, none⟩) 8 8 := hd 21 (by kernel_rfl)
                  have e22 : a'.tmps.getD 217 undef = .int .i64 (q : Nat) := hd 22 (by kernel_rfl)
                  refine grow_value (v := .pointer (some ⟨gh, q, none⟩)) (w' := w') ?_ rfl (Below.refl _ _)
                  simp only [execOp, Act.eval, e21, e22]
                  go_simp
                · cases ho
                  refine grow_op rfl rfl rfl ?_
                  have e23 : a'.tmps.getD 218 undef = .pointer (some ⟨gh, q, none⟩) := hd 23 (by kernel_rfl)
                  have hc := cell_now hb cx
                  refine grow_value (v := .int .i64 (x : Nat)) (w' := w') ?_ rfl (Below.refl _ _)
                  simp only [execOp, Act.eval, e23]
                  go_simp
                · cases ho
                  refine grow_op rfl rfl rfl ?_
                  have e24 : a'.tmps.getD 219 undef = .int .i64 (x : Nat) := hd 24 (by kernel_rfl)
                  refine grow_value (v := .int .i64 ((x : Int) % 256)) (w' := w') ?_ rfl (Below.refl _ _)
                  simp only [execOp, Act.eval, e24]
                  go_simp
                · cases ho
                  refine grow_op rfl rfl rfl ?_
                  have e25 : a'.tmps.getD 220 undef = .int .i64 ((x : Int) % 256) := hd 25 (by kernel_rfl)
                  refine grow_value (v := .int .u8 (y3.toNat : Nat)) (w' := w') ?_ rfl (Below.refl _ _)
                  simp only [execOp, Act.eval, e25]
                  go_simp
                · cases ho
                  refine grow_op rfl rfl rfl ?_
                  exact grow_bytes4 rfl (hd 6 (by kernel_rfl)) (hd 13 (by kernel_rfl)) (hd 20 (by kernel_rfl)) (hd 26 (by kernel_rfl))
                · simp at ho
              · intro a' w' hf hb hd
                obtain ⟨ab, cb, hv222, hrb⟩ : VBytes [y0, y1, y2, y3] (a'.tmps.getD 222 undef) w' := hd 27 (by decide)
                obtain rfl := hf.eq [Value.slice ao qo co, Value.slice (some ⟨gh, 0, none⟩) 8 8, Value.int IntKind.i64 (q : Nat), Value.pointer (some ⟨gh, q, none⟩), Value.int IntKind.i64 (x : Nat), Value.int IntKind.i64 ((x : Int) / 16777216), Value.int IntKind.u8 (y0.toNat : Nat), Value.slice (some ⟨gh, 0, none⟩) 8 8, Value.int IntKind.i64 (q : Nat), Value.pointer (some ⟨gh, q, none⟩), Value.int IntKind.i64 (x : Nat), Value.int IntKind.i64 ((x : Int) / 65536), Value.int IntKind.i64 ((x : Int) / 65536 % 256), Value.int IntKind.u8 (y1.toNat : Nat), Value.slice (some ⟨gh, 0, none⟩) 8 8, Value.int IntKind.i64 (q : Nat), Value.pointer (some ⟨gh, q, none⟩), Value.int IntKind.i64 (x : Nat), Value.int IntKind.i64 ((x : Int) / 256), Value.int IntKind.i64 ((x : Int) / 256 % 256), Value.int IntKind.u8 (y2.toNat : Nat), Value.slice (some ⟨gh, 0, none⟩) 8 8, Value.int IntKind.i64 (q : Nat), Value.pointer (some ⟨gh, q, none⟩), Value.int IntKind.i64 (x : Nat), Value.int IntKind.i64 ((x : Int) % 256), Value.int IntKind.u8 (y3.toNat : Nat), Value.slice ab 4 cb] (fun j hj => match j, hj with
                  | 0, _ => hd 0 (by decide)
                  | 1, _ => hd 1 (by decide)
                  | 2, _ => hd 2 (by decide)
                  | 3, _ => hd 3 (by decide)
                  | 4, _ => hd 4 (by decide)
                  | 5, _ => hd 5 (by decide)
                  | 6, _ => hd 6 (by decide)
                  | 7, _ => hd 7 (by decide)
                  | 8, _ => hd 8 (by decide)
                  | 9, _ => hd 9 (by decide)
                  | 10, _ => hd 10 (by decide)
                  | 11, _ => hd 11 (by decide)
                  | 12, _ => hd 12 (by decide)
                  | 13, _ => hd 13 (by decide)
                  | 14, _ => hd 14 (by decide)
                  | 15, _ => hd 15 (by decide)
                  | 16, _ => hd 16 (by decide)
                  | 17, _ => hd 17 (by decide)
                  | 18, _ => hd 18 (by decide)
                  | 19, _ => hd 19 (by decide)
                  | 20, _ => hd 20 (by decide)
                  | 21, _ => hd 21 (by decide)
                  | 22, _ => hd 22 (by decide)
                  | 23, _ => hd 23 (by decide)
                  | 24, _ => hd 24 (by decide)
                  | 25, _ => hd 25 (by decide)
                  | 26, _ => hd 26 (by decide)
                  | 27, _ => hv222
                  | k + 28, h => absurd h (by simp)) (by decide) (by kernel_rfl) rfl
                simp only [List.zip_cons_cons, List.zip_nil_right, List.foldl_cons, List.foldl_nil, Act.put, List.setIfInBounds_toArray, List.set_cons_succ, List.set_cons_zero]
                have htx := HT.out.keep (w' := w') fun k hk => hb.block k (HT.out.lt k hk).2
                have hhx := block_below HH.out hb
                have hbx := HB.out.trans (hb.mono HB.out.size)
                have HTx := Lib.hid htx
                have HHx := Lib.hid hhx
                have HBx := Lib.hid hbx
                have HRB := Lib.hid hrb
                clear htx hhx hbx hrb hd hf hb hv222 k0 k1 k2 k3 d1 d2 d3 cx e1 e2 e3 u1 u2 u3 HT HH HB
                refine wpList_append_tl rfl (.tmp 195) (.tmp 222) rfl w.heap.size (.slice ao qo co) (outB (st.take q)) rfl HTx.out ab [y0, y1, y2, y3] 4 cb rfl rfl HRB.out ?c1 ?c2 ?_
                case c1 => have := HOL.out; simp; omega
                case c2 => exact HBx.out.size
                intro a4 n4 c4 w4 hn4 ht4 hg4 how4
                have hB4 : Below w.heap.size w w4 := below_grow_tl HBx.out HTx.out hg4 HBx.out.size
                have hh4 : w4.heap[gh]? = some (.cells (ints st).toArray 3 (0, 0)) := by
                  rw [hg4.block gh (Array.getElem?_eq_some_iff.1 HHx.out).1 (fun e => by
                    obtain ⟨cur, hc⟩ := HTx.out.kind gh e.symm
                    rw [HHx.out] at hc
                    simp at hc)]
                  exact HHx.out
                have ht5 : Tl w.heap.size w4 (.slice a4 n4 c4) (outB (st.take (q + 1))) := by rw [HOUT.out]; exact ht4
                have HT5 := Lib.hid ht5
                have HB5 := Lib.hid hB4
                have HH5 := Lib.hid hh4
                clear hn4 hg4 how4 ht4 ht5 hB4 hh4
                go_wp2_with fail
                go_roundg (gk - 1)
                case measure => omega
                case rel => exact ⟨q + 1, n4, c4, a4, by go_num, rfl, by omega, HT5, HH5, HB5⟩
            · obtain rfl : q = 8 := by omega
              have hfin : outB (st.take 8) = sha m := by
                rw [← HFIN.out, List.take_of_length_le (by omega)]
              have HFI := Lib.hid hfin
              clear hfin
              go_wp2_with fail
              go_ret
              refine ⟨_, rfl, ?_, HB.out⟩
              rw [← HFI.out]
              exact HT.out
end Go.Proofs.Ytofoadpnfeamoaa

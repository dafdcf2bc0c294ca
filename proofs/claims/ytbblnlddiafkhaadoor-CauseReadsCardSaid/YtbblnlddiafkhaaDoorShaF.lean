/- Package sha: Hash.Sum. -/
import Derived.Test.YtbblnlddiafkhaaDoorShaE
set_option linter.unusedVariables false
namespace Go.Proofs.YtbblnlddiafkhaaDoor
open Go.RowKit

theorem Tl.alloc {B : Nat} {w : World} {v : Value} {l : List UInt8} (h : Tl B w v l) (o : Obj) : Tl B (w.alloc o) v l :=
  h.keep fun k hk => Below.heap_alloc _ _ _ (h.lt k hk).2
theorem below_grow_tl {B : Nat} {a w w' : World} {v : Value} {l : List UInt8} (h : Below B a w) (ht : Tl B w v l) (hg : w.grownBy w' v.ownBlock) (hB : B ≤ w.heap.size) : Below B a w' :=
  h.grown hg hB (fun k hk => (ht.lt k hk).1)
theorem wrap_byte (N D : Nat) : IntKind.u8.wrap ((N : Int) / (D : Int)) = ((UInt8.ofNat (N / D)).toNat : Int) := by simp [IntKind.wrap, IntKind.bits, IntKind.signed, UInt8.toNat_ofNat']
theorem wrap_byte1 (N : Nat) : IntKind.u8.wrap (N : Int) = ((UInt8.ofNat N).toNat : Int) := by simp [IntKind.wrap, IntKind.bits, IntKind.signed, UInt8.toNat_ofNat']
theorem zer_lt (n : Nat) : zer n < 64 := by unfold zer; omega
theorem zer_step (n z : Nat) (h : z < zer n) : ((n % 64 + 1 + z : Nat) : Int) % 64 ≠ 56 := by unfold zer at h; omega
theorem zer_end (n : Nat) : ((n % 64 + 1 + zer n : Nat) : Int) % 64 = 56 := by unfold zer; omega

set_option maxRecDepth 100000 in
set_option maxHeartbeats 4000000 in
theorem hsum_any (B p : Nat) (v : Value) (m : List UInt8) (w : World) (h : HM B w p v m) (hlen : m.length ≤ 900000) :
    Calls Tryd.prog 58 #[.pointer (some ⟨p, 0, none⟩)] w fun e w' => ∃ v', e = .returned v' ∧ Tl w.heap.size w' v' (sha m) ∧ Below w.heap.size w w' := by
  obtain ⟨st, hst⟩ : ∃ x, stOf m (m.length / 64) = x := ⟨_, rfl⟩
  obtain ⟨rest, hrest⟩ : ∃ x, m.drop (64 * (m.length / 64)) = x := ⟨_, rfl⟩
  have hrl : rest.length = m.length % 64 := by rw [← hrest, List.length_drop]; omega
  unfold HM at h
  rw [hst, hrest] at h
  have HST := Lib.hid hst
  have HRE := Lib.hid hrest
  have HRL := Lib.hid hrl
  obtain ⟨a0, c0, hv⟩ : ∃ a c, v = .slice a rest.length c := by
    obtain ⟨a, c, h, _⟩ := h.tl.shape
    exact ⟨a, c, h⟩
  subst hv
  have hrd : Rd w a0 rest := by
    obtain ⟨a, c, h, hr, _⟩ := h.tl.shape
    simp at h
    rw [h.1]
    exact hr
  have c8 := h.cell8
  have hlt : p < w.heap.size := (Array.getElem?_eq_some_iff.1 h.blk).1
  have c8' : (w.alloc (.cells #[] 5)).cell? ⟨p, 8, none⟩ = some (.slice a0 rest.length c0) := by
    rw [World.cell?_alloc_lt _ _ _ hlt]; exact c8
  have H := Lib.hid h
  have HR := Lib.hid hrd
  clear h hrd hst hrest hrl c8
  go_enter Tryd.func58, Tryd.ntmps58
  go_wp2_with (at_builtin; go_loud (refine wpList_append_tl rfl (.tmp 9) (.tmp 13) rfl w.heap.size _ [] rfl (Tl.of_own (Own.empty w)) a0 rest rest.length c0 rfl rfl (HR.out.alloc _) ?c1 ?c2 ?_))
  case c1 => have := HRL.out; simp; omega
  case c2 => simp
  intro a1 n1 c1 w1 hn1 ht1 hg1 how1
  have hB1 : Below w.heap.size w w1 := below_grow_tl ((Below.refl _ _).alloc (Nat.le_refl _) _) (Tl.of_own (Own.empty w)) hg1 (by simp)
  clear hg1 how1 hn1 c8'
  go_wp2_with (at_builtin; go_loud (refine wpList_append_tl rfl (.tmp 14) (.tmp 15) rfl w.heap.size _ rest rfl (ht1.alloc _) (some ⟨w1.heap.size, 0, none⟩) [0x80] 1 1 rfl rfl (Rd.of_lit (T := 5) (fr := (0, 0)) [0x80] ?c0) ?c1 ?c2 ?_))
  case c0 => rw [heap_alloc_new]; rfl
  case c1 => have := HRL.out; simp; omega
  case c2 => have := hB1.size; simp; omega
  intro a2 n2 c2 w2 hn2 ht2 hg2 how2
  have hB2 : Below w.heap.size w w2 := below_grow_tl (hB1.alloc hB1.size (.cells #[.int .u8 (128 : Int)] 5)) (ht1.alloc _) hg2 (by have := hB1.size; simp; omega)
  obtain ⟨r2, hr2⟩ : ∃ x, rest ++ [0x80] = x := ⟨_, rfl⟩
  have hr2l : r2.length = m.length % 64 + 1 := by rw [← hr2, List.length_append, HRL.out]; rfl
  rw [hr2] at ht2
  obtain rfl : n2 = m.length % 64 + 1 := by
    obtain ⟨a, c, h, _⟩ := ht2.shape
    simp at h
    rw [h.2.1, hr2l]
  have HR2 := Lib.hid hr2
  have HT2 := Lib.hid ht2
  have HB2 := Lib.hid hB2
  have H2L := Lib.hid hr2l
  clear hn2 hg2 how2 hr2 ht1 hB1 hr2l ht2 hB2
  go_wp2_with fail
  go_loopg [3] (zer m.length) (fun k x wr => ∃ z a c, ∃ q : Nat, x = .slice a q c ∧ z + k = zer m.length ∧ q = m.length % 64 + 1 + z ∧ Hid (Tl w.heap.size wr (.slice a q c) (r2 ++ List.replicate z 0)) ∧ Hid (Below w.heap.size w wr))
  case atStart => exact ⟨0, a2, c2, _, rfl, by omega, rfl, by simpa using HT2, HB2⟩
  case round =>
    obtain ⟨z, a, c, q, rfl, hz, hq, HT, HB⟩ := hrel
    by_cases hlt : z < zer m.length
    · have hc := zer_step m.length z hlt
      rw [← hq] at hc
      have HQ := Lib.hid hq
      clear hq
      go_wp2_with (at_builtin; go_loud (refine wpList_append_tl rfl (.tmp 21) (.tmp 22) rfl w.heap.size _ (r2 ++ List.replicate z 0) rfl (HT.out.alloc _) (some ⟨wr.heap.size, 0, none⟩) [0] 1 1 rfl rfl (Rd.of_lit (T := 5) (fr := (0, 0)) [0] ?c0) ?c1 ?c2 ?_))
      case c0 => rw [heap_alloc_new]; rfl
      case c1 => have := H2L.out; have := zer_lt m.length; simp; omega
      case c2 => have := HB.out.size; simp; omega
      intro a4 n4 c4 w4 hn4 ht4 hg4 how4
      have hB4 : Below w.heap.size w w4 := below_grow_tl (HB.out.alloc HB.out.size (.cells #[.int .u8 (0 : Int)] 5)) (HT.out.alloc _) hg4 (by have := HB.out.size; simp; omega)
      have hn5 : n4 = m.length % 64 + 1 + (z + 1) := by
        obtain ⟨a, c, h, _⟩ := ht4.shape
        simp at h
        have := H2L.out
        omega
      have HN5 := Lib.hid hn5
      clear hn4 hg4 how4 hn5
      go_wp2_with fail
      go_roundg (gk - 1)
      case measure => omega
      case rel =>
        refine ⟨z + 1, a4, c4, n4, rfl, by omega, HN5.out, Lib.hid ?_, Lib.hid hB4⟩
        rw [List.replicate_succ']
        simpa using ht4
    · obtain rfl : z = zer m.length := by omega
      have hc := zer_end m.length
      rw [← hq] at hc
      obtain ⟨r3, hr3⟩ : ∃ x, r2 ++ List.replicate (zer m.length) 0 = x := ⟨_, rfl⟩
      rw [hr3] at HT
      have HR3 := Lib.hid hr3
      have HQ := Lib.hid hq
      have hql : r3.length = q := by
        obtain ⟨a, c, h, _⟩ := HT.out.shape
        simp at h
        exact h.2.1.symm
      have HQL := Lib.hid hql
      have h3l : r3.length = m.length % 64 + 1 + zer m.length := by rw [hql, hq]
      have H3L := Lib.hid h3l
      clear hq hr3 hql h3l
      go_wp2_with fail
      go_loopg [4, 3] 8 (fun k y x wr => ∃ t q c : Nat, ∃ a : Option Addr, y = .int .i64 (56 - 8 * (t : Int)) ∧ x = .slice a q c ∧ t + k = 8 ∧ Hid (q = m.length % 64 + 1 + zer m.length + t) ∧ Hid (Tl w.heap.size wr (.slice a q c) (r3 ++ (be64 (m.length * 8)).take t)) ∧ Hid (Below w.heap.size w wr))
      case atStart => exact ⟨0, q, c, a, rfl, rfl, rfl, HQ, by simpa using HT, HB⟩
      case round =>
        clear hc
        obtain ⟨t, q, c, a, rfl, rfl, ht, HQ, HT, HB⟩ := hrel
        obtain ⟨N, hN⟩ : ∃ x, m.length * 8 = x := ⟨_, rfl⟩
        have hmul : IntKind.i64.wrap ((m.length : Int) * 8) = (N : Int) := by rw [← hN]; exact IntWalk.i64_in _ (by omega)
        have hN2 : N ≤ 8000000 := by omega
        rw [hN] at HT
        have HN := Lib.hid hN
        have c9 := (H.out.below HB.out).cell9
        clear hN
        by_cases ht8 : t < 8
        · have hcase : t = 0 ∨ t = 1 ∨ t = 2 ∨ t = 3 ∨ t = 4 ∨ t = 5 ∨ t = 6 ∨ t = 7 := by omega
          rcases hcase with rfl | rfl | rfl | rfl | rfl | rfl | rfl | rfl
          · obtain ⟨bt, hbt⟩ : ∃ x, UInt8.ofNat (N / 2 ^ 56) = x := ⟨_, rfl⟩
            have hwb : IntKind.u8.wrap ((N : Int) / 72057594037927936) = ((bt.toNat : Nat) : Int) := by rw [← hbt]; exact wrap_byte N 72057594037927936
            have HBT := Lib.hid hbt
            clear hbt
            go_wp2_with (at_builtin; go_loud (refine wpList_append_tl rfl (.tmp 28) (.tmp 37) rfl w.heap.size _ _ rfl (HT.out.alloc _) (some ⟨wr.heap.size, 0, none⟩) [bt] 1 1 rfl rfl (Rd.of_lit (T := 5) (fr := (0, 0)) [bt] ?c0) ?c1 ?c2 ?_))
            case c0 => rw [heap_alloc_new]; rfl
            case c1 => have := H3L.out; have := zer_lt m.length; simp [be64]; omega
            case c2 => have := HB.out.size; simp; omega
            intro a4 n4 c4 w4 hn4 ht4 hg4 how4
            have hB4 : Below w.heap.size w w4 := below_grow_tl (HB.out.alloc HB.out.size (.cells #[.int .u8 (bt.toNat : Int)] 5)) (HT.out.alloc _) hg4 (by have := HB.out.size; simp; omega)
            have e4 : r3 ++ (be64 N).take 0 ++ [bt] = r3 ++ (be64 N).take 1 := by rw [← HBT.out]; simp [be64]
            have ht5 : Tl w.heap.size w4 (.slice a4 n4 c4) (r3 ++ (be64 N).take 1) := by rw [← e4]; first | exact ht4 | simpa using ht4
            have hn5 : n4 = m.length % 64 + 1 + zer m.length + 1 := by
              obtain ⟨a, c, h, _⟩ := ht5.shape
              have := H3L.out
              simp [be64] at h
              omega
            have HN5 := Lib.hid hn5
            clear hn4 hg4 how4 hn5 e4
            go_wp2_with fail
            go_roundg (gk - 1)
            case measure => omega
            case rel => exact ⟨1, n4, c4, a4, rfl, rfl, by omega, HN5, Lib.hid (by rw [HN.out]; exact ht5), Lib.hid hB4⟩
          · obtain ⟨bt, hbt⟩ : ∃ x, UInt8.ofNat (N / 2 ^ 48) = x := ⟨_, rfl⟩
            have hwb : IntKind.u8.wrap ((N : Int) / 281474976710656) = ((bt.toNat : Nat) : Int) := by rw [← hbt]; exact wrap_byte N 281474976710656
            have HBT := Lib.hid hbt
            clear hbt
            go_wp2_with (at_builtin; go_loud (refine wpList_append_tl rfl (.tmp 28) (.tmp 37) rfl w.heap.size _ _ rfl (HT.out.alloc _) (some ⟨wr.heap.size, 0, none⟩) [bt] 1 1 rfl rfl (Rd.of_lit (T := 5) (fr := (0, 0)) [bt] ?c0) ?c1 ?c2 ?_))
            case c0 => rw [heap_alloc_new]; rfl
            case c1 => have := H3L.out; have := zer_lt m.length; simp [be64]; omega
            case c2 => have := HB.out.size; simp; omega
            intro a4 n4 c4 w4 hn4 ht4 hg4 how4
            have hB4 : Below w.heap.size w w4 := below_grow_tl (HB.out.alloc HB.out.size (.cells #[.int .u8 (bt.toNat : Int)] 5)) (HT.out.alloc _) hg4 (by have := HB.out.size; simp; omega)
            have e4 : r3 ++ (be64 N).take 1 ++ [bt] = r3 ++ (be64 N).take 2 := by rw [← HBT.out]; simp [be64]
            have ht5 : Tl w.heap.size w4 (.slice a4 n4 c4) (r3 ++ (be64 N).take 2) := by rw [← e4]; first | exact ht4 | simpa using ht4
            have hn5 : n4 = m.length % 64 + 1 + zer m.length + 2 := by
              obtain ⟨a, c, h, _⟩ := ht5.shape
              have := H3L.out
              simp [be64] at h
              omega
            have HN5 := Lib.hid hn5
            clear hn4 hg4 how4 hn5 e4
            go_wp2_with fail
            go_roundg (gk - 1)
            case measure => omega
            case rel => exact ⟨2, n4, c4, a4, rfl, rfl, by omega, HN5, Lib.hid (by rw [HN.out]; exact ht5), Lib.hid hB4⟩
          · obtain ⟨bt, hbt⟩ : ∃ x, UInt8.ofNat (N / 2 ^ 40) = x := ⟨_, rfl⟩
            have hwb : IntKind.u8.wrap ((N : Int) / 1099511627776) = ((bt.toNat : Nat) : Int) := by rw [← hbt]; exact wrap_byte N 1099511627776
            have HBT := Lib.hid hbt
            clear hbt
            go_wp2_with (at_builtin; go_loud (refine wpList_append_tl rfl (.tmp 28) (.tmp 37) rfl w.heap.size _ _ rfl (HT.out.alloc _) (some ⟨wr.heap.size, 0, none⟩) [bt] 1 1 rfl rfl (Rd.of_lit (T := 5) (fr := (0, 0)) [bt] ?c0) ?c1 ?c2 ?_))
            case c0 => rw [heap_alloc_new]; rfl
            case c1 => have := H3L.out; have := zer_lt m.length; simp [be64]; omega
            case c2 => have := HB.out.size; simp; omega
            intro a4 n4 c4 w4 hn4 ht4 hg4 how4
            have hB4 : Below w.heap.size w w4 := below_grow_tl (HB.out.alloc HB.out.size (.cells #[.int .u8 (bt.toNat : Int)] 5)) (HT.out.alloc _) hg4 (by have := HB.out.size; simp; omega)
            have e4 : r3 ++ (be64 N).take 2 ++ [bt] = r3 ++ (be64 N).take 3 := by rw [← HBT.out]; simp [be64]
            have ht5 : Tl w.heap.size w4 (.slice a4 n4 c4) (r3 ++ (be64 N).take 3) := by rw [← e4]; first | exact ht4 | simpa using ht4
            have hn5 : n4 = m.length % 64 + 1 + zer m.length + 3 := by
              obtain ⟨a, c, h, _⟩ := ht5.shape
              have := H3L.out
              simp [be64] at h
              omega
            have HN5 := Lib.hid hn5
            clear hn4 hg4 how4 hn5 e4
            go_wp2_with fail
            go_roundg (gk - 1)
            case measure => omega
            case rel => exact ⟨3, n4, c4, a4, rfl, rfl, by omega, HN5, Lib.hid (by rw [HN.out]; exact ht5), Lib.hid hB4⟩
          · obtain ⟨bt, hbt⟩ : ∃ x, UInt8.ofNat (N / 2 ^ 32) = x := ⟨_, rfl⟩
            have hwb : IntKind.u8.wrap ((N : Int) / 4294967296) = ((bt.toNat : Nat) : Int) := by rw [← hbt]; exact wrap_byte N 4294967296
            have HBT := Lib.hid hbt
            clear hbt
            go_wp2_with (at_builtin; go_loud (refine wpList_append_tl rfl (.tmp 28) (.tmp 37) rfl w.heap.size _ _ rfl (HT.out.alloc _) (some ⟨wr.heap.size, 0, none⟩) [bt] 1 1 rfl rfl (Rd.of_lit (T := 5) (fr := (0, 0)) [bt] ?c0) ?c1 ?c2 ?_))
            case c0 => rw [heap_alloc_new]; rfl
            case c1 => have := H3L.out; have := zer_lt m.length; simp [be64]; omega
            case c2 => have := HB.out.size; simp; omega
            intro a4 n4 c4 w4 hn4 ht4 hg4 how4
            have hB4 : Below w.heap.size w w4 := below_grow_tl (HB.out.alloc HB.out.size (.cells #[.int .u8 (bt.toNat : Int)] 5)) (HT.out.alloc _) hg4 (by have := HB.out.size; simp; omega)
            have e4 : r3 ++ (be64 N).take 3 ++ [bt] = r3 ++ (be64 N).take 4 := by rw [← HBT.out]; simp [be64]
            have ht5 : Tl w.heap.size w4 (.slice a4 n4 c4) (r3 ++ (be64 N).take 4) := by rw [← e4]; first | exact ht4 | simpa using ht4
            have hn5 : n4 = m.length % 64 + 1 + zer m.length + 4 := by
              obtain ⟨a, c, h, _⟩ := ht5.shape
              have := H3L.out
              simp [be64] at h
              omega
            have HN5 := Lib.hid hn5
            clear hn4 hg4 how4 hn5 e4
            go_wp2_with fail
            go_roundg (gk - 1)
            case measure => omega
            case rel => exact ⟨4, n4, c4, a4, rfl, rfl, by omega, HN5, Lib.hid (by rw [HN.out]; exact ht5), Lib.hid hB4⟩
          · obtain ⟨bt, hbt⟩ : ∃ x, UInt8.ofNat (N / 2 ^ 24) = x := ⟨_, rfl⟩
            have hwb : IntKind.u8.wrap ((N : Int) / 16777216) = ((bt.toNat : Nat) : Int) := by rw [← hbt]; exact wrap_byte N 16777216
            have HBT := Lib.hid hbt
            clear hbt
            go_wp2_with (at_builtin; go_loud (refine wpList_append_tl rfl (.tmp 28) (.tmp 37) rfl w.heap.size _ _ rfl (HT.out.alloc _) (some ⟨wr.heap.size, 0, none⟩) [bt] 1 1 rfl rfl (Rd.of_lit (T := 5) (fr := (0, 0)) [bt] ?c0) ?c1 ?c2 ?_))
            case c0 => rw [heap_alloc_new]; rfl
            case c1 => have := H3L.out; have := zer_lt m.length; simp [be64]; omega
            case c2 => have := HB.out.size; simp; omega
            intro a4 n4 c4 w4 hn4 ht4 hg4 how4
            have hB4 : Below w.heap.size w w4 := below_grow_tl (HB.out.alloc HB.out.size (.cells #[.int .u8 (bt.toNat : Int)] 5)) (HT.out.alloc _) hg4 (by have := HB.out.size; simp; omega)
            have e4 : r3 ++ (be64 N).take 4 ++ [bt] = r3 ++ (be64 N).take 5 := by rw [← HBT.out]; simp [be64]
            have ht5 : Tl w.heap.size w4 (.slice a4 n4 c4) (r3 ++ (be64 N).take 5) := by rw [← e4]; first | exact ht4 | simpa using ht4
            have hn5 : n4 = m.length % 64 + 1 + zer m.length + 5 := by
              obtain ⟨a, c, h, _⟩ := ht5.shape
              have := H3L.out
              simp [be64] at h
              omega
            have HN5 := Lib.hid hn5
            clear hn4 hg4 how4 hn5 e4
            go_wp2_with fail
            go_roundg (gk - 1)
            case measure => omega
            case rel => exact ⟨5, n4, c4, a4, rfl, rfl, by omega, HN5, Lib.hid (by rw [HN.out]; exact ht5), Lib.hid hB4⟩
          · obtain ⟨bt, hbt⟩ : ∃ x, UInt8.ofNat (N / 2 ^ 16) = x := ⟨_, rfl⟩
            have hwb : IntKind.u8.wrap ((N : Int) / 65536) = ((bt.toNat : Nat) : Int) := by rw [← hbt]; exact wrap_byte N 65536
            have HBT := Lib.hid hbt
            clear hbt
            go_wp2_with (at_builtin; go_loud (refine wpList_append_tl rfl (.tmp 28) (.tmp 37) rfl w.heap.size _ _ rfl (HT.out.alloc _) (some ⟨wr.heap.size, 0, none⟩) [bt] 1 1 rfl rfl (Rd.of_lit (T := 5) (fr := (0, 0)) [bt] ?c0) ?c1 ?c2 ?_))
            case c0 => rw [heap_alloc_new]; rfl
            case c1 => have := H3L.out; have := zer_lt m.length; simp [be64]; omega
            case c2 => have := HB.out.size; simp; omega
            intro a4 n4 c4 w4 hn4 ht4 hg4 how4
            have hB4 : Below w.heap.size w w4 := below_grow_tl (HB.out.alloc HB.out.size (.cells #[.int .u8 (bt.toNat : Int)] 5)) (HT.out.alloc _) hg4 (by have := HB.out.size; simp; omega)
            have e4 : r3 ++ (be64 N).take 5 ++ [bt] = r3 ++ (be64 N).take 6 := by rw [← HBT.out]; simp [be64]
            have ht5 : Tl w.heap.size w4 (.slice a4 n4 c4) (r3 ++ (be64 N).take 6) := by rw [← e4]; first | exact ht4 | simpa using ht4
            have hn5 : n4 = m.length % 64 + 1 + zer m.length + 6 := by
              obtain ⟨a, c, h, _⟩ := ht5.shape
              have := H3L.out
              simp [be64] at h
              omega
            have HN5 := Lib.hid hn5
            clear hn4 hg4 how4 hn5 e4
            go_wp2_with fail
            go_roundg (gk - 1)
            case measure => omega
            case rel => exact ⟨6, n4, c4, a4, rfl, rfl, by omega, HN5, Lib.hid (by rw [HN.out]; exact ht5), Lib.hid hB4⟩
          · obtain ⟨bt, hbt⟩ : ∃ x, UInt8.ofNat (N / 2 ^ 8) = x := ⟨_, rfl⟩
            have hwb : IntKind.u8.wrap ((N : Int) / 256) = ((bt.toNat : Nat) : Int) := by rw [← hbt]; exact wrap_byte N 256
            have HBT := Lib.hid hbt
            clear hbt
            go_wp2_with (at_builtin; go_loud (refine wpList_append_tl rfl (.tmp 28) (.tmp 37) rfl w.heap.size _ _ rfl (HT.out.alloc _) (some ⟨wr.heap.size, 0, none⟩) [bt] 1 1 rfl rfl (Rd.of_lit (T := 5) (fr := (0, 0)) [bt] ?c0) ?c1 ?c2 ?_))
            case c0 => rw [heap_alloc_new]; rfl
            case c1 => have := H3L.out; have := zer_lt m.length; simp [be64]; omega
            case c2 => have := HB.out.size; simp; omega
            intro a4 n4 c4 w4 hn4 ht4 hg4 how4
            have hB4 : Below w.heap.size w w4 := below_grow_tl (HB.out.alloc HB.out.size (.cells #[.int .u8 (bt.toNat : Int)] 5)) (HT.out.alloc _) hg4 (by have := HB.out.size; simp; omega)
            have e4 : r3 ++ (be64 N).take 6 ++ [bt] = r3 ++ (be64 N).take 7 := by rw [← HBT.out]; simp [be64]
            have ht5 : Tl w.heap.size w4 (.slice a4 n4 c4) (r3 ++ (be64 N).take 7) := by rw [← e4]; first | exact ht4 | simpa using ht4
            have hn5 : n4 = m.length % 64 + 1 + zer m.length + 7 := by
              obtain ⟨a, c, h, _⟩ := ht5.shape
              have := H3L.out
              simp [be64] at h
              omega
            have HN5 := Lib.hid hn5
            clear hn4 hg4 how4 hn5 e4
            go_wp2_with fail
            go_roundg (gk - 1)
            case measure => omega
            case rel => exact ⟨7, n4, c4, a4, rfl, rfl, by omega, HN5, Lib.hid (by rw [HN.out]; exact ht5), Lib.hid hB4⟩
          · obtain ⟨bt, hbt⟩ : ∃ x, UInt8.ofNat (N) = x := ⟨_, rfl⟩
            have hwb : IntKind.u8.wrap ((N : Int)) = ((bt.toNat : Nat) : Int) := by rw [← hbt]; exact wrap_byte1 N
            have HBT := Lib.hid hbt
            clear hbt
            go_wp2_with (at_builtin; go_loud (refine wpList_append_tl rfl (.tmp 28) (.tmp 37) rfl w.heap.size _ _ rfl (HT.out.alloc _) (some ⟨wr.heap.size, 0, none⟩) [bt] 1 1 rfl rfl (Rd.of_lit (T := 5) (fr := (0, 0)) [bt] ?c0) ?c1 ?c2 ?_))
            case c0 => rw [heap_alloc_new]; rfl
            case c1 => have := H3L.out; have := zer_lt m.length; simp [be64]; omega
            case c2 => have := HB.out.size; simp; omega
            intro a4 n4 c4 w4 hn4 ht4 hg4 how4
            have hB4 : Below w.heap.size w w4 := below_grow_tl (HB.out.alloc HB.out.size (.cells #[.int .u8 (bt.toNat : Int)] 5)) (HT.out.alloc _) hg4 (by have := HB.out.size; simp; omega)
            have e4 : r3 ++ (be64 N).take 7 ++ [bt] = r3 ++ (be64 N).take 8 := by rw [← HBT.out]; simp [be64]
            have ht5 : Tl w.heap.size w4 (.slice a4 n4 c4) (r3 ++ (be64 N).take 8) := by rw [← e4]; first | exact ht4 | simpa using ht4
            have hn5 : n4 = m.length % 64 + 1 + zer m.length + 8 := by
              obtain ⟨a, c, h, _⟩ := ht5.shape
              have := H3L.out
              simp [be64] at h
              omega
            have HN5 := Lib.hid hn5
            clear hn4 hg4 how4 hn5 e4
            go_wp2_with fail
            go_roundg (gk - 1)
            case measure => omega
            case rel => exact ⟨8, n4, c4, a4, rfl, rfl, by omega, HN5, Lib.hid (by rw [HN.out]; exact ht5), Lib.hid hB4⟩
        · obtain rfl : t = 8 := by omega
          have hpd := padded_drop m
          have hps := padded_st m
          have hpl := padded_len m
          have hple := padded_le m
          have hpg := padded_gt m
          rw [HRE.out] at hpd
          rw [HST.out] at hps
          have htl : r3 ++ (be64 N).take 8 = rest ++ padT m.length := by
            rw [← HR3.out, ← HR2.out, ← HN.out]
            simp [padT, be64]
          rw [htl, ← hpd] at HT
          have hsha : sha m = outB (stOf (padded m) ((padded m).length / 64)) := rfl
          obtain ⟨PD, hPD⟩ : ∃ x, padded m = x := ⟨_, rfl⟩
          rw [hPD] at HT hpd hps hpl hple hpg hsha
          have HSH := Lib.hid hsha
          have HPS := Lib.hid hps
          obtain ⟨k0, hk0⟩ : ∃ x, m.length / 64 = x := ⟨_, rfl⟩
          have hk1 : k0 ≤ PD.length / 64 := by omega
          rw [hk0] at HT HPS
          have hl8 : (u32s st).length = 8 := by simp [u32s, H.out.st8.1]
          have HL8 := Lib.hid hl8
          have HPL := Lib.hid hpl
          have hPb : PD.length ≤ 900072 := by omega
          have hq2 : PD.length = q + 64 * k0 := by
            obtain ⟨a, c, h, _⟩ := HT.out.shape
            rw [List.length_drop] at h
            simp at h
            omega
          clear hpd hps hpl htl hPD hsha hple hpg hl8 c9 hmul hk0
          go_upto_region 8 with (fail)
          apply wp_region_lit
          iterate 3 (refine wpList_plain rfl (fun K hK => ?_); go_simp; (with_reducible refine hK _ _ ?_); clear hK K)
          refine wpList_load_mid rfl 111 (.tmp 41) rfl p 0 rfl (u32s st) _ (H.out.below HB.out).range Tryd.underlying111 rfl (by rw [HL8.out]; kernel_rfl) ?_
          obtain ⟨S1, hS1⟩ : ∃ S, (u32s st).toArray = S := ⟨_, rfl⟩
          have hS1z : S1.size = 8 := by rw [← hS1]; simp [HL8.out]
          have hS1o : S1.all (·.oneCell') = true := by rw [← hS1]; exact u32s_one _
          rw [hS1]
          have HS1 := Lib.hid hS1
          clear hS1
          refine wpList_plain rfl (fun K hK => ?_)
          go_simp
          with_reducible refine hK _ _ ?_
          clear hK K
          obtain ⟨gs, hgs⟩ : ∃ g, wr.heap.size = g := ⟨_, rfl⟩
          have hgs0 : w.heap.size ≤ gs := by have := HB.out.size; omega
          have hnew := heap_alloc_new wr (.cells #[Value.int IntKind.u32 0, Value.int IntKind.u32 0, Value.int IntKind.u32 0, Value.int IntKind.u32 0, Value.int IntKind.u32 0, Value.int IntKind.u32 0, Value.int IntKind.u32 0, Value.int IntKind.u32 0] 111)
          have hb6 := HB.out.alloc HB.out.size (.cells #[Value.int IntKind.u32 0, Value.int IntKind.u32 0, Value.int IntKind.u32 0, Value.int IntKind.u32 0, Value.int IntKind.u32 0, Value.int IntKind.u32 0, Value.int IntKind.u32 0, Value.int IntKind.u32 0] 111)
          have ht6 := HT.out.alloc (.cells #[Value.int IntKind.u32 0, Value.int IntKind.u32 0, Value.int IntKind.u32 0, Value.int IntKind.u32 0, Value.int IntKind.u32 0, Value.int IntKind.u32 0, Value.int IntKind.u32 0, Value.int IntKind.u32 0] 111)
          rw [hgs] at hnew
          obtain ⟨w6, hw6⟩ : ∃ w6, wr.alloc (.cells #[Value.int IntKind.u32 0, Value.int IntKind.u32 0, Value.int IntKind.u32 0, Value.int IntKind.u32 0, Value.int IntKind.u32 0, Value.int IntKind.u32 0, Value.int IntKind.u32 0, Value.int IntKind.u32 0] 111) = w6 := ⟨_, rfl⟩
          rw [hw6] at hnew hb6 ht6 ⊢
          refine wpList_store_rowTo rfl 111 (.tmp 5) (.tmp 42) rfl rfl gs S1 (by rw [← hgs]; rfl) rfl 111 _ hnew (by rw [hS1z]; kernel_rfl) (by rw [hS1z]; rfl) hS1o ?_
          apply wpList_nil
          have hg7 := setRow_heap w6 gs _ S1 111 (0, 0) hnew
          have hb7 := below_setRow hb6 hgs0 S1
          have ht7 : Tl w.heap.size (w6.setRow gs S1) (.slice a q c) (PD.drop (64 * k0)) := ht6.keep fun k hk => setRow_other _ _ _ _ (fun e => by
            obtain ⟨cur, hc⟩ := ht6.kind k hk
            subst e
            rw [hnew] at hc
            simp at hc)
          obtain ⟨w7, hw7⟩ : ∃ w7, w6.setRow gs S1 = w7 := ⟨_, rfl⟩
          rw [hgs]
          rw [hw7] at hg7 hb7 ht7 ⊢
          rw [← HS1.out, ← HPS.out] at hg7
          have HG7 := Lib.hid hg7
          have HB7 := Lib.hid hb7
          have HT7 := Lib.hid ht7
          clear hw7 hw6 hnew hb6 ht6 hg7 hb7 ht7 hgs HB HT
          go_wp2_with fail
          go_loopg [3] (PD.length / 64 - k0) (fun k x wr => ∃ j q c : Nat, ∃ a : Option Addr, x = .slice a q c ∧ j + k = PD.length / 64 ∧ PD.length = q + 64 * j ∧ Hid (Tl w.heap.size wr (.slice a q c) (PD.drop (64 * j))) ∧ Hid (Below w.heap.size w wr) ∧ Hid (wr.heap[gs]? = some (.cells (u32s (stOf PD j)).toArray 111 (0, 0))))
          case atStart => exact ⟨k0, q, c, a, rfl, by omega, hq2, HT7, HB7, HG7⟩
          case round =>
            clear hq2 HT7 HB7 HG7
            obtain ⟨j, q, c, a, rfl, hj, hq, HT, HB, HG⟩ := hrel
            have hst8 := stOf_st8 PD j
            obtain ⟨s1, hs1⟩ : ∃ x, stOf PD j = x := ⟨_, rfl⟩
            rw [hs1] at hst8 HG
            have hl1 : (u32s s1).length = 8 := by simp [u32s, hst8.1]
            obtain ⟨S2, hS2⟩ : ∃ S, (u32s s1).toArray = S := ⟨_, rfl⟩
            rw [hS2] at HG
            have hS2z : S2.size = 8 := by rw [← hS2]; simp [hl1]
            by_cases hpos : 0 < q
            · have hpos' : (0 : Int) < (q : Int) := by omega
              have hdiv := HPL.out
              have hq64 : 64 ≤ q := by omega
              obtain ⟨L, hL⟩ : ∃ x, PD.drop (64 * j) = x := ⟨_, rfl⟩
              have hLl : q = L.length := by rw [← hL, List.length_drop]; omega
              rw [hL] at HT
              have hrdL : Rd wr a L := by
                obtain ⟨a', c', h, hr, _⟩ := HT.out.shape
                simp at h
                rw [h.1]
                exact hr
              have hco : Calls Tryd.prog 74 #[.agg S2, .slice a q c] wr fun e w' => e = .returned (.agg (u32s (comp s1 L)).toArray) ∧ Below wr.heap.size wr w' := by
                rw [← hS2]
                exact compress_any s1 hst8 a L q c wr hrdL hLl (by omega) (by omega)
              have HCO := Lib.hid hco
              clear hco
              have hc8 := comp_st8 hst8 L
              have HS2 := Lib.hid hS2
              have HL := Lib.hid hL
              have HLL := Lib.hid hLl
              have HS1' := Lib.hid hs1
              clear hS2 hL hLl hs1 hdiv hrdL hl1
              go_upto_region 11 with (fail)
              apply wp_region_lit
              refine wpList_load_row rfl 111 (.tmp 5) rfl gs rfl 111 S2 (0, 0) _ HG.out Tryd.underlying111 rfl (by rw [hS2z]; kernel_rfl) ?_
              refine wpList_plain rfl (fun K hK => ?_)
              go_simp
              with_reducible refine hK _ _ ?_
              clear hK K
              refine wpList_plain rfl (fun K hK => ?_)
              go_simp
              refine HCO.out.mono ?_
              rintro e w8 ⟨rfl, hb8⟩
              with_reducible refine hK _ _ ?_
              clear hK K
              have hg8 := block_below HG.out hb8
              have hb9 := HB.out.trans (hb8.mono HB.out.size)
              have ht9 := HT.out.keep (w' := w8) fun k hk => hb8.block k (HT.out.lt k hk).2
              obtain ⟨S3, hS3⟩ : ∃ S, (u32s (comp s1 L)).toArray = S := ⟨_, rfl⟩
              have hS3z : S3.size = 8 := by rw [← hS3, u32s_size, hc8.1]
              have hS3o : S3.all (·.oneCell') = true := by rw [← hS3]; exact u32s_one _
              rw [hS3]
              have HS3 := Lib.hid hS3
              refine wpList_store_rowTo rfl 111 (.tmp 5) (.tmp 50) rfl rfl gs S3 rfl rfl 111 _ hg8 (by rw [hS3z]; kernel_rfl) (by rw [hS3z, hS2z]) hS3o ?_
              apply wpList_nil
              have hg10 := setRow_heap w8 gs _ S3 111 (0, 0) hg8
              have hb10 := below_setRow hb9 hgs0 S3
              have ht10 : Tl w.heap.size (w8.setRow gs S3) (.slice a q c) L := ht9.keep fun k hk => setRow_other _ _ _ _ (fun e => by
                obtain ⟨cur, hc⟩ := ht9.kind k hk
                subst e
                rw [hg8] at hc
                simp at hc)
              have ht11 := ht10.drop 64 (by have := HLL.out; omega)
              obtain ⟨w9, hw9⟩ : ∃ w9, w8.setRow gs S3 = w9 := ⟨_, rfl⟩
              rw [hw9] at hg10 hb10 ht11 ⊢
              obtain ⟨a5, n5, c5, hsl⟩ : ∃ a' n c', sliced a 64 q c 1 = .slice a' n c' := ⟨_, _, _, rfl⟩
              have hrun : ∀ w' : World, (Instr.slice 28 (.slice a q c) (some (.int .i64 64)) none none).run Tryd.prog w' = .ok (.slice a5 n5 c5) w' := by
                intro w'
                rw [← hsl, run_slice_l w' 28 a q c Tryd.underlying28 .i64 64 (by decide) (by omega)]
                simp [go_sem]
              have hn5 : n5 = q - 64 := by
                unfold sliced at hsl
                split at hsl <;> simp at hsl <;> exact hsl.2.1.symm
              have HN5 := Lib.hid hn5
              rw [hsl] at ht11
              clear hn5
              have HT11 := Lib.hid ht11
              have HB10 := Lib.hid hb10
              have HG10 := Lib.hid hg10
              have hq64i : (64 : Int) ≤ (q : Int) := by omega
              clear hw9 hg8 hb9 ht9 hS3 hg10 hb10 ht10 ht11 hsl hb8
              go_wp2_with fail
              go_roundg (gk - 1)
              case measure => omega
              case rel =>
                have e2 : stOf PD (j + 1) = comp s1 L := by
                  simp only [stOf]
                  rw [HS1'.out, HL.out]
                have e3 : PD.drop (64 * (j + 1)) = L.drop 64 := by
                  rw [← HL.out, List.drop_drop]
                  congr 1
                have hn5 := HN5.out
                refine ⟨j + 1, n5, c5, a5, rfl, by omega, by omega, Lib.hid ?_, HB10, Lib.hid ?_⟩
                · rw [e3]; exact HT11.out
                · rw [e2, HS3.out]; exact HG10.out
            · have hpos' : ¬ (0 : Int) < (q : Int) := by omega
              have hdiv := HPL.out
              have hj2 : j = PD.length / 64 := by omega
              have hix : ∀ (j x : Nat) (w' : World), j < 8 → s1[j]? = some x → (Instr.index 111 (.agg S2) (.int .i64 j)).run Tryd.prog w' = .ok (.int .u32 x) w' := fun j x w' h1 h2 =>
                run_index_agg 111 110 8 S2 j _ Tryd.underlying111 Tryd.sizeOf110 Tryd.isAgg110 h1 (by rw [← hS2]; simp [u32s, h2])
              have HIX := Lib.hid hix
              have hs1' : s1 = stOf PD (PD.length / 64) := by rw [← hs1, hj2]
              have HS1' := Lib.hid hs1'
              have h8l : s1.length = 8 := hst8.1
              clear hix hs1' hs1 hS2 hj2
              go_upto_region 13 with (fail)
              apply wp_region_lit
              refine wpList_load_row rfl 111 (.tmp 5) rfl gs rfl 111 S2 (0, 0) _ HG.out Tryd.underlying111 rfl (by rw [hS2z]; kernel_rfl) ?_
              go_wp2_with fail
              have HT0 : Tl w.heap.size wr (.slice none 0 0) [] := Tl.nil _ _
              have HT00 := Lib.hid HT0
              clear HT0
              obtain ⟨wo, hwo⟩ : ∃ x, wr = x := ⟨_, rfl⟩
              go_loopg [52, 6] 8 (fun k y x wr => ∃ j q c : Nat, ∃ a : Option Addr, y = .int .i64 j ∧ x = .slice a q c ∧ j + k = 8 ∧ Hid (Tl w.heap.size wr (.slice a q c) (outB (s1.take j))) ∧ Hid (Below w.heap.size w wr))
              case atStart => exact ⟨0, 0, 0, none, rfl, rfl, rfl, HT00, HB⟩
              case round =>
                clear HT00
                obtain ⟨j, q, c, a, rfl, rfl, hj, HT, HB⟩ := hrel
                by_cases hj8 : j < 8
                · obtain ⟨x, hx⟩ : ∃ x, s1[j]? = some x := ⟨_, List.getElem?_eq_getElem (by omega)⟩
                  have hxl : x < 4294967296 := hst8.2 x (List.mem_of_getElem? hx)
                  have ix := fun w' => HIX.out j x w' hj8 hx
                  have hout : outB (s1.take (j + 1)) = outB (s1.take j) ++ be32 x := by
                    unfold outB
                    rw [List.take_add_one, hx]
                    simp
                  obtain ⟨b0, hb0⟩ : ∃ y, UInt8.ofNat (x / 16777216) = y := ⟨_, rfl⟩
                  obtain ⟨b1, hb1⟩ : ∃ y, UInt8.ofNat (x / 65536) = y := ⟨_, rfl⟩
                  obtain ⟨b2, hb2⟩ : ∃ y, UInt8.ofNat (x / 256) = y := ⟨_, rfl⟩
                  obtain ⟨b3, hb3⟩ : ∃ y, UInt8.ofNat x = y := ⟨_, rfl⟩
                  have k0 : IntKind.u8.wrap ((x : Int) / 16777216) = ((b0.toNat : Nat) : Int) := by rw [← hb0]; exact wrap_byte x 16777216
                  have k1 : IntKind.u8.wrap ((x : Int) / 65536) = ((b1.toNat : Nat) : Int) := by rw [← hb1]; exact wrap_byte x 65536
                  have k2 : IntKind.u8.wrap ((x : Int) / 256) = ((b2.toNat : Nat) : Int) := by rw [← hb2]; exact wrap_byte x 256
                  have k3 : IntKind.u8.wrap (x : Int) = ((b3.toNat : Nat) : Int) := by rw [← hb3]; exact wrap_byte1 x
                  have hbe : be32 x = [b0, b1, b2, b3] := by unfold be32; rw [hb0, hb1, hb2, hb3]
                  rw [hbe] at hout
                  have HOUT := Lib.hid hout
                  clear hb0 hb1 hb2 hb3 hbe hout hx
                  have j0 : 0 ≤ (j : Int) := by omega
                  have jn : ((j : Int)).toNat = j := by omega
                  have jlt : (j : Int) < 8 := by omega
                  have hol : (outB (s1.take j)).length ≤ 32 := by rw [outB_len, List.length_take]; omega
                  have HOL := Lib.hid hol
                  clear hol
                  go_wp2_with (at_builtin; go_loud (refine wpList_append_tl rfl (.tmp 55) (.tmp 67) rfl w.heap.size _ _ rfl (HT.out.alloc _) (some ⟨wr.heap.size, 0, none⟩) [b0, b1, b2, b3] 4 4 rfl rfl (Rd.of_lit (T := 5) (fr := (0, 0)) [b0, b1, b2, b3] ?c0) ?c1 ?c2 ?_))
                  case c0 => rw [heap_alloc_new]; rfl
                  case c1 => have := HOL.out; simp; omega
                  case c2 => have := HB.out.size; simp; omega
                  intro a4 n4 c4 w4 hn4 ht4 hg4 how4
                  have hB4 : Below w.heap.size w w4 := below_grow_tl (HB.out.alloc HB.out.size (.cells #[.int .u8 (b0.toNat : Int), .int .u8 (b1.toNat : Int), .int .u8 (b2.toNat : Int), .int .u8 (b3.toNat : Int)] 5)) (HT.out.alloc _) hg4 (by have := HB.out.size; simp; omega)
                  have ht5 : Tl w.heap.size w4 (.slice a4 n4 c4) (outB (s1.take (j + 1))) := by rw [HOUT.out]; exact ht4
                  have HT5 := Lib.hid ht5
                  have HB5 := Lib.hid hB4
                  clear hn4 hg4 how4 ht4 ht5 hB4
                  go_wp2_with fail
                  go_roundg (gk - 1)
                  case measure => omega
                  case rel => exact ⟨j + 1, n4, c4, a4, by go_num, rfl, by omega, HT5, HB5⟩
                · obtain rfl : j = 8 := by omega
                  have hfin : outB (s1.take 8) = sha m := by
                    rw [HSH.out, ← HS1'.out, List.take_of_length_le (by omega)]
                  have HFI := Lib.hid hfin
                  clear hfin
                  go_wp2_with fail
                  go_ret
                  refine ⟨_, rfl, ?_, HB.out⟩
                  rw [← HFI.out]
                  exact HT.out
end Go.Proofs.YtbblnlddiafkhaaDoor

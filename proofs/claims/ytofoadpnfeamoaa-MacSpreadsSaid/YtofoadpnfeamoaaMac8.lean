/- mac.Expand. -/
import Derived.Test.YtofoadpnfeamoaaMac3
import Derived.Test.YtofoadpnfeamoaaSl
set_option linter.unusedVariables false
namespace Go.Proofs.Ytofoadpnfeamoaa
open Go.RowKit

/-- The blocks of what is spread, and what they are together. -/
def exT (key info : List UInt8) : Nat → List UInt8
  | 0 => []
  | i + 1 => mac key (exT key info i ++ info ++ [UInt8.ofNat (i + 1)])
def exO (key info : List UInt8) : Nat → List UInt8
  | 0 => []
  | i + 1 => exO key info i ++ exT key info (i + 1)
def expF (key info : List UInt8) (n : Nat) : List UInt8 := (exO key info ((n + 31) / 32)).take n
theorem exT_len (key info : List UInt8) (i : Nat) : (exT key info i).length ≤ 32 := by
  cases i with
  | zero => simp [exT]
  | succ i => unfold exT; rw [mac_len]; exact Nat.le_refl _
theorem exT_len' (key info : List UInt8) (i : Nat) : (exT key info (i + 1)).length = 32 := by unfold exT; rw [mac_len]
theorem exO_len (key info : List UInt8) (i : Nat) : (exO key info i).length = 32 * i := by
  induction i with
  | zero => rfl
  | succ i ih => unfold exO; rw [List.length_append, ih, exT_len']; omega
theorem expF_len (key info : List UInt8) (n : Nat) : (expF key info n).length = n := by
  unfold expF
  rw [List.length_take, exO_len]
  omega
theorem RdS.three {w : World} {a b e : Option Addr} {l m o : List UInt8} {c d f : Nat} (h : Rd w a l) (k : Rd w b m) (q : Rd w e o) (T : TypeId) : RdS (w.alloc (.cells #[.slice a l.length c, .slice b m.length d, .slice e o.length f] T)) (some ⟨w.heap.size, 0, none⟩) [l, m, o] := by
  refine .inr ⟨w.heap.size, 0, rfl, fun i hi => ?_⟩
  match i, hi with
  | 0, _ => exact ⟨a, c, by rw [Lib.cell_of_heap (heap_alloc_new w _)]; rfl, h.alloc _⟩
  | 1, _ => exact ⟨b, d, by rw [Lib.cell_of_heap (heap_alloc_new w _)]; rfl, k.alloc _⟩
  | 2, _ => exact ⟨e, f, by rw [Lib.cell_of_heap (heap_alloc_new w _)]; rfl, q.alloc _⟩
  | n + 3, h => exact absurd h (by simp)

set_option maxHeartbeats 1000000 in
theorem expand_bad (a b : Option Addr) (n c k d : Nat) (x : Int) (w : World) (hx : x < 0 ∨ 8160 < x) :
    Calls Try.prog 36 #[.slice a n c, .slice b k d, .int .i64 x] w fun e w' => e = .returned (.tuple #[.slice none 0 0, .int .i64 11]) ∧ w' = w := by
  go_enter Try.func36, Try.ntmps36
  by_cases h : x < 0
  · go_wp2_with fail
    exact bodyPost_ret (results_tmp2 rfl _ _ _) rfl ⟨rfl, rfl⟩
  · have h2 : 8160 < x := by omega
    go_wp2_with fail
    exact bodyPost_ret (results_tmp2 rfl _ _ _) rfl ⟨rfl, rfl⟩

set_option maxRecDepth 100000 in
set_option maxHeartbeats 4000000 in
theorem expand_any (a b : Option Addr) (key info : List UInt8) (n c k d N : Nat) (x : Int) (w : World) (ha : Rd w a key) (hb : Rd w b info) (hn : n = key.length) (hk : k = info.length) (hx : x = (N : Int)) (hN : N ≤ 200) (hkl : key.length ≤ 500000) (hil : info.length ≤ 500000) :
    Calls Try.prog 36 #[.slice a n c, .slice b k d, .int .i64 x] w fun e w' => ∃ a' c', e = .returned (.tuple #[.slice a' N c', .int .i64 0]) ∧ Tl w.heap.size w' (.slice a' N c') (expF key info N) ∧ Below w.heap.size w w' := by
  subst hn hk hx
  have HA := Lib.hid ha
  have HI := Lib.hid hb
  clear ha hb
  have hNI : (N : Int) ≤ 8160 := by omega
  have hN0 : 0 ≤ (N : Int) := by omega
  go_enter Try.func36, Try.ntmps36
  go_wp2_with fail
  go_loopg [10, 8, 9] ((N + 31) / 32) (fun k y x z wr => ∃ j q co ql cl : Nat, ∃ ao al : Option Addr, y = .int .u8 ((j : Int) + 1) ∧ x = .slice ao q co ∧ z = .slice al ql cl ∧ j + k = (N + 31) / 32 ∧ Hid (q = 32 * j) ∧ Hid (ql = (exT key info j).length) ∧ Hid (Tl w.heap.size wr (.slice ao q co) (exO key info j)) ∧ Hid (Rd wr al (exT key info j)) ∧ Hid (Below w.heap.size w wr))
  case atStart => exact ⟨0, 0, 0, 0, 0, none, none, rfl, rfl, rfl, by omega, Lib.hid rfl, Lib.hid rfl, Lib.hid (Tl.nil _ _), Lib.hid (.inl rfl), Lib.hid (Below.refl _ _)⟩
  case round =>
    obtain ⟨j, q, co, ql, cl, ao, al, rfl, rfl, rfl, hj, HQ, HL, HT, HR, HB⟩ := hrel
    have hq := HQ.out
    by_cases hlt : j < (N + 31) / 32
    · have hqI : (q : Int) < (N : Int) := by omega
      have hj7 : j ≤ 6 := by omega
      have hTl := exT_len key info j
      obtain ⟨T, hT⟩ : ∃ T, exT key info j = T := ⟨_, rfl⟩
      have hql := HL.out
      rw [hT] at hql hTl
      subst hql
      have hrl := HR.out
      rw [hT] at hrl
      obtain ⟨bt, hbt⟩ : ∃ x, UInt8.ofNat (j + 1) = x := ⟨_, rfl⟩
      have hbn : ((j : Int) + 1) = ((bt.toNat : Nat) : Int) := by rw [← hbt, UInt8.toNat_ofNat']; omega
      have hnx : exT key info (j + 1) = mac key (T ++ info ++ [bt]) := by unfold exT; rw [hT, hbt]
      have hox : exO key info (j + 1) = exO key info j ++ exT key info (j + 1) := rfl
      have hwr : IntKind.u8.wrap (((bt.toNat : Nat) : Int) + 1) = ((j + 1 : Nat) : Int) + 1 := by rw [← hbn]; simp [IntKind.wrap, IntKind.bits, IntKind.signed]; omega
      have hnb : Rd (wr.alloc (.cells #[.int .u8 (bt.toNat : Nat)] 5)) (some ⟨wr.heap.size, 0, none⟩) [bt] := Rd.of_lit (T := 5) (fr := (0, 0)) [bt] (by rw [heap_alloc_new]; rfl)
      have hrs := RdS.three (c := cl) (d := d) (f := 1) (hrl.alloc (.cells #[.int .u8 (bt.toNat : Nat)] 5)) ((HI.out.below HB.out).alloc (.cells #[.int .u8 (bt.toNat : Nat)] 5)) hnb 22
      rw [show (wr.alloc (.cells #[.int .u8 (bt.toNat : Nat)] 5)).heap.size = wr.heap.size + 1 by simp] at hrs
      have hka := ((HA.out.below HB.out).alloc (.cells #[.int .u8 (bt.toNat : Nat)] 5)).alloc (.cells #[.slice al T.length cl, .slice b info.length d, .slice (some ⟨wr.heap.size, 0, none⟩) [bt].length 1] 22)
      have hb2 := (HB.out.alloc HB.out.size (.cells #[.int .u8 (bt.toNat : Nat)] 5)).alloc (by have := HB.out.size; simp; omega) (.cells #[.slice al T.length cl, .slice b info.length d, .slice (some ⟨wr.heap.size, 0, none⟩) 1 1] 22)
      have ht2 := (HT.out.keep (w' := wr.alloc (.cells #[.int .u8 (bt.toNat : Nat)] 5)) fun k hk => Below.heap_alloc _ _ _ (HT.out.lt k hk).2)
      have ht3 := (ht2.keep (w' := (wr.alloc (.cells #[.int .u8 (bt.toNat : Nat)] 5)).alloc (.cells #[.slice al T.length cl, .slice b info.length d, .slice (some ⟨wr.heap.size, 0, none⟩) 1 1] 22)) fun k hk => Below.heap_alloc _ _ _ (ht2.lt k hk).2)
      have hc := code_any a c key.length key [T, info, [bt]] (some ⟨wr.heap.size + 1, 0, none⟩) 3 3 _ hka rfl hrs rfl (by omega) (by simp) (by simp; omega)
      rw [show ([T, info, [bt]] : List (List UInt8)).flatten = T ++ info ++ [bt] by simp, ← hnx] at hc
      have HC := Lib.hid hc
      have HB2 := Lib.hid hb2
      have HT3 := Lib.hid ht3
      have HOX := Lib.hid hox
      have HWR := Lib.hid hwr
      rw [hbn]
      clear hnb hrs hka hb2 ht2 ht3 hc hox hrl hT hbt hnx hwr hq HL HR HT
      have hwr := HWR.out
      go_wp2_with fail
      refine HC.out.mono ?_
      rintro e w3 ⟨v3, rfl, ht, hb3⟩
      have hto := HT3.out.keep fun k hk => hb3.block k (HT3.out.lt k hk).2
      have hb4 := HB2.out.trans (hb3.mono HB2.out.size)
      obtain ⟨al2, cl2, rfl, hr2, _, _, hob⟩ := ht.shape
      have hsep : ∀ k, Value.ownBlock (.slice ao q co) = some k → ∀ b off s, al2 = some ⟨b, off, s⟩ → some b ≠ some k := by
        intro k hk b off s e h
        have h1 := (HT3.out.lt k hk).2
        subst e
        have h2 := ht.lt b rfl
        simp at h
        subst h
        have h3 := h2.1
        simp at h1 h3
        omega
      have hl32 := exT_len' key info j
      obtain ⟨X, hX⟩ : ∃ X, exT key info (j + 1) = X := ⟨_, rfl⟩
      rw [hX] at hr2 hl32 ⊢
      have HX := Lib.hid hX
      have HTO := Lib.hid hto
      have HB4 := Lib.hid hb4
      have HR2 := Lib.hid hr2
      have HSEP := Lib.hid hsep
      have HXL := Lib.hid hl32
      clear ht hb3 hto hb4 hr2 hsep hob hX hl32 HC HB2 HT3
      go_wp2_with (at_builtin; go_loud (refine wpList_append_tl rfl (.tmp 30) (.tmp 31) rfl w.heap.size _ _ rfl HTO.out al2 X X.length cl2 rfl rfl HR2.out ?c1 ?c2 ?_))
      case c1 => rw [exO_len]; have := HXL.out; omega
      case c2 => exact HB4.out.size
      intro a5 n5 c5 w5 hn5 ht5 hg5 how5
      have hb5 : Below w.heap.size w w5 := below_grow_tl HB4.out HTO.out hg5 HB4.out.size
      have hr5 : Rd w5 al2 X := HR2.out.grown hg5 (fun b off s e h => by
        cases hob : Value.ownBlock (.slice ao q co) with
        | none => rw [hob] at h; cases h
        | some k => exact HSEP.out k hob b off s e (by rw [h, hob]))
      have hT5 : Tl w.heap.size w5 (.slice a5 n5 c5) (exO key info (j + 1)) := by rw [HOX.out, HX.out]; exact ht5
      have hn6 : n5 = 32 * (j + 1) := by
        obtain ⟨a', c', h, _⟩ := hT5.shape
        simp at h
        rw [h.2.1, exO_len]
      have HT5 := Lib.hid hT5
      have HB5 := Lib.hid hb5
      have HR5 := Lib.hid hr5
      have HN6 := Lib.hid hn6
      clear hn5 ht5 hg5 how5 hb5 hr5 hT5 hn6 HTO HB4 HR2 HSEP
      go_wp2_with fail
      go_roundg (gk - 1)
      case measure => omega
      case rel => exact ⟨j + 1, n5, c5, X.length, cl2, a5, al2, by first | rfl | (congr 1; omega) | (congr 1; exact hwr), rfl, rfl, by omega, HN6, Lib.hid (by rw [HX.out]), HT5, Lib.hid (by rw [HX.out]; exact HR5.out), HB5⟩
    · obtain rfl : j = (N + 31) / 32 := by omega
      have hqI : ¬ (q : Int) < (N : Int) := by omega
      obtain ⟨a', c', hsh, hro, hlc, _⟩ := HT.out.shape
      simp at hsh
      obtain ⟨rfl, hqq, rfl⟩ := hsh
      have hNle : N ≤ (exO key info ((N + 31) / 32)).length := by rw [exO_len]; omega
      obtain ⟨a2, c2, hsl, hrd⟩ := slice_h ao (exO key info ((N + 31) / 32)) co N (N : Int) rfl hlc hNle
      rw [← hqq] at hsl
      have hr2 := hrd wr hro
      have hfe : expF key info N = (exO key info ((N + 31) / 32)).take N := rfl
      rw [← hfe] at hr2
      have HR2 := Lib.hid hr2
      clear hro hlc hNle hrd hr2 hfe HT HR hqq hq HQ HL
      go_wp2_with (at_builtin; go_loud (refine wpList_append_tl rfl (.const (.slice none 0 0)) (.tmp 35) rfl w.heap.size (.slice none 0 0) [] rfl (Tl.nil _ _) a2 (expF key info N) N c2 rfl (expF_len key info N).symm HR2.out ?c1 ?c2 ?_))
      case c1 => rw [expF_len]; first | omega | (simp; omega)
      case c2 => exact HB.out.size
      intro a5 n5 c5 w5 hn5 ht5 hg5 how5
      have hb5 : Below w.heap.size w w5 := HB.out.grown hg5 HB.out.size (fun k hk => by cases hk)
      have ht6 : Tl w.heap.size w5 (.slice a5 n5 c5) (expF key info N) := by simpa using ht5
      obtain rfl : n5 = N := by
        obtain ⟨a', c', h, _⟩ := ht6.shape
        simp at h
        rw [h.2.1, expF_len]
      have HT6 := Lib.hid ht6
      have HB5 := Lib.hid hb5
      clear hn5 ht5 hg5 how5 hb5 ht6
      go_wp2_with fail
      exact bodyPost_ret (results_tmp2 rfl _ _ _) rfl ⟨a5, c5, rfl, HT6.out, HB5.out⟩
end Go.Proofs.Ytofoadpnfeamoaa

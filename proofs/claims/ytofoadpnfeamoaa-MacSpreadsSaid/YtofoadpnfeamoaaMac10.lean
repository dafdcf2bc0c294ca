/- klaxonref02.Expand. -/
import Derived.Test.YtofoadpnfeamoaaMac5
import Derived.Test.YtofoadpnfeamoaaMac8
import Derived.Test.YtofoadpnfeamoaaGrowT
set_option linter.unusedVariables false
namespace Go.Proofs.Ytofoadpnfeamoaa
open Go.RowKit

set_option maxRecDepth 100000 in
set_option maxHeartbeats 4000000 in
theorem rexpand_any (a b : Option Addr) (key info : List UInt8) (n c k d N : Nat) (x : Int) (w : World) (ha : Rd w a key) (hb : Rd w b info) (hn : n = key.length) (hk : k = info.length) (hx : x = (N : Int)) (hN : N ≤ 200) (hkl : key.length ≤ 500000) (hil : info.length ≤ 500000) :
    Calls Try.prog 37 #[.slice a n c, .slice b k d, .int .i64 x] w fun e w' => ∃ a' c', e = .returned (.slice a' N c') ∧ Rd w' a' (expF key info N) ∧ Below w.heap.size w w' := by
  subst hn hk hx
  have HA := Lib.hid ha
  have HI := Lib.hid hb
  clear ha hb
  go_enter Try.func37, Try.ntmps37
  go_wp2_with fail
  go_loopg [9, 7, 8] ((N + 31) / 32) (fun k y x z wr => ∃ j q co ql cl : Nat, ∃ ao al : Option Addr, y = .int .i64 ((j : Int) + 1) ∧ x = .slice ao q co ∧ z = .slice al ql cl ∧ j + k = (N + 31) / 32 ∧ Hid (q = 32 * j) ∧ Hid (ql = (exT key info j).length) ∧ Hid (Tl w.heap.size wr (.slice ao q co) (exO key info j)) ∧ Hid (Rd wr al (exT key info j)) ∧ Hid (Below w.heap.size w wr))
  case atStart => exact ⟨0, 0, 0, 0, 0, none, none, rfl, rfl, rfl, by omega, Lib.hid rfl, Lib.hid rfl, Lib.hid (Tl.nil _ _), Lib.hid (.inl rfl), Lib.hid (Below.refl _ _)⟩
  case round =>
    obtain ⟨j, q, co, ql, cl, ao, al, rfl, rfl, rfl, hj, HQ, HL, HT, HR, HB⟩ := hrel
    have hq := HQ.out
    by_cases hlt : j < (N + 31) / 32
    · have hqI : (q : Int) < (N : Int) := by omega
      have hj7 : j ≤ 6 := by omega
      have hTl := exT_len key info j
      obtain ⟨T, hT⟩ : ∃ T, exT key info j = T := ⟨_, rfl⟩
      have hql := HL.out
      rw [hT] at hql hTl
      subst hql
      have hrl := HR.out
      rw [hT] at hrl
      obtain ⟨bt, hbt⟩ : ∃ x, UInt8.ofNat (j + 1) = x := ⟨_, rfl⟩
      have hbn : ((j : Int) + 1) = ((bt.toNat : Nat) : Int) := by rw [← hbt, UInt8.toNat_ofNat']; omega
      have hbl : bt.toNat < 256 := UInt8.toNat_lt bt
      have hnx : exT key info (j + 1) = mac key (T ++ (info ++ [bt])) := by unfold exT; rw [hT, hbt, List.append_assoc]
      have hox : exO key info (j + 1) = exO key info j ++ exT key info (j + 1) := rfl
      have hil' := HI.out.below HB.out
      have HRL := Lib.hid hrl
      have HNX := Lib.hid hnx
      have HOX := Lib.hid hox
      have HBN := Lib.hid hbn
      have HIR := Lib.hid hil'
      have HAR := Lib.hid (HA.out.below HB.out)
      rw [hbn]
      clear hrl hbt hbn hnx hox hil' hT hq HL HR
      go_wp2_with (at_builtin; go_loud (refine wpList_append_tl rfl (.tmp 17) (.tmp 18) rfl wr.heap.size _ [] rfl (Tl.of_own (Own.empty wr)) al T T.length cl rfl rfl (HRL.out.alloc _) ?c1 ?c2 ?_))
      case c1 => simp; omega
      case c2 => simp
      intro a3 n3 c3 w3 hn3 ht3 hg3 how3
      have ht3' : Tl wr.heap.size w3 (.slice a3 n3 c3) T := by simpa using ht3
      have hb3 : Below wr.heap.size wr w3 := below_grow_tl ((Below.refl _ _).alloc (Nat.le_refl _) _) (Tl.of_own (Own.empty wr)) hg3 (by simp)
      have HT3 := Lib.hid ht3'
      have HB3 := Lib.hid hb3
      clear hn3 ht3 hg3 how3 ht3' hb3 HRL
      go_wp2_with (at_builtin; go_loud (refine wpList_append_tl rfl (.tmp 19) (.tmp 20) rfl wr.heap.size _ T rfl HT3.out b info info.length d rfl rfl (HIR.out.below HB3.out) ?c1 ?c2 ?_))
      case c1 => omega
      case c2 => exact HB3.out.size
      intro a4 n4 c4 w4 hn4 ht4 hg4 how4
      have hb4 : Below wr.heap.size wr w4 := below_grow_tl HB3.out HT3.out hg4 HB3.out.size
      have hnb : Rd (w4.alloc (.cells #[.int .u8 (bt.toNat : Nat)] 5)) (some ⟨w4.heap.size, 0, none⟩) [bt] := Rd.of_lit (T := 5) (fr := (0, 0)) [bt] (by rw [heap_alloc_new]; rfl)
      have ht4a := (ht4.keep (w' := w4.alloc (.cells #[.int .u8 (bt.toNat : Nat)] 5)) fun k hk => Below.heap_alloc _ _ _ (ht4.lt k hk).2)
      have hb4a := hb4.alloc hb4.size (.cells #[.int .u8 (bt.toNat : Nat)] 5)
      have HNB := Lib.hid hnb
      have HT4 := Lib.hid ht4a
      have HB4 := Lib.hid hb4a
      clear hn4 ht4 hg4 how4 hb4 hnb ht4a hb4a HT3 HB3
      go_wp2_with (at_builtin; go_loud (refine wpList_append_tl rfl (.tmp 23) (.tmp 26) rfl wr.heap.size _ (T ++ info) rfl HT4.out (some ⟨w4.heap.size, 0, none⟩) [bt] 1 1 rfl rfl HNB.out ?c1 ?c2 ?_))
      case c1 => simp; omega
      case c2 => exact HB4.out.size
      intro a5 n5 c5 w5 hn5 ht5 hg5 how5
      have hb5 : Below wr.heap.size wr w5 := below_grow_tl HB4.out HT4.out hg5 HB4.out.size
      have hnx := HNX.out
      obtain ⟨M, hM⟩ : ∃ M, T ++ (info ++ [bt]) = M := ⟨_, rfl⟩
      have hMl : M.length ≤ 600000 := by rw [← hM]; simp; omega
      have ht5' : Tl wr.heap.size w5 (.slice a5 n5 c5) M := by rw [← hM]; simpa using ht5
      rw [hM] at hnx
      obtain ⟨a', c', hsh, hr5, _⟩ := ht5'.shape
      simp only [Value.slice.injEq] at hsh
      obtain ⟨rfl, rfl, rfl⟩ := hsh
      have hc := rcode_any a c key.length key M a5 M.length c5 w5 (HAR.out.below hb5) rfl hr5 rfl (by omega) (by omega)
      rw [← hnx] at hc
      have HC := Lib.hid hc
      have HB5 := Lib.hid hb5
      clear hn5 ht5 ht5' hnx hg5 how5 hb5 hr5 hM hc HT4 HB4 HNB HIR HAR
      go_wp2_with fail
      refine HC.out.mono ?_
      rintro e w6 ⟨v6, rfl, ht, hb6⟩
      have hba := HB5.out.trans (hb6.mono HB5.out.size)
      have hto := HT.out.keep fun k hk => hba.block k (HT.out.lt k hk).2
      have hbw := HB.out.trans (hba.mono HB.out.size)
      obtain ⟨al2, cl2, rfl, hr2, _⟩ := ht.shape
      have hsep : ∀ k, Value.ownBlock (.slice ao q co) = some k → ∀ b off s, al2 = some ⟨b, off, s⟩ → some b ≠ some k := by
        intro k hk b off s e h
        have h1 := (HT.out.lt k hk).2
        subst e
        have h2 := ht.lt b rfl
        simp at h
        subst h
        have h3 := h2.1
        have h4 := HB5.out.size
        omega
      have hl32 := exT_len' key info j
      obtain ⟨X, hX⟩ : ∃ X, exT key info (j + 1) = X := ⟨_, rfl⟩
      rw [hX] at hr2 hl32 ⊢
      have HX := Lib.hid hX
      have HTO := Lib.hid hto
      have HBW := Lib.hid hbw
      have HR2 := Lib.hid hr2
      have HSEP := Lib.hid hsep
      have HXL := Lib.hid hl32
      clear ht hb6 hba hto hbw hr2 hsep hX hl32 HC HB5 HT HB
      go_wp2_with (at_builtin; go_loud (refine wpList_append_tl rfl (.tmp 29) (.tmp 30) rfl w.heap.size _ _ rfl HTO.out al2 X X.length cl2 rfl rfl HR2.out ?c1 ?c2 ?_))
      case c1 => rw [exO_len]; have := HXL.out; omega
      case c2 => exact HBW.out.size
      intro a7 n7 c7 w7 hn7 ht7 hg7 how7
      have hb7 : Below w.heap.size w w7 := below_grow_tl HBW.out HTO.out hg7 HBW.out.size
      have hr7 : Rd w7 al2 X := HR2.out.grown hg7 (fun b off s e h => by
        cases hob : Value.ownBlock (.slice ao q co) with
        | none => rw [hob] at h; cases h
        | some k => exact HSEP.out k hob b off s e (by rw [h, hob]))
      have hT7 : Tl w.heap.size w7 (.slice a7 n7 c7) (exO key info (j + 1)) := by rw [HOX.out, HX.out]; exact ht7
      have hn8 : n7 = 32 * (j + 1) := by
        obtain ⟨a', c', h, _⟩ := hT7.shape
        simp at h
        rw [h.2.1, exO_len]
      have HT7 := Lib.hid hT7
      have HB7 := Lib.hid hb7
      have HR7 := Lib.hid hr7
      have HN8 := Lib.hid hn8
      clear hn7 ht7 hg7 how7 hb7 hr7 hT7 hn8 HTO HBW HR2 HSEP
      go_wp2_with fail
      go_roundg (gk - 1)
      case measure => omega
      case rel => exact ⟨j + 1, n7, c7, X.length, cl2, a7, al2, by first | rfl | (have := HBN.out; congr 1; omega), rfl, rfl, by omega, HN8, Lib.hid (by rw [HX.out]), HT7, Lib.hid (by rw [HX.out]; exact HR7.out), HB7⟩
    · obtain rfl : j = (N + 31) / 32 := by omega
      have hqI : ¬ (q : Int) < (N : Int) := by omega
      obtain ⟨a', c', hsh, hro, hlc, _⟩ := HT.out.shape
      simp at hsh
      obtain ⟨rfl, hqq, rfl⟩ := hsh
      have hNle : N ≤ (exO key info ((N + 31) / 32)).length := by rw [exO_len]; omega
      obtain ⟨a2, c2, hsl, hrd⟩ := slice_h ao (exO key info ((N + 31) / 32)) co N (N : Int) rfl hlc hNle
      rw [← hqq] at hsl
      have hr2 := hrd wr hro
      have hfe : expF key info N = (exO key info ((N + 31) / 32)).take N := rfl
      rw [← hfe] at hr2
      have HR2 := Lib.hid hr2
      clear hro hlc hNle hrd hr2 hfe HT HR hqq hq HQ HL
      go_wp2_with fail
      refine bodyPost_ret (results_tmp rfl _ _ _) rfl ?_
      exact ⟨a2, ⟨c2, rfl⟩, HR2.out, HB.out⟩
theorem ent_rexpand : ∀ args w, (callFunc 37 args).run Try.prog w = .ok (.enter 37 args) w := run_enters Try.func37 (by kernel_rfl) rfl
theorem grow_rexpand {Q : Exit → Act → World → Prop} {o : Oper} {a : Act} {w : World} {x y z : Operand} {ts : Array TypeId} {key info : List UInt8} {N : Nat} (ho : o.op = .call { callee := .value (.func 37), args := #[x, y, z], argTypes := ts }) (hx : VBytes key (a.eval x) w) (hy : VBytes info (a.eval y) w) (hz : a.eval z = .int .i64 (N : Int)) (hk : key.length ≤ 500000) (hi : info.length ≤ 500000) (hN : N ≤ 200) :
    o.wp Try.prog a w (Grew o.dst (VBytes (expF key info N)) a w) Q := by
  obtain ⟨ak, ck, e1, h1⟩ := hx
  obtain ⟨ap, cp, e2, h2⟩ := hy
  refine grow_call ent_rexpand ho ?_
  simp only [List.map_toArray, List.map_cons, List.map_nil, e1, e2, hz]
  refine (rexpand_any ak ap key info _ ck _ cp N N w h1 h2 rfl rfl rfl hN hk hi).mono ?_
  rintro e w' ⟨a', c', rfl, hr, hb⟩
  exact ⟨_, rfl, ⟨a', c', by rw [expF_len], hr⟩, hb⟩
end Go.Proofs.Ytofoadpnfeamoaa

/- Package mac: Equal; the anchor of klaxonlaw02; mac.Code among operations that only add. -/
import Derived.Test.YtofoadpnfeamoaaMac2
import Derived.Test.YtofoadpnfeamoaaRefE
import Derived.Lib.SlBytesConst
import Derived.Deep.LoopGhost
import Derived.Deep.QuietTactic
import Derived.BigQuiet
set_option linter.unusedVariables false
namespace Go.Proofs.Ytofoadpnfeamoaa
open Go.RowKit

theorem mac_jefe : mac [74, 101, 102, 101] [119, 104, 97, 116, 32, 100, 111, 32, 121, 97, 32, 119, 97, 110, 116, 32, 102, 111, 114, 32, 110, 111, 116, 104, 105, 110, 103, 63] = [91, 220, 193, 70, 191, 96, 117, 78, 106, 4, 36, 38, 8, 149, 117, 199, 90, 0, 63, 8, 157, 39, 57, 131, 157, 236, 88, 185, 100, 236, 56, 67] := by decide +kernel

set_option maxHeartbeats 2000000 in
theorem anchor02_any (w : World) : Calls Try.prog 31 #[] w fun e w' => e = .returned (.bool true) ∧ Below w.heap.size w w' := by
  have kc := fun (w : World) (C : Array Value) (n c : Nat) => Lib.run_convert_bytes_const (P := Try.prog) w 22 5 C n c Try.underlying22 Try.underlying5
  have kc2 : ∀ (W : World) (C : Array Value) (n c g : Nat), W.heap.size = g → (convert 22 22 (.slice (some ⟨g, 0, none⟩) n c)).run Try.prog (W.alloc (.cells C 5)) = .ok (.slice (some ⟨g, 0, none⟩) n c) (W.alloc (.cells C 5 (C.size, C.size + 1))) := fun W C n c g h => by subst h; exact kc W C n c
  go_enter Try.func31, Try.ntmps31
  go_wp2_with fail
  have hA : Rd (w.alloc (.cells #[.int .u8 74, .int .u8 101, .int .u8 102, .int .u8 101] 5 (4, 5))) (some ⟨w.heap.size, 0, none⟩) [74, 101, 102, 101] := Rd.of_lit (T := 5) (fr := (4, 5)) _ (by rw [heap_alloc_new]; rfl)
  have hbA : Below w.heap.size w (w.alloc (.cells #[.int .u8 74, .int .u8 101, .int .u8 102, .int .u8 101] 5 (4, 5))) := (Below.refl _ _).alloc (Nat.le_refl _) _
  have hsA : (w.alloc (.cells #[.int .u8 74, .int .u8 101, .int .u8 102, .int .u8 101] 5 (4, 5))).heap.size = w.heap.size + 1 := by simp
  obtain ⟨wa, hwa⟩ : ∃ x, w.alloc (.cells #[.int .u8 74, .int .u8 101, .int .u8 102, .int .u8 101] 5 (4, 5)) = x := ⟨_, rfl⟩
  rw [hwa] at hA hbA hsA ⊢
  have hB : Rd (wa.alloc (.cells #[.int .u8 119, .int .u8 104, .int .u8 97, .int .u8 116, .int .u8 32, .int .u8 100, .int .u8 111, .int .u8 32, .int .u8 121, .int .u8 97, .int .u8 32] 5 (11, 12))) (some ⟨wa.heap.size, 0, none⟩) [119, 104, 97, 116, 32, 100, 111, 32, 121, 97, 32] := Rd.of_lit (T := 5) (fr := (11, 12)) _ (by rw [heap_alloc_new]; rfl)
  have hbB := hbA.alloc hbA.size (.cells #[.int .u8 119, .int .u8 104, .int .u8 97, .int .u8 116, .int .u8 32, .int .u8 100, .int .u8 111, .int .u8 32, .int .u8 121, .int .u8 97, .int .u8 32] 5 (11, 12))
  have hA2 := hA.alloc (.cells #[.int .u8 119, .int .u8 104, .int .u8 97, .int .u8 116, .int .u8 32, .int .u8 100, .int .u8 111, .int .u8 32, .int .u8 121, .int .u8 97, .int .u8 32] 5 (11, 12))
  have hsB : (wa.alloc (.cells #[.int .u8 119, .int .u8 104, .int .u8 97, .int .u8 116, .int .u8 32, .int .u8 100, .int .u8 111, .int .u8 32, .int .u8 121, .int .u8 97, .int .u8 32] 5 (11, 12))).heap.size = w.heap.size + 2 := by simp [hsA]
  rw [hsA] at hB
  obtain ⟨wb, hwb⟩ : ∃ x, wa.alloc (.cells #[.int .u8 119, .int .u8 104, .int .u8 97, .int .u8 116, .int .u8 32, .int .u8 100, .int .u8 111, .int .u8 32, .int .u8 121, .int .u8 97, .int .u8 32] 5 (11, 12)) = x := ⟨_, rfl⟩
  rw [hwb] at hB hbB hA2 hsB ⊢
  have hC : Rd (wb.alloc (.cells #[.int .u8 119, .int .u8 97, .int .u8 110, .int .u8 116, .int .u8 32, .int .u8 102, .int .u8 111, .int .u8 114, .int .u8 32, .int .u8 110, .int .u8 111, .int .u8 116, .int .u8 104, .int .u8 105, .int .u8 110, .int .u8 103, .int .u8 63] 5 (17, 18))) (some ⟨wb.heap.size, 0, none⟩) [119, 97, 110, 116, 32, 102, 111, 114, 32, 110, 111, 116, 104, 105, 110, 103, 63] := Rd.of_lit (T := 5) (fr := (17, 18)) _ (by rw [heap_alloc_new]; rfl)
  have hbC := hbB.alloc hbB.size (.cells #[.int .u8 119, .int .u8 97, .int .u8 110, .int .u8 116, .int .u8 32, .int .u8 102, .int .u8 111, .int .u8 114, .int .u8 32, .int .u8 110, .int .u8 111, .int .u8 116, .int .u8 104, .int .u8 105, .int .u8 110, .int .u8 103, .int .u8 63] 5 (17, 18))
  have hA3 := hA2.alloc (.cells #[.int .u8 119, .int .u8 97, .int .u8 110, .int .u8 116, .int .u8 32, .int .u8 102, .int .u8 111, .int .u8 114, .int .u8 32, .int .u8 110, .int .u8 111, .int .u8 116, .int .u8 104, .int .u8 105, .int .u8 110, .int .u8 103, .int .u8 63] 5 (17, 18))
  have hB3 := hB.alloc (.cells #[.int .u8 119, .int .u8 97, .int .u8 110, .int .u8 116, .int .u8 32, .int .u8 102, .int .u8 111, .int .u8 114, .int .u8 32, .int .u8 110, .int .u8 111, .int .u8 116, .int .u8 104, .int .u8 105, .int .u8 110, .int .u8 103, .int .u8 63] 5 (17, 18))
  have hsC : (wb.alloc (.cells #[.int .u8 119, .int .u8 97, .int .u8 110, .int .u8 116, .int .u8 32, .int .u8 102, .int .u8 111, .int .u8 114, .int .u8 32, .int .u8 110, .int .u8 111, .int .u8 116, .int .u8 104, .int .u8 105, .int .u8 110, .int .u8 103, .int .u8 63] 5 (17, 18))).heap.size = w.heap.size + 3 := by simp [hsB]
  rw [hsB] at hC
  obtain ⟨wc, hwc⟩ : ∃ x, wb.alloc (.cells #[.int .u8 119, .int .u8 97, .int .u8 110, .int .u8 116, .int .u8 32, .int .u8 102, .int .u8 111, .int .u8 114, .int .u8 32, .int .u8 110, .int .u8 111, .int .u8 116, .int .u8 104, .int .u8 105, .int .u8 110, .int .u8 103, .int .u8 63] 5 (17, 18)) = x := ⟨_, rfl⟩
  rw [hwc] at hC hbC hA3 hB3 hsC ⊢
  have hrs := RdS.two (c := 11) (d := 17) hB3 hC 22
  rw [hsC] at hrs
  have hbD := hbC.alloc hbC.size (.cells #[.slice (some ⟨w.heap.size + 1, 0, none⟩) 11 11, .slice (some ⟨w.heap.size + 2, 0, none⟩) 17 17] 22)
  have hA4 := hA3.alloc (.cells #[.slice (some ⟨w.heap.size + 1, 0, none⟩) 11 11, .slice (some ⟨w.heap.size + 2, 0, none⟩) 17 17] 22)
  refine (code_any (some ⟨w.heap.size, 0, none⟩) 4 4 [74, 101, 102, 101] [[119, 104, 97, 116, 32, 100, 111, 32, 121, 97, 32], [119, 97, 110, 116, 32, 102, 111, 114, 32, 110, 111, 116, 104, 105, 110, 103, 63]] (some ⟨w.heap.size + 3, 0, none⟩) 2 2 _ hA4 rfl hrs rfl (by decide) (by decide) (by decide)).mono ?_
  rintro e w1 ⟨v', rfl, ht, hb⟩
  have hb3 := hbD.trans (hb.mono hbD.size)
  have hs : mac [74, 101, 102, 101] ([[119, 104, 97, 116, 32, 100, 111, 32, 121, 97, 32], [119, 97, 110, 116, 32, 102, 111, 114, 32, 110, 111, 116, 104, 105, 110, 103, 63]] : List (List UInt8)).flatten = [91, 220, 193, 70, 191, 96, 117, 78, 106, 4, 36, 38, 8, 149, 117, 199, 90, 0, 63, 8, 157, 39, 57, 131, 157, 236, 88, 185, 100, 236, 56, 67] := by
    rw [show ([[119, 104, 97, 116, 32, 100, 111, 32, 121, 97, 32], [119, 97, 110, 116, 32, 102, 111, 114, 32, 110, 111, 116, 104, 105, 110, 103, 63]] : List (List UInt8)).flatten = [119, 104, 97, 116, 32, 100, 111, 32, 121, 97, 32, 119, 97, 110, 116, 32, 102, 111, 114, 32, 110, 111, 116, 104, 105, 110, 103, 63] from rfl, mac_jefe]
  rw [hs] at ht
  obtain ⟨a, c, rfl, hr, _⟩ := ht.shape
  have hcv := str_of_rd hr 32 c rfl
  have HB := Lib.hid hb3
  clear hb hb3 hs hr ht hA hbA hsA hB hbB hA2 hsB hC hbC hA3 hB3 hsC hrs hbD hA4 hwa hwb hwc kc kc2
  go_wp2_with fail
  go_ret
  exact ⟨rfl, HB.out⟩

theorem ent_code : ∀ args w, (callFunc 32 args).run Try.prog w = .ok (.enter 32 args) w := run_enters Try.func32 (by kernel_rfl) rfl
theorem grow_code {Q : Exit → Act → World → Prop} {o : Oper} {a : Act} {w : World} {x y : Operand} {ts : Array TypeId} {key M : List UInt8} {ps : List (List UInt8)} (he : ps.flatten = M) (ho : o.op = .call { callee := .value (.func 32), args := #[x, y], argTypes := ts }) (hx : VBytes key (a.eval x) w) (hy : VParts ps (a.eval y) w) (hk : key.length ≤ 800000) (hps : ps.length ≤ 1000000) (hlen : M.length ≤ 800000) :
    o.wp Try.prog a w (Grew o.dst (VBytes (mac key M)) a w) Q := by
  subst he
  obtain ⟨ak, ck, e1, h1⟩ := hx
  obtain ⟨ap, cp, e2, h2⟩ := hy
  refine grow_call ent_code ho ?_
  simp only [List.map_toArray, List.map_cons, List.map_nil, e1, e2]
  refine (code_any ak ck _ key ps ap _ cp w h1 rfl h2 rfl hk hps hlen).mono ?_
  rintro e w' ⟨v', rfl, ht, hb⟩
  obtain ⟨a', c', h1, h2, _⟩ := ht.shape
  exact ⟨v', rfl, ⟨a', c', h1, h2⟩, hb⟩
theorem keyF_sha (k : List UInt8) : keyF (sha k) = sha k := by unfold keyF; rw [if_neg (by rw [sha_len]; decide)]
theorem mac_long (k m : List UInt8) (h : 64 < k.length) : mac (sha k) m = mac k m := by
  unfold mac padF
  rw [keyF_sha]
  unfold keyF
  rw [if_pos h]

theorem or_zero (x y : Nat) : x ||| y = 0 ↔ x = 0 ∧ y = 0 := Nat.or_eq_zero_iff
theorem xor_zero (x y : Nat) : x ^^^ y = 0 ↔ x = y := by
  constructor
  · intro h
    have h2 : x ^^^ y ^^^ y = y := by rw [h]; simp
    rwa [Nat.xor_assoc, Nat.xor_self, Nat.xor_zero] at h2
  · rintro rfl
    exact Nat.xor_self x

set_option maxHeartbeats 2000000 in
theorem equal_any (a b : Option Addr) (l m : List UInt8) (c d n k : Nat) (w : World) (ha : Rd w a l) (hb : Rd w b m) (hn : n = l.length) (hk : k = m.length) (hmax : l.length ≤ maxLen) :
    Calls Try.prog 35 #[.slice a n c, .slice b k d] w fun e w' => e = .returned (.bool (l == m)) ∧ Below w.heap.size w w' := by
  subst hn hk
  have hmx : l.length ≤ 9223372036854775807 := by unfold maxLen at hmax; omega
  have HA := Lib.hid ha
  have HB := Lib.hid hb
  clear ha hb hmax
  go_enter Try.func35, Try.ntmps35
  by_cases hl : l.length = m.length
  · have hlI : (l.length : Int) = (m.length : Int) := by omega
    have hne : ((l.length : Int) != (m.length : Int)) = false := by simp [hlI]
    have HL := Lib.hid hl
    clear hl hlI
    go_wp2_with fail
    go_loopg [14, 5] l.length (fun k y x wr => ∃ j X : Nat, y = .int .i64 j ∧ x = .int .u8 X ∧ j + k = l.length ∧ X < 256 ∧ Hid (X = 0 ↔ l.take j = m.take j) ∧ Hid (Below w.heap.size w wr))
    case atStart => exact ⟨0, 0, rfl, rfl, by omega, by decide, Lib.hid (by simp), Lib.hid (Below.refl _ _)⟩
    case round =>
      obtain ⟨j, X, rfl, rfl, hj, hX, HI, HBW⟩ := hrel
      by_cases hlt : j < l.length
      · have hlm : j < m.length := by have := HL.out; omega
        obtain ⟨ba, oa, rfl, hca⟩ := HA.out.at hlt
        obtain ⟨bb, ob, rfl, hcb⟩ := HB.out.at hlm
        have h1 := cell_now HBW.out (hca j hlt)
        have h2 := cell_now HBW.out (hcb j hlm)
        have hx1 := (l[j]).toNat_lt
        have hx2 := (m[j]).toNat_lt
        have heq : l.take (j + 1) = m.take (j + 1) ↔ (l.take j = m.take j ∧ (l[j]).toNat = (m[j]).toNat) := by
          rw [List.take_add_one, List.take_add_one, List.getElem?_eq_getElem hlt, List.getElem?_eq_getElem hlm]
          constructor
          · intro h
            obtain ⟨e1, e2⟩ := List.append_inj h (by simp; omega)
            simp at e2
            exact ⟨e1, by rw [e2]⟩
          · rintro ⟨e1, e2⟩
            rw [e1, UInt8.toNat_inj.1 e2]
        obtain ⟨x1, e1⟩ : ∃ x, (l[j]).toNat = x := ⟨_, rfl⟩
        obtain ⟨x2, e2⟩ : ∃ x, (m[j]).toNat = x := ⟨_, rfl⟩
        rw [e1] at h1 hx1 heq
        rw [e2] at h2 hx2 heq
        have hxo := u8_xor_nat x1 x2 hx1 hx2
        have hlt3 : x1 ^^^ x2 < 256 := Nat.xor_lt_two_pow (n := 8) hx1 hx2
        obtain ⟨x3, e3⟩ : ∃ x, x1 ^^^ x2 = x := ⟨_, rfl⟩
        rw [e3] at hxo hlt3
        have hor := u8_or_nat X x3 hX hlt3
        have hlt4 : X ||| x3 < 256 := Nat.or_lt_two_pow (n := 8) hX hlt3
        have hz : X ||| x3 = 0 ↔ l.take (j + 1) = m.take (j + 1) := by
          rw [or_zero, ← e3, xor_zero, heq, HI.out]
        obtain ⟨x4, e4⟩ : ∃ x, X ||| x3 = x := ⟨_, rfl⟩
        rw [e4] at hor hlt4 hz
        have HZ := Lib.hid hz
        have H4 := Lib.hid hlt4
        have HC := Lib.hid (And.intro hca hcb)
        have j0 : 0 ≤ (j : Int) := by omega
        have jn : ((j : Int)).toNat = j := by omega
        have jlt : (j : Int) < (l.length : Int) := by omega
        have jlm : (j : Int) < (m.length : Int) := by omega
        clear e1 e2 e3 e4 heq hz hlt4 hca hcb hne
        go_upto_region 7 with (fail)
        go_quiet (fail)
        go_wp2
        go_roundg (gk - 1)
        case measure => omega
        case rel => exact ⟨j + 1, x4, by go_num, rfl, by omega, H4.out, HZ, Lib.hid (HBW.out.trans ⟨rfl, rfl, rfl, Nat.le_refl _, fun _ _ => rfl⟩)⟩
      · obtain rfl : j = l.length := by omega
        have hi := HI.out
        rw [List.take_length, HL.out, List.take_length] at hi
        by_cases h0 : X = 0
        · subst h0
          have e : (l == m) = true := by simpa using hi.1 rfl
          have HE := Lib.hid e
          clear hi e
          go_wp2_with fail
          go_ret
          exact ⟨by rw [HE.out]; rfl, HBW.out⟩
        · have e : (l == m) = false := by
            have : ¬ l = m := fun h => h0 (hi.2 h)
            simpa using this
          have hXI : ¬ (X : Int) = 0 := by omega
          have hXb : ((X : Int) == 0) = false := by simpa using h0
          have HE := Lib.hid e
          clear hi e
          go_wp2_with fail
          go_ret
          exact ⟨by rw [HE.out]; rfl, HBW.out⟩
  · have e : (l == m) = false := by
      have : ¬ l = m := fun h => hl (by rw [h])
      simpa using this
    have hlI : ¬ (l.length : Int) = (m.length : Int) := by omega
    have hne : ((l.length : Int) != (m.length : Int)) = true := by simp; omega
    have HE := Lib.hid e
    clear e
    go_wp2_with fail
    go_ret
    exact ⟨by rw [HE.out]; rfl, Below.refl _ _⟩
theorem ent_equal : ∀ args w, (callFunc 35 args).run Try.prog w = .ok (.enter 35 args) w := run_enters Try.func35 (by kernel_rfl) rfl
theorem grow_equal {Q : Exit → Act → World → Prop} {o : Oper} {a : Act} {w : World} {x y : Operand} {ts : Array TypeId} {l m : List UInt8} {r : Bool} (ho : o.op = .call { callee := .value (.func 35), args := #[x, y], argTypes := ts }) (hx : VBytes l (a.eval x) w) (hy : VBytes m (a.eval y) w) (hmax : l.length ≤ maxLen) (hr : (l == m) = r) :
    o.wp Try.prog a w (Grew o.dst (VIs (.bool r)) a w) Q := by
  subst hr
  obtain ⟨ak, ck, e1, h1⟩ := hx
  obtain ⟨ap, cp, e2, h2⟩ := hy
  refine grow_call ent_equal ho ?_
  simp only [List.map_toArray, List.map_cons, List.map_nil, e1, e2]
  exact (equal_any ak ap l m ck cp _ _ w h1 h2 rfl rfl hmax).mono (fun e w' ⟨h, hb⟩ => ⟨_, h, rfl, hb⟩)
end Go.Proofs.Ytofoadpnfeamoaa

/- The document's Key. -/
import Derived.Test.YtjofjgjocgooeaaDoorTupF
import Derived.Test.YtjofjgjocgooeaaDoorApp
import Derived.Laws.BitsAllLaws
import Derived.Laws.Bits128
set_option linter.unusedVariables false
namespace Go.Proofs.YtjofjgjocgooeaaDoor
open Go.RowKit

theorem esc_cons (b : UInt8) (t : List UInt8) : esc (b :: t) = if b = 0 then 0 :: 255 :: esc t else b :: esc t := rfl
theorem esc_append : ∀ (t u : List UInt8), esc (t ++ u) = esc t ++ esc u
  | [], _ => rfl
  | b :: t, u => by
    have ih := esc_append t u
    rw [List.cons_append, esc_cons, esc_cons, ih]
    by_cases hb : b = 0
    · rw [if_pos hb, if_pos hb]; rfl
    · rw [if_neg hb, if_neg hb]; rfl
theorem esc_take (t : List UInt8) (i : Nat) (h : i < t.length) : esc (t.take (i + 1)) = esc (t.take i) ++ esc [t[i]] := by
  rw [List.take_succ_eq_append_getElem h, esc_append]

theorem i64_and255 (n : Int) : bits .and .i64 n 255 = n % 256 := by
  have h255 : (BitVec.ofInt 64 255).toNat = 2 ^ 8 - 1 := by decide
  have key : (BitVec.ofInt 64 n &&& BitVec.ofInt 64 255).toNat = (n % ((2 ^ 64 : Nat) : Int)).toNat % 2 ^ 8 := by
    rw [BitVec.toNat_and, BitVec.toNat_ofInt, h255, Nat.and_two_pow_sub_one_eq_mod]
  show IntKind.i64.wrap ((BitVec.ofInt 64 n &&& BitVec.ofInt 64 255).toNat : Nat) = n % 256
  rw [key, IntKind.wrap_i64]
  omega
theorem u8_xor128 (a : Int) (h0 : 0 ≤ a) (h1 : a < 256) : bits .xor .u8 a 128 = (a + 128) % 256 := by
  obtain ⟨n, rfl⟩ : ∃ n : Nat, a = n := ⟨a.toNat, by omega⟩
  have h := u8_xor_nat n 128 (by omega) (by decide)
  have e : ∀ n : Fin 256, n.val ^^^ 128 = (n.val + 128) % 256 := by decide +kernel
  have := e ⟨n, by omega⟩
  simp only at this
  rw [this] at h
  rw [show ((128 : Nat) : Int) = 128 from rfl] at h
  rw [h]
  omega
/-- A number's bytes, one by one. -/
theorem beN_bytes (x : Int) (h1 : -9223372036854775808 ≤ x) (h2 : x < 9223372036854775808) : Lib.byteCells (beN 8 (turnN x)) =
    [.int .u8 ((x / 256 / 256 / 256 / 256 / 256 / 256 / 256 + 128) % 256), .int .u8 (x / 256 / 256 / 256 / 256 / 256 / 256 % 256), .int .u8 (x / 256 / 256 / 256 / 256 / 256 % 256), .int .u8 (x / 256 / 256 / 256 / 256 % 256), .int .u8 (x / 256 / 256 / 256 % 256), .int .u8 (x / 256 / 256 % 256), .int .u8 (x / 256 % 256), .int .u8 (x % 256)] := by
  obtain ⟨N, hN⟩ : ∃ N : Nat, turnN x = N := ⟨_, rfl⟩
  have hx : x = (N : Int) - 9223372036854775808 := by rw [← hN]; unfold turnN; omega
  rw [hN]
  simp only [beN, Lib.byteCells, List.map_cons, List.map_nil, UInt8.toNat_ofNat']
  simp only [List.cons.injEq, Value.int.injEq, true_and, and_true]
  subst hx
  refine ⟨?_, ?_, ?_, ?_, ?_, ?_, ?_, ?_⟩ <;> omega

set_option maxRecDepth 100000 in
set_option maxHeartbeats 8000000 in
theorem refkey_any (a : Option Addr) (c : Nat) (l : List TP) (w : World) (hr : RdP w a l) (hok : ∀ p ∈ l, p.ok) (htx : ∀ p ∈ l, p.text.length ≤ 1000) (hl : l.length ≤ 1000) :
    Calls Tryd.prog 17 #[.slice a l.length c] w fun e w' => e = .returned (.string ⟨(keyB l).toArray⟩) ∧ Below w.heap.size w w' := by
  have HR := Lib.hid hr
  have HO := Lib.hid hok
  have HT := Lib.hid htx
  clear hr hok htx
  go_enter Tryd.func17, Tryd.ntmps17
  go_wp2_with fail
  go_loopg [3, 4] l.length (fun k v y wr => ∃ j : Nat, y = .int .i64 (j : Int) ∧ j + k = l.length ∧ Hid (Own w.heap.size wr v (keyB (l.take j))) ∧ Hid (Below w.heap.size w wr))
  case atStart => exact ⟨0, rfl, by omega, Lib.hid (Own.nil _ _), Lib.hid (Below.refl _ _)⟩
  case round =>
    obtain ⟨j, rfl, hj, HW, HB⟩ := hrel
    by_cases hlt : j < l.length
    · obtain ⟨b, off, rfl, c1, c2, c3⟩ := (HR.out.below HB.out).get hlt
      have hltI : (j : Int) < (l.length : Int) := by omega
      have hkt := keyB_take l j hlt
      have hpo := HO.out l[j] (List.getElem_mem _)
      have hpt := HT.out l[j] (List.getElem_mem _)
      have hkl : (keyB (l.take j)).length ≤ 2003000 := by
        have h1 := keyB_len (l.take j) (fun x hx => HT.out x (List.mem_of_mem_take hx))
        have h3 : (l.take j).length ≤ 1000 := by rw [List.length_take]; omega
        omega
      generalize hp : l[j] = p at *
      clear hp
      have HKT := Lib.hid hkt
      have HPO := Lib.hid hpo
      clear hkt hpo
      obtain ⟨pk, x, t⟩ := p
      simp only at c1 c2 c3 hpt
      cases pk
      · have hsz1 : (wr.alloc (.cells #[.bool false, .int .i64 x, .string ⟨t.toArray⟩] 45)).heap.size = wr.heap.size + 1 := by simp
        have HZ := Lib.hid hsz1
        clear hsz1
        go_wp2_with (at_builtin; go_loud (refine wpList_append_lit rfl _ _ rfl w.heap.size _ (keyB (l.take j)) rfl (wr.alloc (.cells #[.bool false, .int .i64 x, .string ⟨t.toArray⟩] 45)) (HW.out.alloc _) [1] _ rfl 1 1 rfl _ rfl HZ.out rfl ?c1 ?c2 ?_))
        case c1 => simp; omega
        case c2 => have := HB.out.size; simp; omega
        intro v1 w1 ha1
        have hbk1 := ha1.block wr.heap.size #[.bool false, .int .i64 x, .string ⟨t.toArray⟩] 45 (0, 0) (heap_alloc_new _ _) (by decide)
        have HW1 := Lib.hid ha1.own
        have HB1 := Lib.hid (ha1.below _ (HB.out.alloc HB.out.size _))
        have HK1 := Lib.hid hbk1
        clear ha1 hbk1 HZ
        obtain ⟨gO, rfl⟩ : ∃ x : Nat, x = gk := ⟨_, rfl⟩
        obtain ⟨wo, rfl⟩ : ∃ x : World, x = wr := ⟨_, rfl⟩
        go_wp2_with fail
        go_loopg [3, 10] t.length (fun k v y w2 => ∃ i : Nat, y = .int .i64 (i : Int) ∧ i + k = t.length ∧ Hid (Own w.heap.size w2 v (keyB (l.take j) ++ 1 :: esc (t.take i))) ∧ Hid (w2.heap[wo.heap.size]? = some (.cells #[.bool false, .int .i64 x, .string ⟨t.toArray⟩] 45 (0, 0))) ∧ Hid (Below w.heap.size w w2))
        case atStart => exact ⟨0, rfl, by omega, HW1, HK1, HB1⟩
        case round =>
          obtain ⟨i, rfl, hi, HW2, HK2, HB2⟩ := hrel
          have d2 : wr.cell? ⟨wo.heap.size, 2, none⟩ = some (.string ⟨t.toArray⟩) := by rw [Lib.cell_of_heap HK2.out]; rfl
          have hol := esc_len (t.take i)
          have hol2 : (t.take i).count 0 ≤ (t.take i).length := List.count_le_length
          have hol3 : (t.take i).length ≤ t.length := by rw [List.length_take]; omega
          have hlen : (keyB (l.take j) ++ 1 :: esc (t.take i)).length ≤ 2006000 := by simp only [List.length_append, List.length_cons]; omega
          clear hol hol2 hol3
          have hwB : w.heap.size ≤ wr.heap.size := HB2.out.size
          by_cases hil : i < t.length
          · have hilI : (i : Int) < (t.length : Int) := by omega
            have het := esc_take t i hil
            have hix := fun w => str_at t i hil w
            generalize ht : t[i] = b at *
            clear ht
            have HET := Lib.hid het
            clear het
            by_cases hb : b = 0
            · subst hb
              go_wp2_with (at_builtin; go_loud (refine wpList_append_lit rfl (.tmp 63) (.tmp 68) rfl w.heap.size _ _ rfl wr HW2.out [0] _ rfl 1 1 rfl _ rfl rfl rfl ?d1 ?d2 ?_))
              case d1 => simp only [List.length_cons, List.length_nil]; omega
              case d2 => exact hwB
              intro v3 w3 ha3
              have hbk3 := ha3.block _ _ _ _ HK2.out (by decide)
              have d3 : w3.cell? ⟨wo.heap.size, 2, none⟩ = some (.string ⟨t.toArray⟩) := by rw [Lib.cell_of_heap hbk3]; rfl
              have HW3 := Lib.hid ha3.own
              have HB3 := Lib.hid (ha3.below _ HB2.out)
              have HK3 := Lib.hid hbk3
              have hwB3 := HB3.out.size
              clear ha3 hbk3 d2 HW2 HB2 HK2 hwB
              go_wp2_with (at_builtin; go_loud (refine wpList_append_lit rfl (.tmp 75) (.tmp 76) rfl w.heap.size _ _ rfl w3 HW3.out [255] _ rfl 1 1 rfl _ rfl rfl rfl ?e1 ?e2 ?_))
              case e1 => simp only [List.length_append, List.length_cons, List.length_nil] at hlen ⊢; omega
              case e2 => exact hwB3
              intro v4 w4 ha4
              have HW4 := Lib.hid ha4.own
              have HB4 := Lib.hid (ha4.below _ HB3.out)
              have HK4 := Lib.hid (ha4.block _ _ _ _ HK3.out (by decide))
              clear ha4 d3 HW3 HB3 HK3 hwB3
              go_wp2_with fail
              go_roundg (gk - 1)
              case measure => omega
              case rel => exact ⟨i + 1, by first | rfl | (congr 1), by omega, Lib.hid (by rw [HET.out]; have := HW4.out; simpa [esc] using this), HK4, HB4⟩
            · have hbI : ¬ ((b.toNat : Nat) : Int) = 0 := fun e => hb (UInt8.toNat_inj.1 (by show b.toNat = 0; omega))
              go_wp2_with (at_builtin; go_loud (refine wpList_append_lit rfl (.tmp 63) (.tmp 68) rfl w.heap.size _ _ rfl wr HW2.out [b] _ rfl 1 1 rfl _ rfl rfl rfl ?d1 ?d2 ?_))
              case d1 => simp only [List.length_cons, List.length_nil]; omega
              case d2 => exact hwB
              intro v3 w3 ha3
              have hbk3 := ha3.block _ _ _ _ HK2.out (by decide)
              have d3 : w3.cell? ⟨wo.heap.size, 2, none⟩ = some (.string ⟨t.toArray⟩) := by rw [Lib.cell_of_heap hbk3]; rfl
              have HW3 := Lib.hid ha3.own
              have HB3 := Lib.hid (ha3.below _ HB2.out)
              have HK3 := Lib.hid hbk3
              clear ha3 hbk3 d2 HW2 HB2 HK2 hwB
              go_wp2_with fail
              go_roundg (gk - 1)
              case measure => omega
              case rel => exact ⟨i + 1, by first | rfl | (congr 1), by omega, Lib.hid (by rw [HET.out]; have := HW3.out; simpa [esc, hb] using this), HK3, HB3⟩
          · have hilI : ¬ (i : Int) < (t.length : Int) := by omega
            have hti : t.take i = t := List.take_of_length_le (by omega)
            rw [hti] at HW2 hlen
            clear hti
            go_wp2_with (at_builtin; go_loud (refine wpList_append_lit rfl (.tmp 78) (.tmp 79) rfl w.heap.size _ _ rfl wr HW2.out [0, 0] _ rfl 2 2 rfl _ rfl rfl rfl ?d1 ?d2 ?_))
            case d1 => simp only [List.length_append, List.length_cons] at hlen; (try simp only [List.length_append, List.length_cons, List.length_nil]); omega
            intro v3 w3 ha3
            have HW3 := Lib.hid ha3.own
            have HB3 := Lib.hid (ha3.below _ HB2.out)
            clear ha3 d2 HW2 HB2 HK2 hwB
            go_wp2_with fail
            go_roundg (gO - 1)
            case measure => omega
            case rel => exact ⟨j + 1, by first | rfl | (congr 1), by omega, Lib.hid (by rw [HKT.out]; have := HW3.out; simpa [pb] using this), HB3⟩
      · have hsz1 : (wr.alloc (.cells #[.bool true, .int .i64 x, .string ⟨t.toArray⟩] 45)).heap.size = wr.heap.size + 1 := by simp
        have HZ := Lib.hid hsz1
        clear hsz1
        go_wp2_with (at_builtin; go_loud (refine wpList_append_lit rfl (.tmp 23) (.tmp 24) rfl w.heap.size _ (keyB (l.take j)) rfl (wr.alloc (.cells #[.bool true, .int .i64 x, .string ⟨t.toArray⟩] 45)) (HW.out.alloc _) [2] _ rfl 1 1 rfl _ rfl HZ.out rfl ?c1 ?c2 ?_))
        case c1 => simp; omega
        case c2 => have := HB.out.size; simp; omega
        intro v1 w1 ha1
        have hbk1 := ha1.block wr.heap.size #[.bool true, .int .i64 x, .string ⟨t.toArray⟩] 45 (0, 0) (heap_alloc_new _ _) (by decide)
        have HW1 := Lib.hid ha1.own
        have HB1 := Lib.hid (ha1.below _ (HB.out.alloc HB.out.size _))
        have d1 : w1.cell? ⟨wr.heap.size, 1, none⟩ = some (.int .i64 x) := by rw [Lib.cell_of_heap hbk1]; rfl
        have hx1 : -9223372036854775808 ≤ x := HPO.out.1
        have hx2 : x < 9223372036854775808 := HPO.out.2
        clear ha1 hbk1 HZ
        obtain ⟨gO, rfl⟩ : ∃ x : Nat, x = gk := ⟨_, rfl⟩
        obtain ⟨wo, rfl⟩ : ∃ x : World, x = wr := ⟨_, rfl⟩
        have hand := i64_and255
        have hbn := beN_bytes x hx1 hx2
        have hx8 : bits .xor .u8 (x / 256 / 256 / 256 / 256 / 256 / 256 / 256 % 256) 128 = (x / 256 / 256 / 256 / 256 / 256 / 256 / 256 % 256 + 128) % 256 := u8_xor128 _ (by omega) (by omega)
        have hbl := beN_len 8 (turnN x)
        have hpb : pb ⟨true, x, t⟩ = 2 :: beN 8 (turnN x) := rfl
        generalize beN 8 (turnN x) = D at hbn hbl hpb
        have HBN := Lib.hid hbn
        have HBL := Lib.hid hbl
        have HPB := Lib.hid hpb
        clear hbn hbl hpb
        go_wp2_with fail
        refine wp_loop_rounds 9 ?_
        rw [rounds_succ]; go_wp2_with fail
        rw [rounds_succ]; go_wp2_with fail
        rw [rounds_succ]; go_wp2_with fail
        rw [rounds_succ]; go_wp2_with fail
        rw [rounds_succ]; go_wp2_with fail
        rw [rounds_succ]; go_wp2_with fail
        rw [rounds_succ]; go_wp2_with fail
        rw [rounds_succ]; go_wp2_with fail
        rw [rounds_succ]; go_wp2_with fail
        have hbk2 : (w1.alloc (.cells #[.int .u8 ((x / 256 / 256 / 256 / 256 / 256 / 256 / 256 + 128) % 256), .int .u8 (x / 256 / 256 / 256 / 256 / 256 / 256 % 256), .int .u8 (x / 256 / 256 / 256 / 256 / 256 % 256), .int .u8 (x / 256 / 256 / 256 / 256 % 256), .int .u8 (x / 256 / 256 / 256 % 256), .int .u8 (x / 256 / 256 % 256), .int .u8 (x / 256 % 256), .int .u8 (x % 256)] 59)).heap[w1.heap.size]? = some (.cells (Lib.byteCells D).toArray 59 (0, 0)) := by
          rw [HBN.out]; exact heap_alloc_new _ _
        have HK2 := Lib.hid hbk2
        have HW2 := Lib.hid (HW1.out.alloc (.cells #[.int .u8 ((x / 256 / 256 / 256 / 256 / 256 / 256 / 256 + 128) % 256), .int .u8 (x / 256 / 256 / 256 / 256 / 256 / 256 % 256), .int .u8 (x / 256 / 256 / 256 / 256 / 256 % 256), .int .u8 (x / 256 / 256 / 256 / 256 % 256), .int .u8 (x / 256 / 256 / 256 % 256), .int .u8 (x / 256 / 256 % 256), .int .u8 (x / 256 % 256), .int .u8 (x % 256)] 59))
        have HB2 := Lib.hid (HB1.out.alloc HB1.out.size (.cells #[.int .u8 ((x / 256 / 256 / 256 / 256 / 256 / 256 / 256 + 128) % 256), .int .u8 (x / 256 / 256 / 256 / 256 / 256 / 256 % 256), .int .u8 (x / 256 / 256 / 256 / 256 / 256 % 256), .int .u8 (x / 256 / 256 / 256 / 256 % 256), .int .u8 (x / 256 / 256 / 256 % 256), .int .u8 (x / 256 / 256 % 256), .int .u8 (x / 256 % 256), .int .u8 (x % 256)] 59))
        clear hbk2 hand hx8 HW1 HB1
        go_loopg [3, 9] 8 (fun k v y w2 => ∃ i : Nat, y = .int .i64 (i : Int) ∧ i + k = 8 ∧ Hid (Own w.heap.size w2 v (keyB (l.take j) ++ 2 :: D.take i)) ∧ Hid (w2.heap[w1.heap.size]? = some (.cells (Lib.byteCells D).toArray 59 (0, 0))) ∧ Hid (Below w.heap.size w w2))
        case atStart => exact ⟨0, rfl, by omega, HW2, HK2, HB2⟩
        case round =>
          obtain ⟨i, rfl, hi, HW3, HK3, HB3⟩ := hrel
          have hwB : w.heap.size ≤ wr.heap.size := HB3.out.size
          by_cases hil : i < 8
          · have hiD : i < D.length := by rw [HBL.out]; exact hil
            have hilI : (i : Int) < 8 := by omega
            have hcell : wr.cell? ⟨w1.heap.size, i, none⟩ = some (.int .u8 (D[i].toNat : Nat)) := by
              rw [Lib.cell_of_heap HK3.out]
              simp [Lib.byteCells, hiD]
            have htk : D.take (i + 1) = D.take i ++ [D[i]] := List.take_succ_eq_append_getElem hiD
            have HTK := Lib.hid htk
            clear htk
            generalize D[i] = b at *
            go_wp2_with (at_builtin; go_loud (refine wpList_append_lit rfl (.tmp 47) (.tmp 51) rfl w.heap.size _ _ rfl wr HW3.out [b] _ rfl 1 1 rfl _ rfl rfl rfl ?g1 ?g2 ?_))
            case g1 => simp only [List.length_append, List.length_cons, List.length_nil, List.length_take]; omega
            case g2 => exact hwB
            intro v4 w4 ha4
            have HW4 := Lib.hid ha4.own
            have HB4 := Lib.hid (ha4.below _ HB3.out)
            have HK4 := Lib.hid (ha4.block _ _ _ _ HK3.out (by decide))
            clear ha4 hcell HW3 HB3 HK3 hwB
            go_wp2_with fail
            go_roundg (gk - 1)
            case measure => omega
            case rel => exact ⟨i + 1, by first | rfl | (congr 1), by omega, Lib.hid (by rw [HTK.out]; have := HW4.out; simpa using this), HK4, HB4⟩
          · have hilI : ¬ (i : Int) < 8 := by omega
            have htk : D.take i = D := List.take_of_length_le (by rw [HBL.out]; omega)
            rw [htk] at HW3
            clear htk
            go_wp2_with fail
            go_roundg (gO - 1)
            case measure => omega
            case rel => exact ⟨j + 1, by first | rfl | (congr 1), by omega, Lib.hid (by rw [HKT.out, HPB.out]; exact HW3.out), HB3⟩
    · have hge : ¬ (j : Int) < (l.length : Int) := by omega
      have e : l.take j = l := List.take_of_length_le (by omega)
      rw [e] at HW
      obtain ⟨a', c', rfl, hrd⟩ := HW.out.shape
      have hcv := str_of_rd hrd _ c' rfl
      clear hrd e
      go_wp2_with fail
      refine bodyPost_ret (results_tmp rfl _ _ _) rfl ?_
      exact ⟨rfl, HB.out⟩
end Go.Proofs.YtjofjgjocgooeaaDoor

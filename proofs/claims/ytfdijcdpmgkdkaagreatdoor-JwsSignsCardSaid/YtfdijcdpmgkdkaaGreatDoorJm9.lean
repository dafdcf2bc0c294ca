/- Merged: B64d, B64s, B64f, Jw9, JwA, GrowF, JwB. -/
import Derived.Deep.DeepCutAuto
import Derived.Lib.SlBytesConst
import Derived.Test.YtfdijcdpmgkdkaaGreatDoorJm1
import Derived.Test.YtfdijcdpmgkdkaaGreatDoorJm2
import Derived.Test.YtfdijcdpmgkdkaaGreatDoorJm3
import Derived.Test.YtfdijcdpmgkdkaaGreatDoorJm4
import Derived.Test.YtfdijcdpmgkdkaaGreatDoorJm5
import Derived.Test.YtfdijcdpmgkdkaaGreatDoorJm6
import Derived.Test.YtfdijcdpmgkdkaaGreatDoorJm7
import Derived.Test.YtfdijcdpmgkdkaaGreatDoorJm8
set_option linter.unusedVariables false
namespace Go.Proofs.YtfdijcdpmgkdkaaGreatDoor
open Go.RowKit

set_option maxHeartbeats 400000 in
theorem letter_walk (n : Nat) (w : World) (h : n < 64) (hv : (lt64 n).toNat = if n < 26 then 65 + n else if n < 52 then 71 + n else if n < 62 then n - 4 else if n = 62 then 45 else 95) :
    Calls Tryz.prog 110 #[.int .i64 n] w fun e w' => e = .returned (.int .u8 (lt64 n).toNat) ∧ w' = w := by
  have HV := Lib.hid hv
  clear hv
  by_cases h1 : n < 26
  · go_enter Tryz.func110, Tryz.ntmps110
    go_wp2
    go_ret
    rw [HV.out, if_pos h1]
    exact ⟨by simp, rfl⟩
  by_cases h2 : n < 52
  · go_enter Tryz.func110, Tryz.ntmps110
    go_wp2
    go_ret
    rw [HV.out, if_neg h1, if_pos h2]
    exact ⟨by simp; omega, rfl⟩
  by_cases h3 : n < 62
  · go_enter Tryz.func110, Tryz.ntmps110
    go_wp2
    go_ret
    rw [HV.out, if_neg h1, if_neg h2, if_pos h3]
    exact ⟨by simp; omega, rfl⟩
  by_cases h4 : n = 62
  · subst h4
    go_enter Tryz.func110, Tryz.ntmps110
    go_wp2
    go_ret
    exact ⟨rfl, rfl⟩
  · have : n = 63 := by omega
    subst this
    go_enter Tryz.func110, Tryz.ntmps110
    go_wp2
    go_ret
    exact ⟨rfl, rfl⟩

theorem lt64_val : ∀ n, n < 64 → (lt64 n).toNat = if n < 26 then 65 + n else if n < 52 then 71 + n else if n < 62 then n - 4 else if n = 62 then 45 else 95 := by decide

theorem letter_any (N : Int) (n : Nat) (w : World) (hN : N = n) (h : n < 64) :
    Calls Tryz.prog 110 #[.int .i64 N] w fun e w' => e = .returned (.int .u8 (lt64 n).toNat) ∧ w' = w := by
  subst hN
  exact letter_walk n w h (lt64_val n h)

set_option maxRecDepth 100000 in
set_option maxHeartbeats 2000000 in
theorem refEncode_any (a : Option Addr) (l : List UInt8) (cp : Nat) (w : World) (hr : Rd w a l) (hl : l.length ≤ 1000000) :
    Calls Tryz.prog 71 #[.slice a l.length cp] w fun e w' => e = .returned (.string ⟨(enc3 l).toArray⟩) ∧ Below w.heap.size w w' := by
  go_enter Tryz.func71, Tryz.ntmps71
  go_wp2
  go_loopg [3, 4] (l.length + 3) (fun k v i wr => ∃ (j : Nat) (o : List UInt8), j + k = l.length + 3 ∧ j ≤ l.length + 2 ∧ i = .int .i64 j ∧ o.length ≤ 4 * j ∧ Own w.heap.size wr v o ∧ Below w.heap.size w wr ∧ Hid (o ++ enc3 (l.drop j) = enc3 l))
  case atStart => exact ⟨0, [], by omega, by omega, rfl, by simp, Own.nil _ _, Below.refl _ _, Lib.hid (by simp)⟩
  case round =>
    obtain ⟨gO, rfl⟩ : ∃ x : Nat, x = gk := ⟨_, rfl⟩
    obtain ⟨j, o, hj, hj2, rfl, hol, hown, hbel, hfin⟩ := hrel
    by_cases hlt : j < l.length
    · obtain ⟨b, off, rfl, hc⟩ := hr.at hlt
      have hc0 := cell_now hbel (hc j hlt)
      have hx0 : (l[j]).toNat < 256 := (l[j]).toNat_lt
      go_upto_if 25 with (fail)
      go_cut [5, 6] (fun x y wc => ∃ n k : Nat, x = .int .i64 n ∧ y = .int .i64 k ∧ G1 l j n k ∧ wr = wc)
      case first =>
        by_cases h1 : j + 1 < l.length
        · have hc1 := cell_now hbel (hc (j + 1) h1)
          have hx1 : (l[j + 1]).toNat < 256 := (l[j + 1]).toNat_lt
          go_wp2_with fail
          go_meet
          exact ⟨(l[j]).toNat * 65536 + (l[j + 1]).toNat * 256, 3, by simp, rfl, .inl ⟨h1, rfl, rfl⟩, rfl⟩
        · go_wp2_with fail
          go_meet
          exact ⟨(l[j]).toNat * 65536, 2, by simp, rfl, .inr ⟨by omega, rfl, rfl⟩, rfl⟩
      case rest =>
        obtain ⟨n1, k1, rfl, rfl, hg1, rfl⟩ := hcut
        clear hc0
        have hn1 : n1 < 16777216 := by
          rcases hg1 with ⟨h, e, _⟩ | ⟨h, e, _⟩
          · have := (l[j + 1]'h).toNat_lt; omega
          · omega
        go_upto_if 39 with (fail)
        go_cut [5, 6] (fun x y wc => ∃ n k : Nat, x = .int .i64 n ∧ y = .int .i64 k ∧ G2 l j n k ∧ wr = wc)
        case first =>
          by_cases h2 : j + 2 < l.length
          · have hc2 := cell_now hbel (hc (j + 2) h2)
            have hx2 : (l[j + 2]).toNat < 256 := (l[j + 2]).toNat_lt
            go_wp2_with fail
            go_meet
            refine ⟨n1 + (l[j + 2]).toNat, 4, by simp, rfl, ?_, rfl⟩
            rcases hg1 with ⟨h, e, _⟩ | ⟨h, e, _⟩
            · exact G2_of3 l j _ h2 (by rw [e])
            · omega
          · go_wp2_with fail
            go_meet
            refine ⟨n1, k1, rfl, rfl, ?_, rfl⟩
            rcases hg1 with ⟨h, rfl, rfl⟩ | ⟨h, rfl, rfl⟩
            · exact G2_of2 l j _ (by omega) rfl
            · exact G2_of1 l j _ h rfl
        case rest =>
          clear hg1 hn1
          obtain ⟨n, k, rfl, rfl, hg2, rfl⟩ := hcut
          clear n1 k1
          obtain ⟨hn, hk2, hk4, hjl, heq⟩ := hg2
          have HEQ := Lib.hid heq
          clear heq
          have hnI : (n : Int) < 16777216 := by omega
          have hcells : ints (four n) = [.int .i64 ((n : Int) / 262144), .int .i64 ((n : Int) / 4096 % 64), .int .i64 ((n : Int) / 64 % 64), .int .i64 ((n : Int) % 64)] := by simp [ints, four]
          have HC := Lib.hid hcells
          clear hcells
          have hown2 := hown.alloc (.cells #[.int .i64 ((n : Int) / 262144), .int .i64 ((n : Int) / 4096 % 64), .int .i64 ((n : Int) / 64 % 64), .int .i64 ((n : Int) % 64)] 145)
          have hnew := heap_alloc_new wr (.cells #[.int .i64 ((n : Int) / 262144), .int .i64 ((n : Int) / 4096 % 64), .int .i64 ((n : Int) / 64 % 64), .int .i64 ((n : Int) % 64)] 145)
          have hbel2 := hbel.alloc hbel.size (.cells #[.int .i64 ((n : Int) / 262144), .int .i64 ((n : Int) / 4096 % 64), .int .i64 ((n : Int) / 64 % 64), .int .i64 ((n : Int) % 64)] 145)
          have hblock : (wr.alloc (.cells #[.int .i64 ((n : Int) / 262144), .int .i64 ((n : Int) / 4096 % 64), .int .i64 ((n : Int) / 64 % 64), .int .i64 ((n : Int) % 64)] 145)).heap[wr.heap.size]? = some (.cells (ints (four n)).toArray 145) := by
            rw [HC.out]; exact hnew
          have HN := Lib.hid hnew
          have HB := Lib.hid hblock
          clear hnew hblock
          go_wp2
          go_loopg [3, 8] k (fun q v2 x wq => ∃ i : Nat, i + q = k ∧ x = .int .i64 i ∧ Own w.heap.size wq v2 (o ++ (fourL n).take i) ∧ Below w.heap.size w wq ∧ Hid (wq.heap[wr.heap.size]? = some (.cells (ints (four n)).toArray 145)))
          case atStart =>
            refine ⟨0, by omega, rfl, ?_, ?_, ?_⟩
            · simpa using hown2
            · exact hbel2
            · exact HB
          case round =>
            obtain ⟨i, hi, rfl, hown3, hbel3, hblk⟩ := hrel
            by_cases hik : i < k
            · have hi4 : i < 4 := by omega
              have hcell := cell_ints hblk.out (j := i) hi4
              have hlt64 := four_lt n hn i hi4
              go_wp2_with fail
              refine (letter_any _ _ _ rfl hlt64).mono ?_
              rintro e w2 ⟨rfl, rfl⟩
              obtain ⟨x, hx⟩ : ∃ x, lt64 (four n)[i] = x := ⟨_, rfl⟩
              rw [hx]
              have htk : (o ++ (fourL n).take i) ++ [x] = o ++ (fourL n).take (i + 1) := by
                rw [List.take_succ_eq_append_getElem (show i < (fourL n).length by simp [fourL, four]; omega), ← hx]
                simp [fourL]
                rfl
              have HX := Lib.hid htk
              clear hx htk hcell
              have hle : (o ++ (fourL n).take i).length ≤ 5000000 := by
                have : ((fourL n).take i).length ≤ 4 := by simp [fourL, four]; omega
                simp only [List.length_append]
                omega
              go_wp2_with (at_builtin; go_loud (refine wpList_append_rd rfl (.tmp 64) (.tmp 69) rfl w.heap.size _ (o ++ (fourL n).take i) rfl (hown3.alloc _) (some ⟨w2.heap.size, 0, none⟩) [x] 1 1 rfl rfl (Rd.of_lit [x] (heap_alloc_new _ _)) ?c1 ?c2 ?_))
              case c1 => simp only [List.length_singleton]; omega
              case c2 => have := hbel3.size; simp; omega
              intro v4 w4 hown4 hg4
              have hblk4 := Lib.hid ((hown3.alloc (.cells #[.int .u8 x.toNat] 5)).other hg4 (block_alloc hblk.out _) (by decide))
              have hbel4 := below_grow (hbel3.alloc hbel3.size (.cells #[.int .u8 x.toNat] 5)) (hown3.alloc _) hg4 (by have := hbel3.size; simp; omega)
              go_wp2
              go_roundg (gk - 1)
              case measure => omega
              case rel => exact ⟨i + 1, by omega, by go_num, by rw [← HX.out, List.append_assoc]; exact hown4, hbel4, hblk4⟩
            · have hik2 : i = k := by omega
              have HIK := Lib.hid hik2
              clear hik2
              go_wp2
              go_roundg (gO - 3)
              case measure => omega
              case rel =>
                have e := HIK.out
                subst e
                refine ⟨j + 3, _, by omega, by omega, by go_num, ?_, hown3, hbel3, Lib.hid ?_⟩
                · have : ((fourL n).take i).length ≤ 4 := by simp [fourL, four]; omega
                  simp only [List.length_append]
                  omega
                · rw [← hfin.out, HEQ.out, List.append_assoc]
    · have hdrop : l.drop j = [] := List.drop_eq_nil_of_le (by omega)
      have ho : o = enc3 l := by
        have := hfin.out
        rw [hdrop] at this
        simpa [enc3] using this
      subst ho
      obtain ⟨a2, c2, rfl, hr2⟩ := hown.shape
      have hconv := str_of_rd hr2 _ c2 rfl
      clear hdrop hfin
      go_wp2
      go_ret
      exact ⟨rfl, hbel⟩

theorem refEncode_at (a : Option Addr) (l : List UInt8) (n cp : Nat) (w : World) (hr : Rd w a l) (hn : n = l.length) (hl : l.length ≤ 1000000) :
    Calls Tryz.prog 71 #[.slice a n cp] w fun e w' => e = .returned (.string ⟨(enc l).toArray⟩) ∧ Below w.heap.size w w' := by
  subst hn
  rw [enc_eq]
  exact refEncode_any a l cp w hr hl
end Go.Proofs.YtfdijcdpmgkdkaaGreatDoor
set_option linter.unusedVariables false
namespace Go.Proofs.YtfdijcdpmgkdkaaGreatDoor

/-- What the reference's number answers. -/
def numI (x : UInt8) : Int := match num64 x with | none => -1 | some k => k
def numCh (c : Nat) : Int := if 65 ≤ c ∧ c ≤ 90 then c - 65 else if 97 ≤ c ∧ c ≤ 122 then c - 71 else if 48 ≤ c ∧ c ≤ 57 then c + 4 else if c = 45 then 62 else if c = 95 then 63 else -1
theorem numI_all : ∀ n, n < 256 → numI (UInt8.ofNat n) = numCh n := by decide +kernel
theorem numI_eq (x : UInt8) : numI x = numCh x.toNat := by
  have := numI_all x.toNat x.toNat_lt
  simpa using this
theorem numI_cases (x : UInt8) : (num64 x = none ∧ numI x = -1) ∨ ∃ k : Nat, num64 x = some k ∧ numI x = k ∧ k < 64 := by
  unfold numI
  cases h : num64 x with
  | none => exact .inl ⟨rfl, rfl⟩
  | some k => exact .inr ⟨k, rfl, rfl, (num64_some x k h).1⟩

/-- The number of up to four letters, after t rounds. -/
def gv (t : Nat) (ms : List Nat) : Nat := ms.foldl (fun a x => a * 64 + x) 0 * 64 ^ (t - ms.length)
theorem gv_more (t : Nat) (ms : List Nat) (x : Nat) (h : ms.length = t) : gv (t + 1) (ms ++ [x]) = gv t ms * 64 + x := by
  simp [gv, h]
theorem gv_skip (t : Nat) (ms : List Nat) (h : ms.length ≤ t) : gv (t + 1) ms = gv t ms * 64 := by
  unfold gv
  rw [show t + 1 - ms.length = (t - ms.length) + 1 by omega, Nat.pow_succ, Nat.mul_assoc]
theorem fold64_lt (ms : List Nat) : ∀ a, (∀ x ∈ ms, x < 64) → ms.foldl (fun a x => a * 64 + x) a < (a + 1) * 64 ^ ms.length := by
  induction ms with
  | nil => intro a _; simp
  | cons x l ih =>
    intro a h
    have h1 := ih (a * 64 + x) (fun y hy => h y (by simp [hy]))
    have hx := h x (by simp)
    simp only [List.foldl_cons, List.length_cons]
    calc _ < (a * 64 + x + 1) * 64 ^ l.length := h1
      _ ≤ ((a + 1) * 64) * 64 ^ l.length := Nat.mul_le_mul_right _ (by omega)
      _ = (a + 1) * 64 ^ (l.length + 1) := by rw [Nat.pow_succ, Nat.mul_assoc, Nat.mul_comm 64]
theorem gv_lt (t : Nat) (ms : List Nat) (h : ms.length ≤ t) (hm : ∀ x ∈ ms, x < 64) : gv t ms < 64 ^ t := by
  unfold gv
  have h1 := fold64_lt ms 0 hm
  calc _ < (0 + 1) * 64 ^ ms.length * 64 ^ (t - ms.length) := Nat.mul_lt_mul_of_pos_right h1 (Nat.pow_pos (by decide))
    _ = 64 ^ t := by rw [Nat.zero_add, Nat.one_mul, ← Nat.pow_add]; congr 1; omega

/-- The three bytes of a number of 24 bits. -/
def three (n : Nat) : List Nat := [n / 65536, n / 256 % 256, n % 256]
theorem dec4_grp (ms : List Nat) (h64 : ∀ x ∈ ms, x < 64) (h2 : 2 ≤ ms.length) (h4 : ms.length ≤ 4) :
    dec4 ms = if (∀ x ∈ (three (gv 4 ms)).drop (ms.length - 1), x = 0) then some (((three (gv 4 ms)).take (ms.length - 1)).map byt) else none := by
  match ms, h2, h4 with
  | [a, b], _, _ =>
    have ha : a < 64 := h64 a (by simp)
    have hb : b < 64 := h64 b (by simp)
    have e0 : gv 4 [a, b] = (a * 64 + b) * 4096 := by simp [gv]
    have e1 : (a * 64 + b) * 4096 / 65536 = a * 4 + b / 16 := by omega
    have e2 : (a * 64 + b) * 4096 / 256 % 256 = b % 16 * 16 := by omega
    have e3 : (a * 64 + b) * 4096 % 256 = 0 := by omega
    rw [e0]
    simp only [dec4, three, e1, e2, e3, List.length_cons, List.length_nil]
    by_cases h : b % 16 = 0
    · simp [h]
    · simp [h]; omega
  | [a, b, c], _, _ =>
    have ha : a < 64 := h64 a (by simp)
    have hb : b < 64 := h64 b (by simp)
    have hc : c < 64 := h64 c (by simp)
    have e0 : gv 4 [a, b, c] = ((a * 64 + b) * 64 + c) * 64 := by simp [gv]
    have e1 : ((a * 64 + b) * 64 + c) * 64 / 65536 = a * 4 + b / 16 := by omega
    have e2 : ((a * 64 + b) * 64 + c) * 64 / 256 % 256 = b % 16 * 16 + c / 4 := by omega
    have e3 : ((a * 64 + b) * 64 + c) * 64 % 256 = c % 4 * 64 := by omega
    rw [e0]
    simp only [dec4, three, e1, e2, e3, List.length_cons, List.length_nil]
    by_cases h : c % 4 = 0
    · simp [h]
    · simp [h]; omega
  | [a, b, c, d], _, _ =>
    have ha : a < 64 := h64 a (by simp)
    have hb : b < 64 := h64 b (by simp)
    have hc : c < 64 := h64 c (by simp)
    have hd : d < 64 := h64 d (by simp)
    have e0 : gv 4 [a, b, c, d] = ((a * 64 + b) * 64 + c) * 64 + d := by simp [gv]
    have e1 : (((a * 64 + b) * 64 + c) * 64 + d) / 65536 = a * 4 + b / 16 := by omega
    have e2 : (((a * 64 + b) * 64 + c) * 64 + d) / 256 % 256 = b % 16 * 16 + c / 4 := by omega
    have e3 : (((a * 64 + b) * 64 + c) * 64 + d) % 256 = c % 4 * 64 + d := by omega
    rw [e0]
    simp [dec4, three, e1, e2, e3]

theorem dec4_app : ∀ (ns rest : List Nat), ns.length % 4 = 0 → dec4 (ns ++ rest) = (dec4 ns).bind fun a => (dec4 rest).map (a ++ ·)
  | [], rest, _ => by cases h : dec4 rest <;> simp [dec4, h]
  | [a], rest, h => by simp at h
  | [a, b], rest, h => by simp at h
  | [a, b, c], rest, h => by simp at h
  | a :: b :: c :: d :: t, rest, h => by
    have := dec4_app t rest (by simp only [List.length_cons] at h; omega)
    simp only [List.cons_append, dec4, this]
    cases dec4 t <;> cases dec4 rest <;> simp

theorem dec_odd (l : List UInt8) (h : l.length % 4 = 1) : dec l = none := by
  rw [dec_eq]
  cases hn : nums l with
  | none => rfl
  | some ns =>
    have hl := nums_len l ns hn
    have : ∀ (ms : List Nat), ms.length % 4 = 1 → dec4 ms = none := by
      intro ms
      fun_induction dec4 ms with
      | case1 a b c d t ih => intro h; simp only [List.length_cons] at h; rw [ih (by omega)]; rfl
      | case2 => intro h; simp at h
      | case3 => intro h; simp at h
      | case4 => intro h; simp at h
      | case5 => intro h; simp at h
      | case6 => intro h; rfl
      | case7 => intro h; simp at h
    exact this ns (by omega)

theorem three_lt (G : Nat) (h : G < 16777216) (q : Nat) (hq : q < 3) : (three G)[q]'hq < 256 := by
  match q, hq with
  | 0, _ => show G / 65536 < 256; omega
  | 1, _ => show G / 256 % 256 < 256; omega
  | 2, _ => show G % 256 < 256; omega
/-- All that stand behind the first ones are noughts, up to the q-th. -/
def Zer (G m q : Nat) : Prop := ∀ i (h : i < 3), i < q → m - 1 ≤ i → (three G)[i]'h = 0
theorem Zer.end {G m : Nat} (h : Zer G m 3) : ∀ x ∈ (three G).drop (m - 1), x = 0 := by
  intro x hx
  obtain ⟨i, hi, rfl⟩ := List.mem_iff_getElem.1 hx
  have h3 : (three G).length = 3 := rfl
  have hi' : m - 1 + i < 3 := by simp only [List.length_drop, h3] at hi; omega
  rw [List.getElem_drop]
  exact h (m - 1 + i) hi' hi' (by omega)
theorem Zer.not {G m q : Nat} (hq : q < 3) (hm : m - 1 ≤ q) (hx : (three G)[q]'hq ≠ 0) : ¬ ∀ x ∈ (three G).drop (m - 1), x = 0 := by
  intro h
  refine hx (h _ (List.mem_iff_getElem.2 ⟨q - (m - 1), ?_, ?_⟩))
  · have h3 : (three G).length = 3 := rfl
    simp only [List.length_drop, h3]; omega
  · rw [List.getElem_drop]; congr 1; omega
end Go.Proofs.YtfdijcdpmgkdkaaGreatDoor
set_option linter.unusedVariables false
namespace Go.Proofs.YtfdijcdpmgkdkaaGreatDoor
open Go.RowKit

set_option maxHeartbeats 1000000 in
theorem number_walk (c : Nat) (w : World) (hc : c < 256) :
    Calls Tryz.prog 120 #[.int .u8 c] w fun e w' => e = .returned (.int .i64 (numCh c)) ∧ w' = w := by
  by_cases h1 : 65 ≤ c ∧ c ≤ 90
  · have hv : numCh c = c - 65 := by unfold numCh; rw [if_pos h1]
    have HV := Lib.hid hv
    obtain ⟨h1, h2⟩ := h1
    clear hv
    go_enter Tryz.func120, Tryz.ntmps120
    go_wp2
    go_ret
    exact ⟨by rw [HV.out]; simp, rfl⟩
  by_cases h2 : 97 ≤ c ∧ c ≤ 122
  · have hv : numCh c = c - 71 := by unfold numCh; rw [if_neg h1, if_pos h2]
    have HV := Lib.hid hv
    obtain ⟨h3, h4⟩ := h2
    clear hv
    go_enter Tryz.func120, Tryz.ntmps120
    go_wp2
    go_ret
    exact ⟨by rw [HV.out]; simp; omega, rfl⟩
  by_cases h3 : 48 ≤ c ∧ c ≤ 57
  · have hv : numCh c = c + 4 := by unfold numCh; rw [if_neg h1, if_neg h2, if_pos h3]
    have HV := Lib.hid hv
    obtain ⟨h5, h6⟩ := h3
    clear hv
    go_enter Tryz.func120, Tryz.ntmps120
    go_wp2
    go_ret
    exact ⟨by rw [HV.out]; simp; omega, rfl⟩
  by_cases h4 : c = 45
  · subst h4
    go_enter Tryz.func120, Tryz.ntmps120
    go_wp2
    go_ret
    exact ⟨rfl, rfl⟩
  by_cases h5 : c = 95
  · subst h5
    go_enter Tryz.func120, Tryz.ntmps120
    go_wp2
    go_ret
    exact ⟨rfl, rfl⟩
  · have hv : numCh c = -1 := by unfold numCh; rw [if_neg h1, if_neg h2, if_neg h3, if_neg h4, if_neg h5]
    have HV := Lib.hid hv
    clear hv
    have e4 : ((c : Int) == 45) = false := by simp; omega
    have e5 : ((c : Int) == 95) = false := by simp; omega
    go_enter Tryz.func120, Tryz.ntmps120
    go_wp2
    all_goals (go_ret; exact ⟨by rw [HV.out]; rfl, rfl⟩)

theorem number_any (C : Int) (x : UInt8) (w : World) (hC : C = x.toNat) :
    Calls Tryz.prog 120 #[.int .u8 C] w fun e w' => e = .returned (.int .i64 (numI x)) ∧ w' = w := by
  subst hC
  rw [numI_eq]
  exact number_walk x.toNat w x.toNat_lt

/-- What the reference's Decode answers. -/
def RefDec (B : Nat) (l : List UInt8) (w : World) (e : Ending) (w' : World) : Prop :=
  Below B w w' ∧ ((dec l = none ∧ e = .returned (.tuple #[.slice none 0 0, .bool false])) ∨ ∃ b v, dec l = some b ∧ b.length ≤ l.length ∧ e = .returned (.tuple #[v, .bool true]) ∧ Own B w' v b)

/-- At the head of a group: what is told so far. -/
def Head4 (l : List UInt8) (i : Nat) (ns : List Nat) (o : List UInt8) : Prop :=
  nums (l.take i) = some ns ∧ (i < l.length → ns.length % 4 = 0) ∧ dec4 ns = some o ∧ i % 4 = 0
/-- In a group: the numbers of its letters. -/
def In4 (l : List UInt8) (i t : Nat) (ns ms : List Nat) : Prop :=
  nums (l.take (i + t)) = some (ns ++ ms) ∧ ms.length ≤ t ∧ ms.length + i = min (i + t) l.length

theorem In4.more {l : List UInt8} {i t k : Nat} {ns ms : List Nat} (h : In4 l i t ns ms) (hlt : i + t < l.length) (hk : num64 l[i + t] = some k) : In4 l i (t + 1) ns (ms ++ [k]) ∧ gv (t + 1) (ms ++ [k]) = gv t ms * 64 + k := by
  obtain ⟨h1, h2, h3⟩ := h
  refine ⟨⟨?_, by simp; omega, by simp; omega⟩, gv_more t ms k (by omega)⟩
  rw [show i + (t + 1) = (i + t) + 1 by omega, List.take_succ_eq_append_getElem hlt, ← List.append_assoc]
  exact nums_snoc _ _ _ _ h1 hk
theorem In4.skip {l : List UInt8} {i t : Nat} {ns ms : List Nat} (h : In4 l i t ns ms) (hlt : l.length ≤ i + t) : In4 l i (t + 1) ns ms ∧ gv (t + 1) ms = gv t ms * 64 := by
  obtain ⟨h1, h2, h3⟩ := h
  refine ⟨⟨?_, by omega, by omega⟩, gv_skip t ms h2⟩
  rw [List.take_of_length_le (by omega)] at h1 ⊢
  exact h1
theorem In4.lt {l : List UInt8} {i t : Nat} {ns ms : List Nat} (h : In4 l i t ns ms) : ∀ x ∈ ms, x < 64 := fun x hx => (nums_some _ _ h.1).1 x (by simp [hx])

set_option maxRecDepth 100000 in
set_option maxHeartbeats 4000000 in
theorem refDecode_any (s : ByteArray) (w : World) (hl : s.size ≤ 1000000) :
    Calls Tryz.prog 79 #[.string s] w fun e w' => RefDec w.heap.size s.data.toList w e w' := by
  have hsz : s.data.toList.length = s.size := by simp
  have HSZ := Lib.hid hsz
  by_cases hodd : s.size % 4 = 1
  · have ht : (((s.size : Int) % 4) == 1) = true := by simp; omega
    have hd := dec_odd s.data.toList (by rw [hsz]; exact hodd)
    clear hsz hodd
    have HD := Lib.hid hd
    clear hd
    go_enter Tryz.func79, Tryz.ntmps79
    go_wp2
    go_ret2
    exact ⟨Below.refl _ _, .inl ⟨HD.out, rfl⟩⟩
  have ht : (((s.size : Int) % 4) == 1) = false := by simp; omega
  have HODD := Lib.hid hodd
  clear hsz hodd
  go_enter Tryz.func79, Tryz.ntmps79
  go_wp2
  go_loopg [4, 5] (s.size + 4) (fun k v i wr => ∃ (j : Nat) (ns : List Nat) (o : List UInt8), j + k = s.size + 4 ∧ j < s.size + 4 ∧ i = .int .i64 j ∧ o.length ≤ j ∧ (s.size ≤ j → o.length ≤ s.size) ∧ Hid (Head4 s.data.toList j ns o) ∧ Own w.heap.size wr v o ∧ Below w.heap.size w wr)
  case atStart => exact ⟨0, [], [], by omega, by omega, rfl, by simp, by simp, Lib.hid ⟨rfl, fun _ => rfl, rfl, rfl⟩, Own.nil _ _, Below.refl _ _⟩
  case round =>
    obtain ⟨gO, rfl⟩ : ∃ x : Nat, x = gk := ⟨_, rfl⟩
    obtain ⟨j, ns, o, hj, hj4, rfl, hol, hol2, hhead, hown, hbel⟩ := hrel
    by_cases hlt : j < s.size
    · go_wp2
      go_loopg [6, 7, 8] 4 (fun q x y z wq => ∃ (t : Nat) (ms : List Nat), t + q = 4 ∧ z = .int .i64 (↑(j + t)) ∧ x = .int .i64 (gv t ms) ∧ y = .int .i64 ms.length ∧ Hid (In4 s.data.toList j t ns ms) ∧ wr = wq)
      case atStart =>
        refine ⟨0, [], by omega, rfl, rfl, rfl, Lib.hid ⟨?_, by simp, ?_⟩, rfl⟩
        · simpa using hhead.out.1
        · simp [HSZ.out]; omega
      case round =>
        obtain ⟨t, ms, ht4, rfl, rfl, rfl, hin, rfl⟩ := hrel
        have hgv := gv_lt t ms hin.out.2.1 hin.out.lt
        by_cases htt : t < 4
        · have hgv3 : gv t ms < 262144 := Nat.lt_of_lt_of_le hgv (Nat.pow_le_pow_right (by decide) (show t ≤ 3 by omega))
          have hml : ms.length ≤ 3 := by have := hin.out.2.1; omega
          obtain ⟨G, hG⟩ : ∃ G, gv t ms = G := ⟨_, rfl⟩
          rw [hG] at hgv3
          rw [hG]
          have HG := Lib.hid hG
          clear hgv hG
          by_cases hjt : j + t < s.size
          · have hix := index_at s (j + t) hjt
            have hjt2 : j + t < s.data.toList.length := by rw [HSZ.out]; exact hjt
            have hval : ((s[j + t].toNat : Nat) : Int) = ((s.data.toList[j + t]).toNat : Int) := by simp; rfl
            have HVAL := Lib.hid hval
            clear hix hval
            go_wp2_with fail
            refine (number_any _ s.data.toList[j + t] _ ?_).mono ?_
            · exact HVAL.out
            rintro e w1 ⟨rfl, rfl⟩
            rcases numI_cases s.data.toList[j + t] with ⟨hn, he⟩ | ⟨k, hn, he, hk64⟩
            · rw [he]
              have HN := Lib.hid hn
              clear hn he
              go_wp2
              go_ret2
              exact ⟨hbel, .inl ⟨dec_none _ _ hjt2 HN.out, rfl⟩⟩
            · rw [he]
              have HN := Lib.hid hn
              clear hn he
              go_wp2
              go_roundg (gk - 1)
              case measure => omega
              case rel =>
                obtain ⟨h1, h2⟩ := hin.out.more hjt2 HN.out
                rw [HG.out] at h2
                exact ⟨t + 1, ms ++ [k], by omega, by go_num, by rw [h2]; go_num, by simp, Lib.hid h1, rfl⟩
          · go_wp2
            go_roundg (gk - 1)
            case measure => omega
            case rel =>
              obtain ⟨h1, h2⟩ := hin.out.skip (by rw [HSZ.out]; omega)
              rw [HG.out] at h2
              exact ⟨t + 1, ms, by omega, by go_num, by rw [h2]; go_num, rfl, Lib.hid h1, rfl⟩
        · have ht4' : t = 4 := by omega
          subst ht4'
          have hgv4 : gv 4 ms < 16777216 := hgv
          obtain ⟨G, hG⟩ : ∃ G, gv 4 ms = G := ⟨_, rfl⟩
          rw [hG] at hgv4
          rw [hG]
          have HG := Lib.hid hG
          clear hgv hG
          have hml4 : ms.length ≤ 4 := hin.out.2.1
          have hml2 : 2 ≤ ms.length := by
            have h3 := hin.out.2.2
            have h4 := hhead.out.2.2.2
            have h5 := HODD.out
            rw [HSZ.out] at h3
            omega
          obtain ⟨m, hm⟩ : ∃ m, ms.length = m := ⟨_, rfl⟩
          rw [hm] at hml4 hml2
          rw [hm]
          have HM := Lib.hid hm
          clear hm
          have hcells : ints8 (three G) = [.int .u8 ((G : Int) / 65536), .int .u8 ((G : Int) / 256 % 256), .int .u8 ((G : Int) % 256)] := by simp [ints8, three]
          have HC := Lib.hid hcells
          clear hcells
          have hown2 := hown.alloc (.cells #[.int .u8 ((G : Int) / 65536), .int .u8 ((G : Int) / 256 % 256), .int .u8 ((G : Int) % 256)] 157)
          have hbel2 := hbel.alloc hbel.size (.cells #[.int .u8 ((G : Int) / 65536), .int .u8 ((G : Int) / 256 % 256), .int .u8 ((G : Int) % 256)] 157)
          have hblock : (wr.alloc (.cells #[.int .u8 ((G : Int) / 65536), .int .u8 ((G : Int) / 256 % 256), .int .u8 ((G : Int) % 256)] 157)).heap[wr.heap.size]? = some (.cells (ints8 (three G)).toArray 157) := by
            rw [HC.out]; exact heap_alloc_new wr _
          have HB := Lib.hid hblock
          clear hblock
          go_wp2
          obtain ⟨wo, rfl⟩ : ∃ wo : World, wo = wr := ⟨_, rfl⟩
          go_loopg [4, 11] 3 (fun k v2 x wq => ∃ q : Nat, q + k = 3 ∧ x = .int .i64 q ∧ Own w.heap.size wq v2 (o ++ ((three G).take (min q (m - 1))).map byt) ∧ Below w.heap.size w wq ∧ Hid (wq.heap[wo.heap.size]? = some (.cells (ints8 (three G)).toArray 157)) ∧ Hid (Zer G m q))
          case atStart =>
            refine ⟨0, by omega, rfl, ?_, ?_, ?_, ?_⟩
            · simpa using hown2
            · exact hbel2
            · exact HB
            · exact Lib.hid (fun i h3 hi => by omega)
          case round =>
            clear hown2 hbel2 HB
            obtain ⟨q, hq, rfl, hown3, hbel3, hblk, hzer⟩ := hrel
            by_cases hq3 : q < 3
            · have hq3L : q < (three G).length := hq3
              have hcell := cell_ints8 hblk.out (j := q) hq3L
              have hb256 : (three G)[q]'hq3L < 256 := three_lt G hgv4 q hq3
              obtain ⟨x, hx⟩ : ∃ x, (three G)[q]'hq3L = x := ⟨_, rfl⟩
              rw [hx] at hcell hb256
              have HX := Lib.hid hx
              clear hx
              by_cases hqm : q < m - 1
              · have hqm' : (q : Int) < (m : Int) - 1 := by omega
                have htk : (o ++ ((three G).take (min q (m - 1))).map byt) ++ [byt x] = o ++ ((three G).take (min (q + 1) (m - 1))).map byt := by
                  rw [Nat.min_eq_left (by omega), Nat.min_eq_left (by omega), List.take_succ_eq_append_getElem hq3L, HX.out]
                  simp
                have HT := Lib.hid htk
                have hle : (o ++ ((three G).take (min q (m - 1))).map byt).length ≤ 5000000 := by
                  have : ((three G).take (min q (m - 1))).length ≤ 3 := by
                    have := List.length_take_le (min q (m - 1)) (three G); have h3 : (three G).length = 3 := rfl; simp only [List.length_take, h3]; omega
                  simp only [List.length_append, List.length_map]
                  omega
                clear htk
                have hxb : (byt x).toNat = x := toNat_of x hb256
                have HXB := Lib.hid hxb
                clear hxb
                go_wp2_with (at_builtin; go_loud (refine wpList_append_rd rfl (.tmp 65) (.tmp 69) rfl w.heap.size _ (o ++ ((three G).take (min q (m - 1))).map byt) rfl (hown3.alloc _) (some ⟨wr.heap.size, 0, none⟩) [byt x] 1 1 rfl rfl (Rd.of_lit (T := 5) (fr := (0, 0)) [byt x] ?c0) ?c1 ?c2 ?_))
                case c0 => rw [heap_alloc_new]; simp [Lib.byteCells, HXB.out]
                case c1 => simp only [List.length_singleton]; omega
                case c2 => have := hbel3.size; simp; omega
                intro v4 w4 hown4 hg4
                have hblk4 := Lib.hid ((hown3.alloc (.cells #[.int .u8 (x : Int)] 5)).other hg4 (block_alloc hblk.out _) (by decide))
                have hbel4 := below_grow (hbel3.alloc hbel3.size (.cells #[.int .u8 (x : Int)] 5)) (hown3.alloc _) hg4 (by have := hbel3.size; simp; omega)
                go_wp2
                go_roundg (gk - 1)
                case measure => omega
                case rel => exact ⟨q + 1, by omega, by go_num, by rw [← HT.out]; simpa using hown4, hbel4, hblk4, Lib.hid (fun i h3 hi hm => by
                  rcases Nat.lt_or_ge i q with h' | h'
                  · exact hzer.out i h3 h' hm
                  · omega)⟩
              · have hqm' : ¬ (q : Int) < (m : Int) - 1 := by omega
                by_cases hx0 : x = 0
                · have ht0 : ((x : Int) != 0) = false := by simp [hx0]
                  have HX0 := Lib.hid hx0
                  clear hx0
                  go_wp2
                  go_roundg (gk - 1)
                  case measure => omega
                  case rel =>
                    refine ⟨q + 1, by omega, by go_num, ?_, hbel3, hblk, Lib.hid (fun i h3 hi hm => ?_)⟩
                    · rw [Nat.min_eq_right (by omega)] at hown3 ⊢
                      exact hown3
                    · rcases Nat.lt_or_ge i q with h' | h'
                      · exact hzer.out i h3 h' hm
                      · have : i = q := by omega
                        subst this
                        exact HX.out.trans HX0.out
                · have ht0 : ((x : Int) != 0) = true := by simp; omega
                  have hnot : dec s.data.toList = none := by
                    have h1 := hin.out.1
                    rw [List.take_of_length_le (by rw [HSZ.out]; have := hin.out.2.2; rw [HSZ.out, HM.out] at this; omega)] at h1
                    rw [dec_eq, h1]
                    simp only
                    rw [dec4_app ns ms (hhead.out.2.1 (by rw [HSZ.out]; exact hlt)), hhead.out.2.2.1, dec4_grp ms hin.out.lt (by rw [HM.out]; exact hml2) (by rw [HM.out]; exact hml4), HM.out, HG.out, if_neg (Zer.not hq3 (by omega) (fun e => hx0 (HX.out.symm.trans e)))]
                    rfl
                  have HNOT := Lib.hid hnot
                  clear hnot
                  go_wp2
                  go_ret2
                  exact ⟨hbel3, .inl ⟨HNOT.out, rfl⟩⟩
            · have hq3' : q = 3 := by omega
              subst hq3'
              rw [Nat.min_eq_right (by omega)] at hown3
              go_wp2
              go_roundg (gO - 4)
              case measure => omega
              case rel =>
                have h32 := hin.out.2.2
                rw [HSZ.out, HM.out] at h32
                have hd4 := dec4_app ns ms (hhead.out.2.1 (by rw [HSZ.out]; exact hlt))
                rw [hhead.out.2.2.1, dec4_grp ms hin.out.lt (by rw [HM.out]; exact hml2) (by rw [HM.out]; exact hml4), HM.out, HG.out, if_pos hzer.out.end] at hd4
                have h3l : (three G).length = 3 := rfl
                have hhl := hhead.out.2.1 (by rw [HSZ.out]; exact hlt)
                refine ⟨j + 4, ns ++ ms, _, by omega, by omega, by go_num, ?_, ?_, Lib.hid ⟨hin.out.1, ?_, hd4, by have := hhead.out.2.2.2; omega⟩, hown3, hbel3⟩
                · simp only [List.length_append, List.length_map, List.length_take, h3l]; omega
                · intro hsz; simp only [List.length_append, List.length_map, List.length_take, h3l]; omega
                · intro h; rw [HSZ.out] at h; simp only [List.length_append, HM.out]; omega
    · have hdec : dec s.data.toList = some o := by
        have h1 := hhead.out.1
        rw [List.take_of_length_le (by rw [HSZ.out]; omega)] at h1
        rw [dec_eq, h1]
        exact hhead.out.2.2.1
      have hol3 : o.length ≤ s.data.toList.length := by rw [HSZ.out]; exact hol2 (by omega)
      have HDEC := Lib.hid (And.intro hdec hol3)
      clear hdec hol3 hol2
      go_wp2
      go_ret2
      exact ⟨hbel, .inr ⟨o, _, HDEC.out.1, HDEC.out.2, rfl, hown⟩⟩
end Go.Proofs.YtfdijcdpmgkdkaaGreatDoor
set_option linter.unusedVariables false
namespace Go.Proofs.YtfdijcdpmgkdkaaGreatDoor
open Go.RowKit

set_option maxRecDepth 100000 in
set_option maxHeartbeats 4000000 in
theorem jrefword_any (s : List UInt8) (w : World) (hs : s.length ≤ 1000000) :
    Calls Tryz.prog 39 #[.string ⟨s.toArray⟩] w fun e w' => e = .returned (.bool (wordH s)) ∧ Below w.heap.size w w' := by
  have HT := Lib.hid (refwrong_any s w hs)
  have HN := Lib.hid (wrongI_neg s)
  have HW : Hid (wordH s = (!s.isEmpty && (decide (s.length ≤ 40) && toldB s))) := Lib.hid rfl
  generalize wordH s = W at *
  generalize toldB s = T at *
  generalize wrongI s = I at *
  by_cases h0 : s = []
  · subst h0
    go_enter Tryz.func39, Tryz.ntmps39
    go_wp2_with fail
    refine bodyPost_ret (results_tmp rfl _ _ _) rfl ?_
    exact ⟨by rw [HW.out]; rfl, Below.refl _ _⟩
  have q1 : s.isEmpty = false := by cases s <;> simp_all
  have q2 : (1 : Int) ≤ ((s.length : Nat) : Int) := by
    have : s.length ≠ 0 := fun e => h0 (List.eq_nil_of_length_eq_zero e)
    omega
  by_cases h1 : s.length ≤ 40
  · have hI : ((s.length : Nat) : Int) ≤ 40 := by omega
    go_enter Tryz.func39, Tryz.ntmps39
    go_wp2_with fail
    refine HT.out.mono ?_
    rintro e w1 ⟨rfl, hb1⟩
    have HB1 := Lib.hid hb1
    clear hb1 HT
    go_wp2_with fail
    refine bodyPost_ret (results_tmp rfl _ _ _) rfl ?_
    exact ⟨by rw [HW.out, q1, decide_eq_true h1, ← HN.out]; rfl, by rw [HB1.out]; exact Below.refl _ _⟩
  · have hI : ¬ ((s.length : Nat) : Int) ≤ 40 := by omega
    go_enter Tryz.func39, Tryz.ntmps39
    go_wp2_with fail
    refine bodyPost_ret (results_tmp rfl _ _ _) rfl ?_
    exact ⟨by rw [HW.out, q1, decide_eq_false h1]; rfl, Below.refl _ _⟩
set_option maxRecDepth 100000 in
set_option maxHeartbeats 4000000 in
theorem jreftag_any (G key : List UInt8) (ak : Option Addr) (ck : Nat) (w : World) (hk : Rd w ak key) (hkl : key.length ≤ 800000) (hgl : G.length ≤ 800000) :
    Calls Tryz.prog 40 #[.string ⟨G.toArray⟩, .slice ak key.length ck] w fun e w' => (∃ a c, e = .returned (.slice a (mac key G).length c) ∧ Rd w' a (mac key G)) ∧ Below w.heap.size w w' := by
  obtain ⟨cc, w1, hcv, hb1, hrd1, -⟩ := bytes_of_str G w
  have HB1 := Lib.hid hb1
  have HC := Lib.hid (rcode_any ak ck key.length key G (some ⟨w.heap.size, 0, none⟩) G.length cc w1 (hk.below hb1) rfl hrd1 rfl hkl hgl)
  generalize mac key G = M at *
  clear hb1 hrd1 hk
  go_enter Tryz.func40, Tryz.ntmps40
  go_wp2_with fail
  refine HC.out.mono ?_
  rintro e w2 ⟨v, rfl, ht, hb2⟩
  have HT := Lib.hid ht
  have HB2 := Lib.hid (HB1.out.trans (hb2.mono HB1.out.size))
  clear ht hb2 HC
  go_wp2_with fail
  refine bodyPost_ret (results_tmp rfl _ _ _) rfl ?_
  obtain ⟨a, c, rfl, hr, -⟩ := HT.out.shape
  exact ⟨⟨a, c, rfl, hr⟩, HB2.out⟩
set_option maxRecDepth 100000 in
set_option maxHeartbeats 8000000 in
theorem jrefsign_any (kid typ p key : List UInt8) (pa ka : Option Addr) (pc kc : Nat) (w : World) (hkid : kid.length ≤ 1000000) (htyp : typ.length ≤ 1000000) (hp : Rd w pa p) (hk : Rd w ka key) (hpl : p.length ≤ 800000) (hkl : key.length ≤ 800000) :
    Calls Tryz.prog 34 #[.string ⟨kid.toArray⟩, .string ⟨typ.toArray⟩, .slice pa p.length pc, .slice ka key.length kc] w fun e w' => e = .returned (signV kid typ p key) ∧ Below w.heap.size w w' := by
  have HSV : Hid (signV kid typ p key = if wordH kid = false ∨ wordH typ = false then .tuple #[.string ⟨#[]⟩, .int .i64 10] else if 16384 < p.length then .tuple #[.string ⟨#[]⟩, .int .i64 11] else if key.length < 16 then .tuple #[.string ⟨#[]⟩, .int .i64 41] else .tuple #[.string ⟨(tokenL kid typ p key).toArray⟩, .int .i64 0]) := Lib.hid (by
    unfold signV signL
    split
    · rfl
    · split
      · rfl
      · split <;> rfl)
  have HWK := Lib.hid (fun w1 => jrefword_any kid w1 hkid)
  have HWT := Lib.hid (fun w1 => jrefword_any typ w1 htyp)
  have HP := Lib.hid hp
  have HK := Lib.hid hk
  generalize signV kid typ p key = SV at *
  clear hp hk
  go_enter Tryz.func34, Tryz.ntmps34
  go_wp2_with fail
  refine (HWK.out w).mono ?_
  rintro e w1 ⟨rfl, hb1⟩
  have HB1 := Lib.hid hb1
  clear hb1 HWK
  by_cases wk : wordH kid = true
  case neg =>
    have wk : wordH kid = false := by simpa using wk
    have HS : Hid (SV = .tuple #[.string ⟨#[]⟩, .int .i64 10]) := Lib.hid (by rw [HSV.out, if_pos (.inl wk)])
    rw [wk]
    clear HSV wk
    go_wp2_with fail
    refine bodyPost_ret (results_tmp2 rfl _ _ _) rfl ?_
    exact ⟨by rw [HS.out]; rfl, HB1.out⟩
  rw [wk]
  go_wp2_with fail
  refine (HWT.out w1).mono ?_
  rintro e w2 ⟨rfl, hb2⟩
  have HB2 := Lib.hid (HB1.out.trans (hb2.mono HB1.out.size))
  clear hb2 HWT
  by_cases wt : wordH typ = true
  case neg =>
    have wt : wordH typ = false := by simpa using wt
    have HS : Hid (SV = .tuple #[.string ⟨#[]⟩, .int .i64 10]) := Lib.hid (by rw [HSV.out, if_pos (.inr wt)])
    rw [wt]
    clear HSV wt
    go_wp2_with fail
    refine bodyPost_ret (results_tmp2 rfl _ _ _) rfl ?_
    exact ⟨by rw [HS.out]; rfl, HB2.out⟩
  rw [wt]
  have hw : ¬ (wordH kid = false ∨ wordH typ = false) := by rw [wk, wt]; simp
  by_cases hp1 : 16384 < p.length
  · have HS : Hid (SV = .tuple #[.string ⟨#[]⟩, .int .i64 11]) := Lib.hid (by rw [HSV.out, if_neg hw, if_pos hp1])
    have hI : (16384 : Int) < (p.length : Int) := by omega
    clear hw HSV wk wt
    go_wp2_with fail
    refine bodyPost_ret (results_tmp2 rfl _ _ _) rfl ?_
    exact ⟨by rw [HS.out]; rfl, HB2.out⟩
  have hI : ¬ (16384 : Int) < (p.length : Int) := by omega
  by_cases hk1 : key.length < 16
  · have HS : Hid (SV = .tuple #[.string ⟨#[]⟩, .int .i64 41]) := Lib.hid (by rw [HSV.out, if_neg hw, if_neg hp1, if_pos hk1])
    have hJ : (key.length : Int) < 16 := by omega
    clear hw HSV wk wt
    go_wp2_with fail
    refine bodyPost_ret (results_tmp2 rfl _ _ _) rfl ?_
    exact ⟨by rw [HS.out]; rfl, HB2.out⟩
  have hJ : ¬ (key.length : Int) < 16 := by omega
  have HS : Hid (SV = .tuple #[.string ⟨(tokenL kid typ p key).toArray⟩, .int .i64 0]) := Lib.hid (by rw [HSV.out, if_neg hw, if_neg hp1, if_neg hk1])
  obtain ⟨hl1, hl2, hl3⟩ := token_len (key := key) wk wt (Nat.le_of_not_lt hp1)
  have hhl := headL_len wk wt
  have HHL := Lib.hid (headL_eq kid typ)
  have HTK : Hid (tokenL kid typ p key = signedL kid typ p ++ 46 :: enc (mac key (signedL kid typ p))) := Lib.hid rfl
  have HSG : Hid (signedL kid typ p = enc (headL kid typ) ++ 46 :: enc p) := Lib.hid rfl
  have hqk := quoteL_len6 kid
  have hqt := quoteL_len6 typ
  have HQK := Lib.hid (fun w1 => refquote_any kid w1 hkid)
  have HQT := Lib.hid (fun w1 => refquote_any typ w1 htyp)
  obtain ⟨QK, hQK⟩ : ∃ q, quoteL kid = q := ⟨_, rfl⟩
  obtain ⟨QT, hQT⟩ : ∃ q, quoteL typ = q := ⟨_, rfl⟩
  rw [hQK] at hqk HHL HQK
  rw [hQT] at hqt HHL HQT
  have hk40 := (wordH_told wk).2
  have ht40 := (wordH_told wt).2
  generalize tokenL kid typ p key = T at *
  generalize signedL kid typ p = G at *
  generalize headL kid typ = H at *
  have hep := enc_len p
  have heh := enc_len H
  obtain ⟨EH, hEH⟩ : ∃ EH, enc H = EH := ⟨_, rfl⟩
  obtain ⟨EP, hEP⟩ : ∃ EP, enc p = EP := ⟨_, rfl⟩
  have hlEH : EH.length ≤ 900 := by rw [← hEH]; omega
  have hlEP : EP.length ≤ 22000 := by rw [← hEP]; omega
  obtain ⟨H1, hH1⟩ : ∃ x, [123, 34, 97, 108, 103, 34, 58, 34, 72, 83, 50, 53, 54, 34, 44, 34, 107, 105, 100, 34, 58] ++ QK = x := ⟨_, rfl⟩
  obtain ⟨H2, hH2⟩ : ∃ x, H1 ++ [44, 34, 116, 121, 112, 34, 58] = x := ⟨_, rfl⟩
  obtain ⟨H3, hH3⟩ : ∃ x, H2 ++ QT = x := ⟨_, rfl⟩
  have hH4 : H3 ++ [125] = H := by rw [HHL.out, ← hH3, ← hH2, ← hH1]; simp
  have b1 : (⟨#[123, 34, 97, 108, 103, 34, 58, 34, 72, 83, 50, 53, 54, 34, 44, 34, 107, 105, 100, 34, 58]⟩ : ByteArray) ++ ⟨QK.toArray⟩ = ⟨H1.toArray⟩ := by rw [← hH1]; exact st_cat _ QK
  have b2 : (⟨H1.toArray⟩ : ByteArray) ++ ⟨#[44, 34, 116, 121, 112, 34, 58]⟩ = ⟨H2.toArray⟩ := by rw [← hH2]; exact st_cat H1 _
  have b3 : (⟨H2.toArray⟩ : ByteArray) ++ ⟨QT.toArray⟩ = ⟨H3.toArray⟩ := by rw [← hH3]; exact st_cat H2 QT
  have b4 : (⟨H3.toArray⟩ : ByteArray) ++ ⟨#[125]⟩ = ⟨H.toArray⟩ := by rw [← hH4]; exact st_cat H3 _
  have l1 : H1.length ≤ 400 := by rw [← hH1]; simp; omega
  have l2 : H2.length ≤ 410 := by rw [← hH2]; simp; omega
  have l3 : H3.length ≤ 800 := by rw [← hH3]; simp; omega
  have hhl6 : H.length ≤ 801 := by omega
  have lqk : QK.length ≤ 300 := by omega
  have lqt : QT.length ≤ 300 := by omega
  clear hw HSV wk wt hep heh hl3 hH1 hH2 hH3 hH4 HHL hQK hQT hqk hqt hk40 ht40
  go_wp2_with fail
  refine (HQK.out w2).mono ?_
  rintro e w3 ⟨rfl, hb3⟩
  have HB3 := Lib.hid (HB2.out.trans (hb3.mono HB2.out.size))
  clear hb3 HQK
  go_wp2_with fail
  refine (HQT.out w3).mono ?_
  rintro e w4 ⟨rfl, hb4⟩
  have HB4 := Lib.hid (HB3.out.trans (hb4.mono HB3.out.size))
  clear hb4 HQT
  obtain ⟨cc, w5, hcv, hb5, hrd5, -⟩ := bytes_of_str H w4
  have HB5 := Lib.hid (HB4.out.trans (hb5.mono HB4.out.size))
  have HE := Lib.hid (refEncode_at (some ⟨w4.heap.size, 0, none⟩) H H.length cc w5 hrd5 rfl (by omega))
  have HP5 := Lib.hid (HP.out.below (w := w) (w' := w5) HB5.out)
  have HK5 := Lib.hid (HK.out.below (w := w) (w' := w5) HB5.out)
  rw [hEH] at HE
  have hcA : (⟨EH.toArray⟩ : ByteArray) ++ ⟨#[46]⟩ = ⟨(EH ++ [46]).toArray⟩ := st_cat EH [46]
  obtain ⟨A1, hA1⟩ : ∃ A1, EH ++ [46] = A1 := ⟨_, rfl⟩
  rw [hA1] at hcA
  have hlA : A1.length ≤ 901 := by rw [← hA1]; simp; omega
  have hcG : (⟨A1.toArray⟩ : ByteArray) ++ ⟨EP.toArray⟩ = ⟨G.toArray⟩ := by
    rw [HSG.out, ← hA1, hEH, hEP]
    have := st_cat (EH ++ [46]) EP
    simpa using this
  clear hb5 hrd5 hEH hA1 HSG HP HK
  go_wp2_with fail
  refine HE.out.mono ?_
  rintro e w6 ⟨rfl, hb6⟩
  have HB6 := Lib.hid (HB5.out.trans (hb6.mono HB5.out.size))
  have HP6 := Lib.hid (HP5.out.below hb6)
  have HK6 := Lib.hid (HK5.out.below hb6)
  have HE2 := Lib.hid (refEncode_at pa p p.length pc w6 HP6.out rfl (by omega))
  rw [hEP] at HE2
  clear hb6 HE HP5 HK5 hEP
  go_wp2_with fail
  refine HE2.out.mono ?_
  rintro e w7 ⟨rfl, hb7⟩
  have HB7 := Lib.hid (HB6.out.trans (hb7.mono HB6.out.size))
  have HK7 := Lib.hid (HK6.out.below hb7)
  obtain ⟨cc2, w8, hcv2, hb8, hrd8, -⟩ := bytes_of_str G w7
  have HB8 := Lib.hid (HB7.out.trans (hb8.mono HB7.out.size))
  have HC := Lib.hid (rcode_any ka kc key.length key G (some ⟨w7.heap.size, 0, none⟩) G.length cc2 w8 (HK7.out.below hb8) rfl hrd8 rfl hkl (by omega))
  have hcD : (⟨G.toArray⟩ : ByteArray) ++ ⟨#[46]⟩ = ⟨(G ++ [46]).toArray⟩ := st_cat G [46]
  obtain ⟨G1, hG1⟩ : ∃ G1, G ++ [46] = G1 := ⟨_, rfl⟩
  rw [hG1] at hcD
  have hlG1 : G1.length ≤ 25000 := by rw [← hG1]; simp; omega
  clear hb7 hb8 hrd8 HP6 HK6 HE2 HK7 hcv
  go_wp2_with fail
  refine HC.out.mono ?_
  rintro e w9 ⟨v9, rfl, htl, hb9⟩
  have HB9 := Lib.hid (HB8.out.trans (hb9.mono HB8.out.size))
  obtain ⟨ma, mc, rfl, hmr, -, -, -⟩ := htl.shape
  have hml := mac_len key G
  have HTK2 : Hid (T = G1 ++ enc (mac key G)) := Lib.hid (by rw [HTK.out, ← hG1]; simp)
  generalize mac key G = M at *
  have HE3 := Lib.hid (refEncode_at ma M M.length mc w9 hmr rfl (by omega))
  have hem := enc_len M
  obtain ⟨EM, hEM⟩ : ∃ EM, enc M = EM := ⟨_, rfl⟩
  rw [hEM] at HE3 HTK2 hem
  have hlEM : EM.length ≤ 50 := by rw [hem, hml]; decide
  have hcT : (⟨G1.toArray⟩ : ByteArray) ++ ⟨EM.toArray⟩ = ⟨T.toArray⟩ := by rw [HTK2.out]; exact st_cat G1 EM
  clear hb9 htl hmr HC hem hEM hml hcG hcA hG1 HTK HTK2 hcv2
  go_wp2_with fail
  refine HE3.out.mono ?_
  rintro e w10 ⟨rfl, hb10⟩
  have HB10 := Lib.hid (HB9.out.trans (hb10.mono HB9.out.size))
  clear hb10 HE3
  go_wp2_with fail
  refine bodyPost_ret (results_tmp2 rfl _ _ _) rfl ?_
  exact ⟨by rw [HS.out]; rfl, HB10.out⟩
end Go.Proofs.YtfdijcdpmgkdkaaGreatDoor
set_option linter.unusedVariables false
namespace Go.Proofs.YtfdijcdpmgkdkaaGreatDoor
open Go.RowKit

theorem info_bs : (Tryz.prog.info? 41).map (fun i => (i.zero, i.size, i.bytes)) = some (some (.slice none 0 0), 1, 24) := by kernel_rfl
theorem own_apart {B B' n : Nat} {w w' : World} {v u : Value} {l : List UInt8} {xs : List Value} (h : Own B w v l) (hu : w.ownsRow B' 41 1 u n xs) (hg : w.grownBy w' u.ownBlock) : Own B w' v l := by
  refine World.ownsRow.kept (row := u.ownBlock) h hg ?_
  rcases h.2 with ⟨rfl, _⟩ | ⟨g, cap, cur, rfl, _, hgg, _⟩
  · exact .inl rfl
  · refine .inr ?_
    rcases hu.2 with ⟨rfl, _⟩ | ⟨g', cap', cur', rfl, _, hgg', _⟩
    · simp [Value.ownBlock]
    · simp only [Value.ownBlock]
      intro e
      have e' : g = g' := by simpa using e
      rw [e'] at hgg
      rw [hgg] at hgg'
      injection hgg' with h1
      injection h1 with _ h2
      revert h2
      decide
theorem ownRow_mono {B B' sz n : Nat} {E : TypeId} {w : World} {v : Value} {xs : List Value} (h : w.ownsRow B E sz v n xs) (hB : B' ≤ B) : w.ownsRow B' E sz v n xs :=
  ⟨h.1, h.2.imp id fun ⟨g, cap, cur, e, hb, r⟩ => ⟨g, cap, cur, e, Nat.le_trans hB hb, r⟩⟩
theorem ownRow_below {B sz n : Nat} {E : TypeId} {w w' : World} {v : Value} {xs : List Value} (h : w.ownsRow B E sz v n xs) (hb : Below w.heap.size w w') : w'.ownsRow B E sz v n xs :=
  World.ownsRow.kept (row := none) h ⟨hb.os, hb.tape, hb.output, hb.size, fun k hk _ => hb.block k hk⟩ (by cases v.ownBlock <;> simp)
abbrev SL := List (List UInt8 × List UInt8 × Value)
/-- The parts up to i, decoded. -/
def SplAt (B : Nat) (P : List (List UInt8)) (i : Nat) (L : SL) (w : World) : Prop :=
  L.length = i ∧ (∀ j (h : j < L.length), P[j]? = some (L[j]).1) ∧ ∀ x ∈ L, dec x.1 = some x.2.1 ∧ Own B w x.2.2 x.2.1
def SplitIs (t : List UInt8) (e : Ending) (w' : World) : Prop :=
  ((∀ A B C h p g, partsL 46 t = [A, B, C] → dec A = some h → dec B = some p → dec C = some g → False) ∧ e = .returned (.tuple #[.slice none 0 0, .string ⟨#[]⟩, .bool false])) ∨
  ∃ A B C h p g a c, partsL 46 t = [A, B, C] ∧ dec A = some h ∧ dec B = some p ∧ dec C = some g ∧ e = .returned (.tuple #[.slice a 3 c, .string ⟨(A ++ 46 :: B).toArray⟩, .bool true]) ∧ RdS w' a [h, p, g]
theorem SplitIs.below {t : List UInt8} {e : Ending} {w w' : World} (h : SplitIs t e w) (hb : Below w.heap.size w w') : SplitIs t e w' :=
  h.imp id fun ⟨A, B, C, h, p, g, a, c, h1, h2, h3, h4, h5, h6⟩ => ⟨A, B, C, h, p, g, a, c, h1, h2, h3, h4, h5, h6.below hb⟩
theorem split_bad {t : List UInt8} {P : List (List UInt8)} {i : Nat} (hP : partsL 46 t = P) (h3 : P.length = 3) (hi : i < P.length) (hd : dec P[i] = none) : ∀ A B C h p g, partsL 46 t = [A, B, C] → dec A = some h → dec B = some p → dec C = some g → False := by
  intro A B C h p g e q0 q1 q2
  rw [hP] at e
  subst e
  match i, hi, hd with
  | 0, _, hd => exact absurd (q0.symm.trans (show dec A = none from hd)) (by simp)
  | 1, _, hd => exact absurd (q1.symm.trans (show dec B = none from hd)) (by simp)
  | 2, _, hd => exact absurd (q2.symm.trans (show dec C = none from hd)) (by simp)
theorem SplAt.step {B i : Nat} {P : List (List UInt8)} {L : SL} {w w' : World} {x : List UInt8} {b : List UInt8} {v : Value} (h : SplAt B P i L w) (hx : P[i]? = some x) (hd : dec x = some b) (hv : Own B w' v b) (hk : ∀ y ∈ L, Own B w' y.2.2 y.2.1) : SplAt B P (i + 1) (L ++ [(x, b, v)]) w' := by
  obtain ⟨h1, h2, h3⟩ := h
  refine ⟨by simp [h1], fun j hj => ?_, fun y hy => ?_⟩
  · by_cases hj' : j < L.length
    · rw [List.getElem_append_left hj']
      exact h2 j hj'
    · have e : j = L.length := by simp at hj; omega
      subst e
      simp [h1, hx]
  · rcases List.mem_append.1 hy with hy | hy
    · exact ⟨(h3 y hy).1, hk y hy⟩
    · simp only [List.mem_cons, List.mem_nil_iff, or_false] at hy
      subst hy
      exact ⟨hd, hv⟩
theorem split_good {t : List UInt8} {P : List (List UInt8)} {L : SL} {B : Nat} {w : World} {out : Value} (hP : partsL 46 t = P) (h3 : P.length = 3) (h : SplAt B P 3 L w) (ho : w.ownsRow B 41 1 out L.length (L.map (·.2.2))) :
    ∃ A B C h p g a c, partsL 46 t = [A, B, C] ∧ dec A = some h ∧ dec B = some p ∧ dec C = some g ∧ out = .slice a 3 c ∧ RdS w a [h, p, g] := by
  obtain ⟨h1, h2, h4⟩ := h
  match L, h1 with
  | [⟨A, h, u⟩, ⟨B', p, u'⟩, ⟨C, g, u''⟩], _ =>
  have e0 := h2 0 (by simp)
  have e1 := h2 1 (by simp)
  have e2 := h2 2 (by simp)
  have hPP : P = [A, B', C] := by
    match P, h3 with
    | [x, y, z], _ =>
      simp at e0 e1 e2
      rw [e0, e1, e2]
  obtain ⟨d0, o0⟩ := h4 (A, h, u) (by simp)
  obtain ⟨d1, o1⟩ := h4 (B', p, u') (by simp)
  obtain ⟨d2, o2⟩ := h4 (C, g, u'') (by simp)
  obtain ⟨a0, c0, q0, r0⟩ := o0.shape
  obtain ⟨a1, c1, q1, r1⟩ := o1.shape
  obtain ⟨a2, c2, q2, r2⟩ := o2.shape
  obtain ⟨a, c, hout, hrc, _⟩ := RdC.of_own ho
  refine ⟨A, B', C, h, p, g, a, c, by rw [hP, hPP], d0, d1, d2, hout, ?_⟩
  obtain ⟨b, off, hb, hcs⟩ := hrc.at (by simp)
  refine .inr ⟨b, off, hb, fun i hi => ?_⟩
  match i, hi with
  | 0, _ => exact ⟨a0, c0, by rw [hcs 0 u rfl]; exact congrArg some q0, r0⟩
  | 1, _ => exact ⟨a1, c1, by rw [hcs 1 u' rfl]; exact congrArg some q1, r1⟩
  | 2, _ => exact ⟨a2, c2, by rw [hcs 2 u'' rfl]; exact congrArg some q2, r2⟩
set_option maxRecDepth 100000 in
set_option maxHeartbeats 16000000 in
theorem jrefsplit_any (t : List UInt8) (w : World) (hl : t.length ≤ 1000000) :
    Calls Tryz.prog 38 #[.string ⟨t.toArray⟩] w fun e w' => SplitIs t e w' ∧ Below w.heap.size w w' := by
  obtain ⟨i0, hi, hz0, hz1, hz2⟩ := info_parts info_bs
  have HI := Lib.hid hi
  have HZ0 := Lib.hid hz0
  have HZ1 := Lib.hid hz1
  have HZ2 := Lib.hid hz2
  have HPA := Lib.hid (parts_any t 46 w hl)
  clear hi hz0 hz1 hz2
  have hsum := partsL_sum 46 t
  go_enter Tryz.func38, Tryz.ntmps38
  go_wp2_with fail
  refine HPA.out.mono ?_
  rintro e w1 ⟨⟨la, lc, rfl, hrc⟩, hb1⟩
  have HB1 := Lib.hid hb1
  have HRC := Lib.hid hrc
  have HSPLIT := Lib.hid (fun e w' (h : SplitIs t e w') => h)
  obtain ⟨P, hP⟩ : ∃ P, partsL 46 t = P := ⟨_, rfl⟩
  have HPP := Lib.hid hP
  rw [hP] at HRC hsum ⊢
  clear hb1 hrc HPA hP
  by_cases h3 : P.length = 3
  case neg =>
    have h3I : ¬ ((P.length : Nat) : Int) = 3 := by omega
    have h3B : (((P.length : Nat) : Int) == 3) = false := beq_false_of_ne h3I
    have H3 := Lib.hid h3
    clear h3
    go_wp2_with fail
    refine bodyPost_ret (v := .tuple #[.slice none 0 0, .string ⟨#[]⟩, .bool false]) (by simp [results, Tryz.results38, go_sem]) rfl ?_
    refine ⟨.inl ⟨?_, rfl⟩, HB1.out⟩
    intro A B C h p g e
    rw [HPP.out] at e
    exact absurd (by rw [e]; rfl) H3.out
  have H3 := Lib.hid h3
  have hne : strs P ≠ [] := by
    intro e
    have h0 := congrArg List.length e
    unfold strs at h0
    rw [List.length_map, h3] at h0
    cases h0
  obtain ⟨lb, loff, rfl, hcs⟩ := HRC.out.at hne
  clear hne
  have HCS : Hid (∀ w' : World, Below w1.heap.size w1 w' → ∀ i (h : i < P.length), w'.cell? ⟨lb, loff + i, none⟩ = some (.string ⟨P[i].toArray⟩)) := Lib.hid fun w' hb i h => by
    have := hcs i (.string ⟨P[i].toArray⟩) (by simp [strs, List.getElem?_eq_getElem h])
    exact (hb.cell (World.block_lt_of_cell? _ _ this)).trans this
  have hsumH := Lib.hid hsum
  clear hcs HRC hsum
  rw [h3]
  have hgl : w.heap.size ≤ w1.heap.size := HB1.out.size
  go_wp2_with fail
  go_loopg [6, 7] 3 (fun k out x wr => ∃ (i : Nat) (L : SL), x = .int .i64 (i : Int) ∧ i + k = 3 ∧ L.length = i ∧ Hid (SplAt w1.heap.size P i L wr) ∧ Hid (wr.ownsRow w1.heap.size 41 1 out i (L.map (·.2.2))) ∧ Hid (Below w1.heap.size w1 wr))
  case atStart => exact ⟨0, [], rfl, rfl, rfl, Lib.hid ⟨rfl, fun j h => absurd h (by simp), fun x hx => absurd hx (by simp)⟩, Lib.hid (World.ownsRow_nil _ _ _ _), Lib.hid (Below.refl _ _)⟩
  case round =>
    obtain ⟨i, L, rfl, hi, hL, HS, HW, HB⟩ := hrel
    have hszB : w1.heap.size ≤ wr.heap.size := HB.out.size
    by_cases hlt : i < 3
    · have hI : (i : Int) < 3 := by omega
      have hiP : i < P.length := by omega
      have hcell := HCS.out wr HB.out i hiP
      have hpl : P[i].length ≤ 1000000 := by
        have := hsumH.out P[i] (List.getElem_mem hiP)
        omega
      have HBAD := Lib.hid (split_bad HPP.out H3.out hiP)
      have HGET : Hid (P[i]? = some P[i]) := Lib.hid (List.getElem?_eq_getElem hiP)
      have HD := Lib.hid (refDecode_any ⟨P[i].toArray⟩ wr (by simpa [ByteArray.size] using hpl))
      generalize P[i] = X at *
      go_wp2_with fail
      refine HD.out.mono ?_
      rintro e w4 ⟨hb4, ⟨hd, rfl⟩ | ⟨b, v, hd, hbl, rfl, hown⟩⟩
      · have hbad := HBAD.out hd
        have HBD := Lib.hid hbad
        have HB4 := Lib.hid (HB1.out.trans ((HB.out.trans (hb4.mono hszB)).mono hgl))
        clear hd hb4 hbad hcell HD
        go_wp2_with fail
        refine bodyPost_ret (v := .tuple #[.slice none 0 0, .string ⟨#[]⟩, .bool false]) (by simp [results, Tryz.results38, go_sem]) rfl ?_
        exact ⟨.inl ⟨HBD.out, rfl⟩, HB4.out⟩
      · have HDX : Hid (dec X = some b) := Lib.hid hd
        have HO4 : Hid (Own w1.heap.size w4 v b) := Lib.hid (ownRow_mono hown hszB)
        have HW4 := Lib.hid (ownRow_below HW.out hb4)
        have HB4 := Lib.hid (HB.out.trans (hb4.mono hszB))
        have HL4 : Hid (∀ y ∈ L, Own w1.heap.size w4 y.2.2 y.2.1) := Lib.hid fun y hy => (HS.out.2.2 y hy).2.below hb4
        obtain ⟨va, vc, rfl, -⟩ := hown.shape
        have hsz4 : w1.heap.size ≤ w4.heap.size := Nat.le_trans hszB hb4.size
        obtain ⟨ao, co, hout, -⟩ := RdC.of_own HW4.out
        subst hout
        have HLL := Lib.hid hL
        clear hL hd hown hb4 hcell HD HBAD
        go_wp2_with (at_builtin; refine wpList_append_new rfl (.tmp 29) (.tmp 31) 72 rfl w1.heap.size 41 i0 _ 1 24 Tryz.underlying72 HI.out HZ0.out HZ1.out HZ2.out rfl (by decide) _ _ _ rfl (HW4.out.alloc _) w4.heap.size 1 #[.slice va b.length vc] 41 (0, 0) ?c1 rfl rfl ?c2 ?c3 ?c4 ?c5 ?_)
        case c1 => exact heap_alloc_new _ _
        case c2 => rfl
        case c3 => omega
        case c4 => omega
        case c5 => simp; omega
        intro v' w5 hown' hgrow
        have hb5 := below_own (HB4.out.alloc hsz4 _) (HW4.out.alloc _) hgrow (by simp; omega)
        have hst := SplAt.step HS.out (by rw [← HGET.out]) HDX.out (own_apart (HO4.out.alloc _) (HW4.out.alloc _) hgrow) (fun y hy => own_apart ((HL4.out y hy).alloc _) (HW4.out.alloc _) hgrow)
        have HST := Lib.hid hst
        have HB5 := Lib.hid hb5
        have HW5 : Hid (w5.ownsRow w1.heap.size 41 1 v' (i + 1) ((show SL from L ++ [(X, b, Value.slice va b.length vc)]).map (·.2.2))) := Lib.hid (by have := hown'; simpa using this)
        clear hown' hgrow hb5 hst HW4 HB4 HL4 HO4 HW HB HS
        go_wp2_with fail
        go_roundg (gk - 1)
        case measure => omega
        case rel => exact ⟨i + 1, L ++ [(X, b, Value.slice va b.length vc)], by first | rfl | (congr 1), by omega, by simp [HLL.out], HST, HW5, HB5⟩
    · have hi3 : i = 3 := by omega
      subst hi3
      have hI : ¬ ((3 : Nat) : Int) < 3 := by omega
      have hgood := split_good HPP.out H3.out HS.out (by rw [hL]; exact HW.out)
      obtain ⟨A, B, C, h, p, g, oa, oc, hpp, hdA, hdB, hdC, rfl, hrds⟩ := hgood
      have hP3 : P = [A, B, C] := HPP.out.symm.trans hpp
      have lA := hsumH.out A (by rw [hP3]; simp)
      have lB := hsumH.out B (by rw [hP3]; simp)
      subst hP3
      have HG := Lib.hid (show SplitIs t (.returned (.tuple #[.slice oa 3 oc, .string ⟨(A ++ 46 :: B).toArray⟩, .bool true])) wr from .inr ⟨A, B, C, h, p, g, oa, oc, hpp, hdA, hdB, hdC, rfl, hrds⟩)
      have HBF := Lib.hid (HB1.out.trans (HB.out.mono hgl))
      obtain ⟨A1, hA1⟩ : ∃ A1, A ++ [46] = A1 := ⟨_, rfl⟩
      obtain ⟨G, hG⟩ : ∃ G, A1 ++ B = G := ⟨_, rfl⟩
      have hAB : A ++ 46 :: B = G := by rw [← hG, ← hA1, List.append_assoc]; rfl
      have hc1 : (⟨A.toArray⟩ : ByteArray) ++ ⟨#[46]⟩ = ⟨A1.toArray⟩ := by rw [← hA1]; exact st_cat A [46]
      have hc2 : (⟨A1.toArray⟩ : ByteArray) ++ ⟨B.toArray⟩ = ⟨G.toArray⟩ := by rw [← hG]; exact st_cat A1 B
      have hlA1 : A1.length ≤ 1000001 := by rw [← hA1, List.length_append]; simp; omega
      rw [hAB] at HG
      have HCA : Hid (∀ w' : World, Below wr.heap.size wr w' → w'.cell? ⟨lb, loff, none⟩ = some (.string ⟨A.toArray⟩)) := Lib.hid fun w' hb => HCS.out w' (HB.out.trans (hb.mono hszB)) 0 (by simp)
      have HCB : Hid (∀ w' : World, Below wr.heap.size wr w' → w'.cell? ⟨lb, loff + 1, none⟩ = some (.string ⟨B.toArray⟩)) := Lib.hid fun w' hb => HCS.out w' (HB.out.trans (hb.mono hszB)) 1 (by simp)
      clear hpp hdA hdB hdC hrds hA1 hG hAB HS HW HPP
      go_wp2_with fail
      refine wp_region_grow (by kernel_rfl) (by kernel_rfl) [33, 34, 35, 36, 37, 38, 39, 40, 41, 2, 3, 4] rfl (by decide) (by kernel_rfl) (fun iX => [VIs (.slice oa 3 oc), VIs (.slice (some ⟨lb, loff, none⟩) 3 lc), VIs (.pointer (some ⟨lb, loff, none⟩)), VIs (.string ⟨A.toArray⟩), VIs (.string ⟨A1.toArray⟩), VIs (.slice (some ⟨lb, loff, none⟩) 3 lc), VIs (.pointer (some ⟨lb, loff + 1, none⟩)), VIs (.string ⟨B.toArray⟩), VIs (.string ⟨G.toArray⟩), VIs (.slice oa 3 oc), VIs (.string ⟨G.toArray⟩), VIs (.bool true)].getD iX fun _ _ => True) (stab_list _ ?_) ?_ ?_
      · skip
        intro V hV
        simp only [List.mem_cons, List.mem_nil_iff, or_false] at hV
        rcases hV with rfl | rfl | rfl | rfl | rfl | rfl | rfl | rfl | rfl | rfl | rfl | rfl <;> first | exact VIs.stab _ | exact VBytes.stab _ | exact VStr.stab _ | exact VParts.stab _ | exact VRow.stab _ | exact VRow8.stab _ _ | exact VRowIs.stab _ _ _
      · intro iX o ho a' w' hf hb hd
        rcases iX with _ | _ | _ | _ | _ | _ | _ | _ | _ | _ | _ | _ | iX
        · cases ho
          refine grow_op rfl rfl rfl (grow_move rfl ?_)
          exact (hf.same 6 (by decide)).trans rfl
        · cases ho
          refine grow_op rfl rfl rfl (grow_move rfl ?_)
          exact (hf.same 5 (by decide)).trans rfl
        · cases ho
          refine grow_op rfl rfl rfl ?_
          have e1 : a'.tmps.getD 34 undef = .slice (some ⟨lb, loff, none⟩) 3 lc := hd 1 (by kernel_rfl)
          refine grow_value (v := .pointer (some ⟨lb, loff, none⟩)) (w' := w') ?_ rfl (Below.refl _ _)
          simp only [execOp, Act.eval, e1]
          go_simp
        · cases ho
          refine grow_op rfl rfl rfl ?_
          have e2 : a'.tmps.getD 35 undef = .pointer (some ⟨lb, loff, none⟩) := hd 2 (by kernel_rfl)
          have x0 := HCA.out w' hb
          refine grow_value (v := .string ⟨A.toArray⟩) (w' := w') ?_ rfl (Below.refl _ _)
          simp only [execOp, Act.eval, e2]
          go_simp
        · cases ho
          refine grow_op rfl rfl rfl ?_
          have e3 : a'.tmps.getD 36 undef = .string ⟨A.toArray⟩ := hd 3 (by kernel_rfl)
          have x0 := hc1
          refine grow_value (v := .string ⟨A1.toArray⟩) (w' := w') ?_ rfl (Below.refl _ _)
          simp only [execOp, Act.eval, e3]
          go_simp
          omega
        · cases ho
          refine grow_op rfl rfl rfl (grow_move rfl ?_)
          exact (hf.same 5 (by decide)).trans rfl
        · cases ho
          refine grow_op rfl rfl rfl ?_
          have e5 : a'.tmps.getD 38 undef = .slice (some ⟨lb, loff, none⟩) 3 lc := hd 5 (by kernel_rfl)
          refine grow_value (v := .pointer (some ⟨lb, loff + 1, none⟩)) (w' := w') ?_ rfl (Below.refl _ _)
          simp only [execOp, Act.eval, e5]
          go_simp
        · cases ho
          refine grow_op rfl rfl rfl ?_
          have e6 : a'.tmps.getD 39 undef = .pointer (some ⟨lb, loff + 1, none⟩) := hd 6 (by kernel_rfl)
          have x0 := HCB.out w' hb
          refine grow_value (v := .string ⟨B.toArray⟩) (w' := w') ?_ rfl (Below.refl _ _)
          simp only [execOp, Act.eval, e6]
          go_simp
        · cases ho
          refine grow_op rfl rfl rfl ?_
          have e4 : a'.tmps.getD 37 undef = .string ⟨A1.toArray⟩ := hd 4 (by kernel_rfl)
          have e7 : a'.tmps.getD 40 undef = .string ⟨B.toArray⟩ := hd 7 (by kernel_rfl)
          have x0 := hc2
          refine grow_value (v := .string ⟨G.toArray⟩) (w' := w') ?_ rfl (Below.refl _ _)
          simp only [execOp, Act.eval, e4, e7]
          go_simp
          omega
        · cases ho
          refine grow_op rfl rfl rfl (grow_assign rfl ?_)
          exact hd 0 (by kernel_rfl)
        · cases ho
          refine grow_op rfl rfl rfl (grow_assign rfl ?_)
          exact hd 8 (by kernel_rfl)
        · cases ho
          refine grow_op rfl rfl rfl ?_
          refine grow_value (v := .bool true) (w' := w') ?_ rfl (Below.refl _ _)
          simp only [execOp, Act.eval]
          go_simp
        · simp at ho
      · intro a' w' hf hb hd
        obtain rfl := hf.eq [Value.slice oa 3 oc, Value.slice (some ⟨lb, loff, none⟩) 3 lc, Value.pointer (some ⟨lb, loff, none⟩), Value.string ⟨A.toArray⟩, Value.string ⟨A1.toArray⟩, Value.slice (some ⟨lb, loff, none⟩) 3 lc, Value.pointer (some ⟨lb, loff + 1, none⟩), Value.string ⟨B.toArray⟩, Value.string ⟨G.toArray⟩, Value.slice oa 3 oc, Value.string ⟨G.toArray⟩, Value.bool true] (fun j hj => match j, hj with
          | 0, _ => hd 0 (by decide)
          | 1, _ => hd 1 (by decide)
          | 2, _ => hd 2 (by decide)
          | 3, _ => hd 3 (by decide)
          | 4, _ => hd 4 (by decide)
          | 5, _ => hd 5 (by decide)
          | 6, _ => hd 6 (by decide)
          | 7, _ => hd 7 (by decide)
          | 8, _ => hd 8 (by decide)
          | 9, _ => hd 9 (by decide)
          | 10, _ => hd 10 (by decide)
          | 11, _ => hd 11 (by decide)
          | k + 12, h => absurd h (by simp)) (by decide) (by kernel_rfl) rfl
        simp only [List.zip_cons_cons, List.zip_nil_right, List.foldl_cons, List.foldl_nil, Act.put, List.setIfInBounds_toArray, List.set_cons_succ, List.set_cons_zero]
        go_wp2_with fail
        refine bodyPost_ret (v := .tuple #[.slice oa 3 oc, .string ⟨G.toArray⟩, .bool true]) (by simp [results, Tryz.results38, go_sem]) rfl ?_
        exact ⟨HG.out.below hb, HBF.out.trans (hb.mono HBF.out.size)⟩
end Go.Proofs.YtfdijcdpmgkdkaaGreatDoor
set_option linter.unusedVariables false
namespace Go.Proofs.YtfdijcdpmgkdkaaGreatDoor
open Go.RowKit

/-- As it was, but for marks in rows from B on. -/
structure Like (B : Nat) (w w' : World) : Prop where
  below : Below B w w'
  row : ∀ (k : Nat) (C : Array Value) (T : TypeId) (fr : Nat × Nat), w.heap[k]? = some (.cells C T fr) → ∃ fr', w'.heap[k]? = some (.cells C T fr')
theorem like_of_below {B : Nat} {w w' : World} (h : Below w.heap.size w w') (hB : B ≤ w.heap.size) : Like B w w' :=
  ⟨h.mono hB, fun k C T fr e => ⟨fr, (h.block k (Array.getElem?_eq_some_iff.1 e).1).trans e⟩⟩
theorem wp_region_like {P : Program} {id : Nat} {l : List Oper} {Q : Exit → Act → World → Prop} {a : Act} {w : World} (hm : P.follows .mixedOrders = true)
    (hac : ((List.range l.length).all fun i => ((l[i]?).map fun o => o.after.all fun e => !Region.binds .any e || decide (e.on < i)).getD true) = true)
    (ds : List Nat) (hds : (l.map (·.dst)) = ds.map some) (hnd : ds.Nodup) (hlt : ds.all (fun d => decide (d < a.tmps.size)) = true)
    (V : Nat → Value → World → Prop) (hV : ∀ i v w1 w2, V i v w1 → Like w.heap.size w1 w2 → V i v w2)
    (step : ∀ i o, l[i]? = some o → ∀ a' w', Fr ds a a' → Below w.heap.size w w' → (∀ j, (o.after.any fun e => Region.binds .any e && e.on == j) = true → V j (a'.tmps.getD (ds.getD j 0) undef) w') →
      wpOp P l.toArray Q i (fun a'' w'' => ∃ v, a'' = a'.put (some (ds.getD i 0)) v ∧ V i v w'' ∧ Like w.heap.size w' w'') a' w')
    (done : ∀ a' w', Fr ds a a' → Below w.heap.size w w' → (∀ j, j < l.length → V j (a'.tmps.getD (ds.getD j 0) undef) w') → Q .normal a' w') :
    (Code.region id l.toArray true).wp P Q a w := by
  have hlen : l.length = ds.length := by have := congrArg List.length hds; simpa using this
  have hmem : ∀ j, j < l.length → ds.getD j 0 ∈ ds := by
    intro j hj
    rw [List.getD_eq_getElem?_getD, List.getElem?_eq_getElem (by omega)]
    exact List.getElem_mem _
  have hinj : ∀ i j, i < l.length → j < l.length → ds.getD i 0 = ds.getD j 0 → i = j := by
    intro i j hi hj e
    rw [List.getD_eq_getElem?_getD, List.getElem?_eq_getElem (by omega), List.getD_eq_getElem?_getD, List.getElem?_eq_getElem (by omega)] at e
    exact (List.getElem_inj hnd).1 e
  refine wp_region_inv hm hac (fun b a' w' => Fr ds a a' ∧ Below w.heap.size w w' ∧ ∀ j, j < l.length → b j = true → V j (a'.tmps.getD (ds.getD j 0) undef) w') ?_ ?_ ?_
  · exact ⟨Fr.refl _ _, (Below.refl _ _).drew, fun j _ h => by cases h⟩
  · rintro b a' w' ⟨hf, hb, hall⟩ i o ho hbi hpre
    have hil : i < l.length := (List.getElem?_eq_some_iff.1 ho).1
    refine wpOp_mono ?_ (step i o ho a' w' hf hb ?_)
    · rintro a'' w'' ⟨v, rfl, hv, hb'⟩
      refine ⟨hf.put (hmem i hil) v, hb.trans hb'.below, fun j hj hbj => ?_⟩
      by_cases e : j = i
      · subst e
        rw [put_at]
        · exact hv
        · rw [hf.size]
          have := (List.all_eq_true.1 hlt) _ (hmem j hil)
          simpa using this
      · simp only [e, if_false] at hbj
        rw [put_other _ _ _ _ (fun e' => e (hinj _ _ hj hil e'))]
        exact hV _ _ _ _ (hall j hj hbj) hb'
    · intro j hj
      obtain ⟨k, hk, hj⟩ := Array.any_eq_true.1 hj
      obtain ⟨e, he, e1⟩ : ∃ e, e ∈ o.after ∧ e = o.after[k] := ⟨_, Array.getElem_mem hk, rfl⟩
      rw [← e1] at hj
      simp only [Bool.and_eq_true, beq_iff_eq] at hj
      obtain ⟨hbd, rfl⟩ := hj
      have h1 : b e.on = true := by
        simp only [Array.all_eq_true_iff_forall_mem] at hpre
        have := hpre e he
        rw [hbd] at this
        simpa using this
      have h2 : e.on < i := by
        have hac' := (List.all_eq_true.1 hac) i (List.mem_range.2 hil)
        simp only [ho, Option.map_some, Option.getD_some, Array.all_eq_true_iff_forall_mem] at hac'
        have := hac' e he
        rw [hbd] at this
        simpa using this
      exact hall e.on (by omega) h1
  · rintro b a' w' ⟨hf, hb, hall⟩ hdone
    exact done a' w' hf hb fun j hj => hall j hj (hdone j hj)

def StabL (B : Nat) (V : Value → World → Prop) : Prop := ∀ v w1 w2, V v w1 → Like B w1 w2 → V v w2
theorem VIs.stabL (B : Nat) (x : Value) : StabL B (VIs x) := fun _ _ _ h _ => h
theorem stab_listL (B : Nat) (Vs : List (Value → World → Prop)) (h : ∀ V ∈ Vs, StabL B V) : ∀ i v w1 w2, (Vs.getD i fun _ _ => True) v w1 → Like B w1 w2 → (Vs.getD i fun _ _ => True) v w2 := by
  intro i v w1 w2 hv hb
  simp only [List.getD_eq_getElem?_getD] at *
  cases e : Vs[i]? with
  | none => simp
  | some V =>
    simp only [e, Option.getD_some] at hv ⊢
    exact h V (List.mem_of_getElem? e) v w1 w2 hv hb
theorem like_op {P : Program} {l : List Oper} {Q : Exit → Act → World → Prop} {i d B : Nat} {o : Oper} {a : Act} {w : World} {V : Value → World → Prop} (hB : B ≤ w.heap.size) (ho : l[i]? = some o) (hw : Region.wanted o (yielded l.toArray a.tmps) = true) (hd : o.dst = some d)
    (h : o.wp P a w (fun a'' w'' => ∃ v, a'' = a.put o.dst v ∧ V v w'' ∧ Below w.heap.size w w'') Q) : wpOp P l.toArray Q i (fun a'' w'' => ∃ v, a'' = a.put (some d) v ∧ V v w'' ∧ Like B w w'') a w :=
  wpOp_mono (fun _ _ ⟨v, h1, h2, h3⟩ => ⟨v, h1, h2, like_of_below h3 hB⟩) (grow_op ho hw hd h)
theorem like_skip {P : Program} {l : List Oper} {Q : Exit → Act → World → Prop} {i d B : Nat} {o : Oper} {a : Act} {w : World} {V : Value → World → Prop} (hB : B ≤ w.heap.size) (ho : l[i]? = some o) (hw : Region.wanted o (yielded l.toArray a.tmps) = false) (hd : o.dst = some d)
    (h : V undef w) : wpOp P l.toArray Q i (fun a'' w'' => ∃ v, a'' = a.put (some d) v ∧ V v w'' ∧ Like B w w'') a w :=
  wpOp_mono (fun _ _ ⟨v, h1, h2, h3⟩ => ⟨v, h1, h2, like_of_below h3 hB⟩) (grow_no ho hw hd h)
theorem mark_op {P : Program} {l : List Oper} {Q : Exit → Act → World → Prop} {i d B : Nat} {o : Oper} {a : Act} {w w' : World} {V : Value → World → Prop} {v : Value} (ho : l[i]? = some o) (hw : Region.wanted o (yielded l.toArray a.tmps) = true) (hd : o.dst = some d)
    (h : (execOp a.eval o).run P w = .ok (.value v) w') (hv : V v w') (hl : Like B w w') : wpOp P l.toArray Q i (fun a'' w'' => ∃ v, a'' = a.put (some d) v ∧ V v w'' ∧ Like B w w'') a w := by
  unfold wpOp
  rw [show l.toArray[i]? = some o by simpa using ho]
  simp only [hw, if_true]
  refine .inl ?_
  unfold Oper.wp
  rw [h]
  exact ⟨v, by rw [hd], hv, hl⟩
/-- A row of bytes that the call has laid, marked or not. -/
def VRw (B : Nat) (l : List UInt8) : Value → World → Prop := fun v w => ∃ g fr, v = .slice (some ⟨g, 0, none⟩) l.length l.length ∧ B ≤ g ∧ w.heap[g]? = some (.cells (Lib.byteCells l).toArray 5 fr)
theorem VRw.stabL (B : Nat) (l : List UInt8) : StabL B (VRw B l) := fun v w1 w2 ⟨g, fr, e, h0, h⟩ hb => by
  obtain ⟨fr', h'⟩ := hb.row g _ _ _ h
  exact ⟨g, fr', e, h0, h'⟩
theorem VRw.bytes {B : Nat} {l : List UInt8} {v : Value} {w : World} (h : VRw B l v w) : ∃ a, v = .slice a l.length l.length ∧ Rd w a l := by
  obtain ⟨g, fr, e, -, h⟩ := h
  exact ⟨_, e, Rd.of_lit l h⟩
theorem mark_row {B g n c : Nat} {C : Array Value} {fr : Nat × Nat} {w : World} (hB : B ≤ g) (h : w.heap[g]? = some (.cells C 5 fr)) :
    ∃ w' fr', (convert 41 41 (.slice (some ⟨g, 0, none⟩) n c)).run Tryz.prog w = .ok (.slice (some ⟨g, 0, none⟩) n c) w' ∧ w'.heap[g]? = some (.cells C 5 fr') ∧ Like B w w' := by
  have hsh : w.shape? g = some (5, C.size) := by
    unfold World.shape?
    rw [h]
  have hg : g < w.heap.size := (Array.getElem?_eq_some_iff.1 h).1
  have hw : (w.freeze ⟨g, C.size, none⟩ 1).heap = w.heap.modify g fun
      | .cells c elem (lo, hi) => .cells c elem (if lo == hi then (C.size, C.size + 1) else (min lo C.size, max hi (C.size + 1)))
      | o => o := by
    unfold World.freeze
    rw [if_neg (by decide)]
    rfl
  refine ⟨w.freeze ⟨g, C.size, none⟩ 1, if fr.1 == fr.2 then (C.size, C.size + 1) else (min fr.1 C.size, max fr.2 (C.size + 1)), ?_, ?_, ⟨⟨rfl, rfl, rfl, ?_, fun k hk => ?_⟩, fun k C' T fr0 hk => ?_⟩⟩
  · simp [convert, run_underlying Tryz.underlying41, run_underlying Tryz.underlying5, markStringish, hsh]
  · rw [hw, Array.getElem?_modify, if_pos rfl, h]
    rfl
  · rw [hw]; simp
  · rw [hw, Array.getElem?_modify, if_neg (by omega)]
  · rw [hw, Array.getElem?_modify]
    by_cases e : g = k
    · subst e
      rw [if_pos rfl, hk]
      exact ⟨_, rfl⟩
    · rw [if_neg e]
      exact ⟨fr0, hk⟩
end Go.Proofs.YtfdijcdpmgkdkaaGreatDoor
set_option linter.unusedVariables false
namespace Go.Proofs.YtfdijcdpmgkdkaaGreatDoor
open Go.RowKit

def an11k : List UInt8 := [48, 49, 50, 51, 52, 53, 54, 55, 56, 57, 97, 98, 99, 100, 101, 102]
theorem ent_enc : ∀ args w, (callFunc 36 args).run Tryz.prog w = .ok (.enter 36 args) w := run_enters Tryz.func36 (by kernel_rfl) rfl
theorem verify_token {kid typ p key : List UInt8} (hk : wordH kid = true) (ht : wordH typ = true) (hp : p.length ≤ 16384) (hkl : ¬ key.length < 16) :
    verifyJ (tokenL kid typ p key) key = (⟨kid, typ, p, signedL kid typ p, mac key (signedL kid typ p)⟩, 0) := by
  have h := parts_token (key := key) hk ht hp
  unfold verifyJ
  rw [h, if_neg (by simp), if_neg hkl, if_neg (by simp)]
theorem sign_good {kid typ p key : List UInt8} (hk : wordH kid = true) (ht : wordH typ = true) (hp : p.length ≤ 16384) (hkl : ¬ key.length < 16) : signL kid typ p key = (tokenL kid typ p key, 0) := by
  unfold signL
  rw [if_neg (by rw [hk, ht]; simp), if_neg (by omega), if_neg hkl]
theorem an11_word : wordH [107, 49] = true ∧ wordH [74, 87, 84] = true := by decide +kernel
theorem an11_take : (tokenL [107, 49] [74, 87, 84] [123, 125] an11k).take 4 = [101, 121, 74, 104] := by
  unfold tokenL signedL
  have h : (enc (headL [107, 49] [74, 87, 84])).take 4 = [101, 121, 74, 104] ∧ 4 ≤ (enc (headL [107, 49] [74, 87, 84])).length := by decide +kernel
  rw [List.take_append_of_le_length (by rw [List.length_append]; omega), List.take_append_of_le_length h.2]
  exact h.1
theorem enc_an11 : enc [123, 34, 97] = [101, 121, 74, 104] := by decide
set_option maxRecDepth 100000 in
set_option maxHeartbeats 32000000 in
theorem anchor11_any (m : Int) (w : World) (hm : w.cell? ⟨3, 0, none⟩ = some (.int .i64 m)) : Calls Tryz.prog 32 #[] w fun e w' => e = .returned (.bool true) ∧ Below w.heap.size w w' := by
  have kc : ∀ (W : World) (C : Array Value) (n c : Nat), (convert 41 41 (.slice (some ⟨W.heap.size, 0, none⟩) n c)).run Tryz.prog (W.alloc (.cells C 5)) = .ok (.slice (some ⟨W.heap.size, 0, none⟩) n c) (W.alloc (.cells C 5 (C.size, C.size + 1))) := fun W C n c => Lib.run_convert_bytes_const (P := Tryz.prog) W 41 5 C n c Tryz.underlying41 Tryz.underlying5
  have hml := World.block_lt_of_cell? _ _ hm
  go_enter Tryz.func32, Tryz.ntmps32
  go_upto_region 2 with (fail)
  generalize hw1 : w.alloc _ = w1
  have hb1 : Below w.heap.size w w1 := by rw [← hw1]; exact (Below.refl _ _).alloc (Nat.le_refl _) _
  have hr1 : Rd w1 (some ⟨w.heap.size, 0, none⟩) an11k := by rw [← hw1]; exact Rd.of_lit (T := 5) (fr := (16, 17)) _ (by rw [heap_alloc_new]; rfl)
  have HB1 := Lib.hid hb1
  have HR1 := Lib.hid hr1
  have HM1 := Lib.hid ((hb1.cell hml).trans hm)
  clear hw1 hb1 hr1 hm
  go_wp2_with fail
  have hb2 := (Below.refl w1.heap.size w1).alloc (Nat.le_refl _) (.cells #[.int .u8 123, .int .u8 125] 5 (2, 3))
  have hr2 : Rd (w1.alloc (.cells #[.int .u8 123, .int .u8 125] 5 (2, 3))) (some ⟨w1.heap.size, 0, none⟩) [123, 125] := Rd.of_lit (T := 5) (fr := (2, 3)) _ (by rw [heap_alloc_new]; rfl)
  have HS := Lib.hid (sign_any [107, 49] [74, 87, 84] [123, 125] an11k (some ⟨w1.heap.size, 0, none⟩) (some ⟨w.heap.size, 0, none⟩) 2 16 _ hr2 (HR1.out.below hb2) (by decide) (by decide) (by decide) (by decide))
  have hsv : signV [107, 49] [74, 87, 84] [123, 125] an11k = .tuple #[.string ⟨(tokenL [107, 49] [74, 87, 84] [123, 125] an11k).toArray⟩, .int .i64 0] := by
    unfold signV
    rw [sign_good an11_word.1 an11_word.2 (by decide) (by decide)]
  have hver := verify_token (key := an11k) an11_word.1 an11_word.2 (p := [123, 125]) (by decide) (by decide)
  have htk := an11_take
  have htl := (token_len (key := an11k) an11_word.1 an11_word.2 (p := [123, 125]) (by decide)).2.1
  rw [hsv] at HS
  generalize tokenL [107, 49] [74, 87, 84] [123, 125] an11k = T at *
  generalize mac an11k (signedL [107, 49] [74, 87, 84] [123, 125]) = M at *
  generalize signedL [107, 49] [74, 87, 84] [123, 125] = G at *
  have hT4 : 4 ≤ T.length := by
    have h := congrArg List.length htk
    rw [List.length_take] at h
    simp only [List.length_cons, List.length_nil] at h
    omega
  have HVE := Lib.hid hver
  have HSL : Hid (∀ w : World, (Instr.slice 9 (.string ⟨T.toArray⟩) none (some (.int .i64 4)) none).run Tryz.prog w = .ok (.string ⟨#[101, 121, 74, 104]⟩) w) := Lib.hid fun w => by
    have h := str_head T 4 hT4 4 rfl w
    rw [htk] at h
    exact h
  clear hsv hver htk
  generalize hw2 : w1.alloc _ = w2 at *
  have HB2 := Lib.hid (HB1.out.trans (hb2.mono HB1.out.size))
  clear hr2 hw2
  refine HS.out.mono ?_
  rintro e w3 ⟨rfl, hb3⟩
  have hbx := hb2.trans (hb3.mono hb2.size)
  have HB3 := Lib.hid (HB2.out.trans (hb3.mono HB2.out.size))
  have HR3 := Lib.hid (HR1.out.below hbx)
  have hm3 := (hbx.cell (World.block_lt_of_cell? _ _ HM1.out)).trans HM1.out
  have HV := Lib.hid (jwsVerify_any T an11k (some ⟨w.heap.size, 0, none⟩) 16 m w3 hm3 (by omega) HR3.out (by decide))
  rw [HVE.out] at HV
  clear hb2 hb3 hbx hm3 HS HM1
  go_wp2_with fail
  refine HV.out.mono ?_
  rintro e w4 ⟨hb4, v, rfl, pa, pc, ga, gc, rfl, hr1, hr2⟩
  have HB4 := Lib.hid (HB3.out.trans (hb4.mono HB3.out.size))
  have HP4 : Hid (Rd w4 pa [123, 125]) := Lib.hid hr1
  clear hb4 hr1 hr2 HV HVE
  go_upto_region 4 with (fail)
  generalize hw5 : w4.alloc _ = w5
  obtain ⟨pb, hpb⟩ : ∃ pb, w4.heap.size = pb := ⟨_, rfl⟩
  have hb5 : Below w4.heap.size w4 w5 := by rw [← hw5]; exact (Below.refl _ _).alloc (Nat.le_refl _) _
  have hx5 : w5.heap[pb]? = some (.cells #[.string ⟨#[107, 49]⟩, .string ⟨#[74, 87, 84]⟩, .slice pa 2 pc, .string ⟨G.toArray⟩, .slice ga M.length gc] 66 (0, 0)) := by rw [← hw5, ← hpb]; exact heap_alloc_new _ _
  have HB5 := Lib.hid (HB4.out.trans (hb5.mono HB4.out.size))
  have HP5 := Lib.hid (HP4.out.below hb5)
  have HX5 := Lib.hid hx5
  have hpl : pb < w5.heap.size := (Array.getElem?_eq_some_iff.1 hx5).1
  rw [hpb]
  clear hw5 hb5 hx5 HB4 HP4
  refine wp_region_like (by kernel_rfl) (by kernel_rfl) [22, 23, 24, 25, 26, 27, 28, 29, 30, 31, 32, 33, 34, 35, 36, 37, 38, 39, 40, 41, 42, 43, 44, 45, 46, 47, 0] rfl (by decide) (by kernel_rfl) (fun iX => [VIs (.int .i64 0), VIs (.bool true), VIs (.bool true), VIs (.int .i64 0), VIs (.bool true), VIs (.bool true), VIs (.bool true), VIs (.pointer (some ⟨pb, 0, none⟩)), VIs (.pointer (some ⟨pb, 0, none⟩)), VIs (.string ⟨#[107, 49]⟩), VIs (.bool true), VIs (.bool true), VIs (.bool true), VIs (.pointer (some ⟨pb, 2, none⟩)), VIs (.slice pa 2 pc), VIs (.string ⟨#[123, 125]⟩), VIs (.bool true), VIs (.bool true), VIs (.bool true), VIs (.string ⟨T.toArray⟩), VIs (.string ⟨#[101, 121, 74, 104]⟩), VRw w5.heap.size [123, 34, 97], VRw w5.heap.size [123, 34, 97], VIs (.string ⟨#[101, 121, 74, 104]⟩), VIs (.bool true), VIs (.bool true), VIs (.bool true)].getD iX fun _ _ => True) (stab_listL _ _ ?_) ?_ ?_
  · skip
    intro V hV
    simp only [List.mem_cons, List.mem_nil_iff, or_false] at hV
    rcases hV with rfl | rfl | rfl | rfl | rfl | rfl | rfl | rfl | rfl | rfl | rfl | rfl | rfl | rfl | rfl | rfl | rfl | rfl | rfl | rfl | rfl | rfl | rfl | rfl | rfl | rfl | rfl <;> first | exact VIs.stabL _ _ | exact VRw.stabL _ _
  · intro iX o ho a' w' hf hb hd
    rcases iX with _ | _ | _ | _ | _ | _ | _ | _ | _ | _ | _ | _ | _ | _ | _ | _ | _ | _ | _ | _ | _ | _ | _ | _ | _ | _ | _ | iX
    · cases ho
      refine like_op hb.size rfl rfl rfl (grow_move rfl ?_)
      exact (hf.same 3 (by decide)).trans rfl
    · cases ho
      refine like_op hb.size rfl rfl rfl ?_
      have e0 : a'.tmps.getD 22 undef = .int .i64 0 := hd 0 (by kernel_rfl)
      refine grow_value (v := .bool true) (w' := w') ?_ rfl (Below.refl _ _)
      simp only [execOp, Act.eval, e0]
      go_simp
    · cases ho
      refine like_op hb.size rfl rfl rfl (grow_move rfl ?_)
      exact hd 1 (by kernel_rfl)
    · cases ho
      have hg : a'.tmps.getD 24 undef = .bool true := hd 2 (by kernel_rfl)
      refine like_op hb.size rfl (grow_wanted rfl rfl hg) rfl (grow_move rfl ?_)
      exact (hf.same 5 (by decide)).trans rfl
    · cases ho
      have hg : a'.tmps.getD 24 undef = .bool true := hd 2 (by kernel_rfl)
      refine like_op hb.size rfl (grow_wanted rfl rfl hg) rfl ?_
      have e3 : a'.tmps.getD 25 undef = .int .i64 0 := hd 3 (by kernel_rfl)
      refine grow_value (v := .bool true) (w' := w') ?_ rfl (Below.refl _ _)
      simp only [execOp, Act.eval, e3]
      go_simp
    · cases ho
      refine like_op hb.size rfl rfl rfl ?_
      have e2 : a'.tmps.getD 24 undef = .bool true := hd 2 (by kernel_rfl)
      have e4 : a'.tmps.getD 26 undef = .bool true := hd 4 (by kernel_rfl)
      refine grow_value (v := .bool true) (w' := w') ?_ rfl (Below.refl _ _)
      simp only [execOp, Act.eval, e2, e4]
      go_simp
    · cases ho
      refine like_op hb.size rfl rfl rfl (grow_move rfl ?_)
      exact hd 5 (by kernel_rfl)
    · cases ho
      have hg : a'.tmps.getD 28 undef = .bool true := hd 6 (by kernel_rfl)
      refine like_op hb.size rfl (grow_wanted rfl rfl hg) rfl ?_
      have f4 : a'.tmps.getD 4 undef = .pointer (some ⟨pb, 0, none⟩) := (hf.same 4 (by decide)).trans rfl
      refine grow_value (v := .pointer (some ⟨pb, 0, none⟩)) (w' := w') ?_ rfl (Below.refl _ _)
      simp only [execOp, Act.eval]
      go_simp
    · cases ho
      have hg : a'.tmps.getD 28 undef = .bool true := hd 6 (by kernel_rfl)
      refine like_op hb.size rfl (grow_wanted rfl rfl hg) rfl ?_
      have e7 : a'.tmps.getD 29 undef = .pointer (some ⟨pb, 0, none⟩) := hd 7 (by kernel_rfl)
      refine grow_value (v := .pointer (some ⟨pb, 0, none⟩)) (w' := w') ?_ rfl (Below.refl _ _)
      simp only [execOp, Act.eval, e7]
      go_simp
    · cases ho
      have hg : a'.tmps.getD 28 undef = .bool true := hd 6 (by kernel_rfl)
      refine like_op hb.size rfl (grow_wanted rfl rfl hg) rfl ?_
      have e8 : a'.tmps.getD 30 undef = .pointer (some ⟨pb, 0, none⟩) := hd 8 (by kernel_rfl)
      obtain ⟨x0, x1, x2, x3, x4⟩ := five_at HX5.out hb hpl
      refine grow_value (v := .string ⟨#[107, 49]⟩) (w' := w') ?_ rfl (Below.refl _ _)
      simp only [execOp, Act.eval, e8]
      go_simp
    · cases ho
      have hg : a'.tmps.getD 28 undef = .bool true := hd 6 (by kernel_rfl)
      refine like_op hb.size rfl (grow_wanted rfl rfl hg) rfl ?_
      have e9 : a'.tmps.getD 31 undef = .string ⟨#[107, 49]⟩ := hd 9 (by kernel_rfl)
      refine grow_value (v := .bool true) (w' := w') ?_ rfl (Below.refl _ _)
      simp only [execOp, Act.eval, e9]
      go_simp
    · cases ho
      refine like_op hb.size rfl rfl rfl ?_
      have e6 : a'.tmps.getD 28 undef = .bool true := hd 6 (by kernel_rfl)
      have e10 : a'.tmps.getD 32 undef = .bool true := hd 10 (by kernel_rfl)
      refine grow_value (v := .bool true) (w' := w') ?_ rfl (Below.refl _ _)
      simp only [execOp, Act.eval, e6, e10]
      go_simp
    · cases ho
      refine like_op hb.size rfl rfl rfl (grow_move rfl ?_)
      exact hd 11 (by kernel_rfl)
    · cases ho
      have hg : a'.tmps.getD 34 undef = .bool true := hd 12 (by kernel_rfl)
      refine like_op hb.size rfl (grow_wanted rfl rfl hg) rfl ?_
      have f4 : a'.tmps.getD 4 undef = .pointer (some ⟨pb, 0, none⟩) := (hf.same 4 (by decide)).trans rfl
      refine grow_value (v := .pointer (some ⟨pb, 2, none⟩)) (w' := w') ?_ rfl (Below.refl _ _)
      simp only [execOp, Act.eval]
      go_simp
    · cases ho
      have hg : a'.tmps.getD 34 undef = .bool true := hd 12 (by kernel_rfl)
      refine like_op hb.size rfl (grow_wanted rfl rfl hg) rfl ?_
      have e13 : a'.tmps.getD 35 undef = .pointer (some ⟨pb, 2, none⟩) := hd 13 (by kernel_rfl)
      obtain ⟨x0, x1, x2, x3, x4⟩ := five_at HX5.out hb hpl
      refine grow_value (v := .slice pa 2 pc) (w' := w') ?_ rfl (Below.refl _ _)
      simp only [execOp, Act.eval, e13]
      go_simp
    · cases ho
      have hg : a'.tmps.getD 34 undef = .bool true := hd 12 (by kernel_rfl)
      refine like_op hb.size rfl (grow_wanted rfl rfl hg) rfl ?_
      have e14 : a'.tmps.getD 36 undef = .slice pa 2 pc := hd 14 (by kernel_rfl)
      have x0 := str_of_rd (HP5.out.below hb) 2 pc rfl
      refine grow_value (v := .string ⟨#[123, 125]⟩) (w' := w') ?_ rfl (Below.refl _ _)
      simp only [execOp, Act.eval, e14]
      go_simp
    · cases ho
      have hg : a'.tmps.getD 34 undef = .bool true := hd 12 (by kernel_rfl)
      refine like_op hb.size rfl (grow_wanted rfl rfl hg) rfl ?_
      have e15 : a'.tmps.getD 37 undef = .string ⟨#[123, 125]⟩ := hd 15 (by kernel_rfl)
      refine grow_value (v := .bool true) (w' := w') ?_ rfl (Below.refl _ _)
      simp only [execOp, Act.eval, e15]
      go_simp
    · cases ho
      refine like_op hb.size rfl rfl rfl ?_
      have e12 : a'.tmps.getD 34 undef = .bool true := hd 12 (by kernel_rfl)
      have e16 : a'.tmps.getD 38 undef = .bool true := hd 16 (by kernel_rfl)
      refine grow_value (v := .bool true) (w' := w') ?_ rfl (Below.refl _ _)
      simp only [execOp, Act.eval, e12, e16]
      go_simp
    · cases ho
      refine like_op hb.size rfl rfl rfl (grow_move rfl ?_)
      exact hd 17 (by kernel_rfl)
    · cases ho
      have hg : a'.tmps.getD 40 undef = .bool true := hd 18 (by kernel_rfl)
      refine like_op hb.size rfl (grow_wanted rfl rfl hg) rfl (grow_move rfl ?_)
      exact (hf.same 2 (by decide)).trans rfl
    · cases ho
      have hg : a'.tmps.getD 40 undef = .bool true := hd 18 (by kernel_rfl)
      refine like_op hb.size rfl (grow_wanted rfl rfl hg) rfl ?_
      have e19 : a'.tmps.getD 41 undef = .string ⟨T.toArray⟩ := hd 19 (by kernel_rfl)
      have x0 := HSL.out w'
      refine grow_value (v := .string ⟨#[101, 121, 74, 104]⟩) (w' := w') ?_ rfl (Below.refl _ _)
      simp only [execOp, Act.eval, e19]
      go_simp
    · cases ho
      have hg : a'.tmps.getD 40 undef = .bool true := hd 18 (by kernel_rfl)
      refine like_op hb.size rfl (grow_wanted rfl rfl hg) rfl ?_
      refine grow_value (v := .slice (some ⟨w'.heap.size, 0, none⟩) 3 3) (w' := w'.alloc (.cells #[.int .u8 123, .int .u8 34, .int .u8 97] 5)) ?_ ⟨_, _, rfl, hb.size, heap_alloc_new _ _⟩ ((Below.refl _ _).alloc (Nat.le_refl _) _)
      simp only [execOp]
      go_simp
    · cases ho
      have hg : a'.tmps.getD 40 undef = .bool true := hd 18 (by kernel_rfl)
      have e : VRw w5.heap.size [123, 34, 97] (a'.tmps.getD 43 undef) w' := hd 21 (by kernel_rfl)
      obtain ⟨g, fr, e1, hgB, hrow⟩ := e
      obtain ⟨wf, fr', hcv, hrow', hlk⟩ := mark_row (n := 3) (c := 3) hgB hrow
      refine mark_op (w' := wf) (v := .slice (some ⟨g, 0, none⟩) 3 3) rfl (grow_wanted rfl rfl hg) rfl ?_ ⟨g, fr', rfl, hgB, hrow'⟩ hlk
      simp only [execOp, Act.eval, e1]
      go_simp
    · cases ho
      have hg : a'.tmps.getD 40 undef = .bool true := hd 18 (by kernel_rfl)
      refine like_op hb.size rfl (grow_wanted rfl rfl hg) rfl ?_
      have e : VRw w5.heap.size [123, 34, 97] (a'.tmps.getD 44 undef) w' := hd 22 (by kernel_rfl)
      obtain ⟨g, fr, e1, hg, hrow⟩ := e
      refine grow_call ent_enc rfl ?_
      simp only [List.map_toArray, List.map_cons, List.map_nil, Act.eval, e1]
      refine (Encode_any (some ⟨g, 0, none⟩) [123, 34, 97] 3 w' (Rd.of_lit _ hrow) (by decide)).mono ?_
      rintro e w'' ⟨rfl, hb2⟩
      rw [enc_an11]
      exact ⟨_, rfl, rfl, hb2⟩
    · cases ho
      have hg : a'.tmps.getD 40 undef = .bool true := hd 18 (by kernel_rfl)
      refine like_op hb.size rfl (grow_wanted rfl rfl hg) rfl ?_
      have e20 : a'.tmps.getD 42 undef = .string ⟨#[101, 121, 74, 104]⟩ := hd 20 (by kernel_rfl)
      have e23 : a'.tmps.getD 45 undef = .string ⟨#[101, 121, 74, 104]⟩ := hd 23 (by kernel_rfl)
      refine grow_value (v := .bool true) (w' := w') ?_ rfl (Below.refl _ _)
      simp only [execOp, Act.eval, e20, e23]
      go_simp
    · cases ho
      refine like_op hb.size rfl rfl rfl ?_
      have e18 : a'.tmps.getD 40 undef = .bool true := hd 18 (by kernel_rfl)
      have e24 : a'.tmps.getD 46 undef = .bool true := hd 24 (by kernel_rfl)
      refine grow_value (v := .bool true) (w' := w') ?_ rfl (Below.refl _ _)
      simp only [execOp, Act.eval, e18, e24]
      go_simp
    · cases ho
      refine like_op hb.size rfl rfl rfl (grow_assign rfl ?_)
      exact hd 25 (by kernel_rfl)
    · simp at ho
  · intro a' w' hf hb hd
    have hd43 : VRw w5.heap.size [123, 34, 97] _ w' := hd 21 (by decide)
    obtain ⟨g43, -, hv43, -⟩ := hd43
    have hd44 : VRw w5.heap.size [123, 34, 97] _ w' := hd 22 (by decide)
    obtain ⟨g44, -, hv44, -⟩ := hd44
    have hv45 := hd 23 (by decide)
    obtain rfl := hf.eq [Value.int IntKind.i64 0, Value.bool true, Value.bool true, Value.int IntKind.i64 0, Value.bool true, Value.bool true, Value.bool true, Value.pointer (some ⟨pb, 0, none⟩), Value.pointer (some ⟨pb, 0, none⟩), Value.string ⟨#[107, 49]⟩, Value.bool true, Value.bool true, Value.bool true, Value.pointer (some ⟨pb, 2, none⟩), Value.slice pa 2 pc, Value.string ⟨#[123, 125]⟩, Value.bool true, Value.bool true, Value.bool true, Value.string ⟨T.toArray⟩, Value.string ⟨#[101, 121, 74, 104]⟩, Value.slice (some ⟨g43, 0, none⟩) 3 3, Value.slice (some ⟨g44, 0, none⟩) 3 3, Value.string ⟨#[101, 121, 74, 104]⟩, Value.bool true, Value.bool true, Value.bool true] (fun j hj => match j, hj with
      | 0, _ => hd 0 (by decide)
      | 1, _ => hd 1 (by decide)
      | 2, _ => hd 2 (by decide)
      | 3, _ => hd 3 (by decide)
      | 4, _ => hd 4 (by decide)
      | 5, _ => hd 5 (by decide)
      | 6, _ => hd 6 (by decide)
      | 7, _ => hd 7 (by decide)
      | 8, _ => hd 8 (by decide)
      | 9, _ => hd 9 (by decide)
      | 10, _ => hd 10 (by decide)
      | 11, _ => hd 11 (by decide)
      | 12, _ => hd 12 (by decide)
      | 13, _ => hd 13 (by decide)
      | 14, _ => hd 14 (by decide)
      | 15, _ => hd 15 (by decide)
      | 16, _ => hd 16 (by decide)
      | 17, _ => hd 17 (by decide)
      | 18, _ => hd 18 (by decide)
      | 19, _ => hd 19 (by decide)
      | 20, _ => hd 20 (by decide)
      | 21, _ => hv43
      | 22, _ => hv44
      | 23, _ => hv45
      | 24, _ => hd 24 (by decide)
      | 25, _ => hd 25 (by decide)
      | 26, _ => hd 26 (by decide)
      | k + 27, h => absurd h (by simp)) (by decide) (by kernel_rfl) rfl
    simp only [List.zip_cons_cons, List.zip_nil_right, List.foldl_cons, List.foldl_nil, Act.put, List.setIfInBounds_toArray, List.set_cons_succ, List.set_cons_zero]
    have HBF := Lib.hid (HB5.out.trans (hb.mono HB5.out.size))
    clear hd hf hb hv43 hv44 hv45
    go_wp2_with fail
    refine bodyPost_ret (results_tmp rfl _ _ _) rfl ?_
    exact ⟨rfl, HBF.out⟩
end Go.Proofs.YtfdijcdpmgkdkaaGreatDoor

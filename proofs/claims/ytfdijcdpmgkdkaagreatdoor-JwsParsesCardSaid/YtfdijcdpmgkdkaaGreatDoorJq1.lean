/- Merged: MacE, B64a, B64b, Jw2, Su1, PtU, Su2, Su3, Su4, Su5, Su6, B64e, Jw3, Jw4, JsMz, Jw5, Jw6, Jw7, Jw8, RfQ, B64d, B64s. -/
import Derived.Test.YtfdijcdpmgkdkaaGreatDoorProg
import Derived.WalkKit
import Derived.WalkSpells
import Derived.WalkLawsBesides
import Derived.KernelRfl
import Derived.Lib.Hide
import Derived.Deep.QuietTactic
import Derived.BigQuiet
import Derived.StillTailTactics
import Derived.RegionTactic
import Derived.ChangeAlike
import Derived.Lib.Builder
import Derived.Deep.LoopGhost
import Derived.Laws.ResultCell
import Derived.Lib.IndexAny
import Derived.Deep.DeepCutAuto
import Derived.Test.YtfdijcdpmgkdkaaGreatDoorJm1
import Derived.Test.YtfdijcdpmgkdkaaGreatDoorJm2
import Derived.Test.YtfdijcdpmgkdkaaGreatDoorJm3
import Derived.Test.YtfdijcdpmgkdkaaGreatDoorJm4
import Derived.Test.YtfdijcdpmgkdkaaGreatDoorJm5
import Derived.Test.YtfdijcdpmgkdkaaGreatDoorJm6
import Derived.Test.YtfdijcdpmgkdkaaGreatDoorJm7
set_option linter.unusedVariables false
namespace Go.Proofs.YtfdijcdpmgkdkaaGreatDoor
open Go.RowKit

set_option maxHeartbeats 2000000 in
theorem equal_any (a b : Option Addr) (l m : List UInt8) (c d n k : Nat) (w : World) (ha : Rd w a l) (hb : Rd w b m) (hn : n = l.length) (hk : k = m.length) (hmax : l.length ≤ maxLen) :
    Calls Tryz.prog 73 #[.slice a n c, .slice b k d] w fun e w' => e = .returned (.bool (l == m)) ∧ Below w.heap.size w w' := by
  subst hn hk
  have hmx : l.length ≤ 9223372036854775807 := by unfold maxLen at hmax; omega
  have HA := Lib.hid ha
  have HB := Lib.hid hb
  clear ha hb hmax
  go_enter Tryz.func73, Tryz.ntmps73
  by_cases hl : l.length = m.length
  · have hlI : (l.length : Int) = (m.length : Int) := by omega
    have hne : ((l.length : Int) != (m.length : Int)) = false := by simp [hlI]
    have HL := Lib.hid hl
    clear hl hlI
    go_wp2_with fail
    go_loopg [14, 5] l.length (fun k y x wr => ∃ j X : Nat, y = .int .i64 j ∧ x = .int .u8 X ∧ j + k = l.length ∧ X < 256 ∧ Hid (X = 0 ↔ l.take j = m.take j) ∧ Hid (Below w.heap.size w wr))
    case atStart => exact ⟨0, 0, rfl, rfl, by omega, by decide, Lib.hid (by simp), Lib.hid (Below.refl _ _)⟩
    case round =>
      obtain ⟨j, X, rfl, rfl, hj, hX, HI, HBW⟩ := hrel
      by_cases hlt : j < l.length
      · have hlm : j < m.length := by have := HL.out; omega
        obtain ⟨ba, oa, rfl, hca⟩ := HA.out.at hlt
        obtain ⟨bb, ob, rfl, hcb⟩ := HB.out.at hlm
        have h1 := cell_now HBW.out (hca j hlt)
        have h2 := cell_now HBW.out (hcb j hlm)
        have hx1 := (l[j]).toNat_lt
        have hx2 := (m[j]).toNat_lt
        have heq : l.take (j + 1) = m.take (j + 1) ↔ (l.take j = m.take j ∧ (l[j]).toNat = (m[j]).toNat) := by
          rw [List.take_add_one, List.take_add_one, List.getElem?_eq_getElem hlt, List.getElem?_eq_getElem hlm]
          constructor
          · intro h
            obtain ⟨e1, e2⟩ := List.append_inj h (by simp; omega)
            simp at e2
            exact ⟨e1, by rw [e2]⟩
          · rintro ⟨e1, e2⟩
            rw [e1, UInt8.toNat_inj.1 e2]
        obtain ⟨x1, e1⟩ : ∃ x, (l[j]).toNat = x := ⟨_, rfl⟩
        obtain ⟨x2, e2⟩ : ∃ x, (m[j]).toNat = x := ⟨_, rfl⟩
        rw [e1] at h1 hx1 heq
        rw [e2] at h2 hx2 heq
        have hxo := u8_xor_nat x1 x2 hx1 hx2
        have hlt3 : x1 ^^^ x2 < 256 := Nat.xor_lt_two_pow (n := 8) hx1 hx2
        obtain ⟨x3, e3⟩ : ∃ x, x1 ^^^ x2 = x := ⟨_, rfl⟩
        rw [e3] at hxo hlt3
        have hor := u8_or_nat X x3 hX hlt3
        have hlt4 : X ||| x3 < 256 := Nat.or_lt_two_pow (n := 8) hX hlt3
        have hz : X ||| x3 = 0 ↔ l.take (j + 1) = m.take (j + 1) := by
          rw [or_zero, ← e3, xor_zero, heq, HI.out]
        obtain ⟨x4, e4⟩ : ∃ x, X ||| x3 = x := ⟨_, rfl⟩
        rw [e4] at hor hlt4 hz
        have HZ := Lib.hid hz
        have H4 := Lib.hid hlt4
        have HC := Lib.hid (And.intro hca hcb)
        have j0 : 0 ≤ (j : Int) := by omega
        have jn : ((j : Int)).toNat = j := by omega
        have jlt : (j : Int) < (l.length : Int) := by omega
        have jlm : (j : Int) < (m.length : Int) := by omega
        clear e1 e2 e3 e4 heq hz hlt4 hca hcb hne
        go_upto_region 7 with (fail)
        go_quiet (fail)
        go_wp2
        go_roundg (gk - 1)
        case measure => omega
        case rel => exact ⟨j + 1, x4, by go_num, rfl, by omega, H4.out, HZ, Lib.hid (HBW.out.trans ⟨rfl, rfl, rfl, Nat.le_refl _, fun _ _ => rfl⟩)⟩
      · obtain rfl : j = l.length := by omega
        have hi := HI.out
        rw [List.take_length, HL.out, List.take_length] at hi
        by_cases h0 : X = 0
        · subst h0
          have e : (l == m) = true := by simpa using hi.1 rfl
          have HE := Lib.hid e
          clear hi e
          go_wp2_with fail
          go_ret
          exact ⟨by rw [HE.out]; rfl, HBW.out⟩
        · have e : (l == m) = false := by
            have : ¬ l = m := fun h => h0 (hi.2 h)
            simpa using this
          have hXI : ¬ (X : Int) = 0 := by omega
          have hXb : ((X : Int) == 0) = false := by simpa using h0
          have HE := Lib.hid e
          clear hi e
          go_wp2_with fail
          go_ret
          exact ⟨by rw [HE.out]; rfl, HBW.out⟩
  · have e : (l == m) = false := by
      have : ¬ l = m := fun h => hl (by rw [h])
      simpa using this
    have hlI : ¬ (l.length : Int) = (m.length : Int) := by omega
    have hne : ((l.length : Int) != (m.length : Int)) = true := by simp; omega
    have HE := Lib.hid e
    clear e
    go_wp2_with fail
    go_ret
    exact ⟨by rw [HE.out]; rfl, Below.refl _ _⟩
theorem ent_equal : ∀ args w, (callFunc 73 args).run Tryz.prog w = .ok (.enter 73 args) w := run_enters Tryz.func73 (by kernel_rfl) rfl
theorem grow_equal {Q : Exit → Act → World → Prop} {o : Oper} {a : Act} {w : World} {x y : Operand} {ts : Array TypeId} {l m : List UInt8} {r : Bool} (ho : o.op = .call { callee := .value (.func 73), args := #[x, y], argTypes := ts }) (hx : VBytes l (a.eval x) w) (hy : VBytes m (a.eval y) w) (hmax : l.length ≤ maxLen) (hr : (l == m) = r) :
    o.wp Tryz.prog a w (Grew o.dst (VIs (.bool r)) a w) Q := by
  subst hr
  obtain ⟨ak, ck, e1, h1⟩ := hx
  obtain ⟨ap, cp, e2, h2⟩ := hy
  refine grow_call ent_equal ho ?_
  simp only [List.map_toArray, List.map_cons, List.map_nil, e1, e2]
  exact (equal_any ak ap l m ck cp _ _ w h1 h2 rfl rfl hmax).mono (fun e w' ⟨h, hb⟩ => ⟨_, h, rfl, hb⟩)
end Go.Proofs.YtfdijcdpmgkdkaaGreatDoor
namespace Go.Proofs.YtfdijcdpmgkdkaaGreatDoor
open Go.RowKit

/-- The bits' block: 'rest' and 'count'. -/
def Bts (g : Nat) (r c : Nat) (w : World) : Prop := w.heap[g]? = some (.cells #[.int .i64 r, .int .i64 c] 115 (0, 0))

set_option maxHeartbeats 400000 in
theorem push_any (g : Nat) (r c n wd : Nat) (w : World) (h : Bts g r c w) (hw1 : wd ≤ 8) (hc1 : c ≤ 100) (hr : r ≤ 1000000) (hn : n < 2 ^ wd) :
    Calls Tryz.prog 75 #[.pointer (some ⟨g, 0, none⟩), .int .i64 n, .int .i64 wd] w fun e w' => e = .returned (.tuple #[]) ∧ Bts g (r * 2 ^ wd + n) (c + wd) w' ∧ But g w w' := by
  have h0 : w.cell? ⟨g, 0, none⟩ = some (.int .i64 r) := by rw [Lib.cell_of_heap h]; rfl
  have h1 : w.cell? ⟨g, 1, none⟩ = some (.int .i64 c) := by rw [Lib.cell_of_heap h]; rfl
  have f0 : w.frozen? ⟨g, 0, none⟩ = false := Lib.frozen_of_heap h 0
  have f1 : w.frozen? ⟨g, 1, none⟩ = false := Lib.frozen_of_heap h 1
  have H := Lib.hid h
  clear h
  have hwd0 : (0 : Int) ≤ wd := by omega
  have hwd1 : (wd : Int) ≤ 8 := by omega
  go_enter Tryz.func75, Tryz.ntmps75
  go_wp2
  go_end0
  have e : ((r * 2 ^ wd + n : Nat) : Int) = bits BinOp.or IntKind.i64 (wrap64 (↑r * 2 ^ wd)) ↑n := by
    have hp : 2 ^ wd ≤ 2 ^ 8 := Nat.pow_le_pow_right (by decide) hw1
    have hm : r * 2 ^ wd ≤ 1000000 * 2 ^ 8 := Nat.mul_le_mul hr hp
    have e0 : ((r * 2 ^ wd : Nat) : Int) = (r : Int) * 2 ^ wd := by simp
    have e1 : wrap64 ((r : Int) * 2 ^ wd) = ((r * 2 ^ wd : Nat) : Int) := by
      rw [← e0]; exact wrap64_in _ (by omega) (by omega)
    rw [e1, i64_or _ _ (by omega) (by omega), or_add _ _ _ hn]
  refine ⟨rfl, ?_, (But.setCell _ _ _ _).trans (But.setCell _ _ _ _)⟩
  have := setCell_block (setCell_block (o := 0) H.out (.int .i64 (bits BinOp.or IntKind.i64 (wrap64 (↑r * 2 ^ wd)) ↑n))) (o := 1) (.int .i64 (↑c + ↑wd))
  unfold Bts
  rw [this, e]
  simp

set_option maxHeartbeats 400000 in
theorem pop_any (g : Nat) (r c wd : Nat) (w : World) (h : Bts g r c w) (hw1 : wd ≤ 8) (hc1 : c ≤ 20) (hr : r < 2 ^ c) (hlt : wd ≤ c) :
    Calls Tryz.prog 76 #[.pointer (some ⟨g, 0, none⟩), .int .i64 wd] w fun e w' => e = .returned (.tuple #[.int .i64 ↑(r / 2 ^ (c - wd)), .bool true]) ∧ Bts g (r % 2 ^ (c - wd)) (c - wd) w' ∧ But g w w' := by
  have h0 : w.cell? ⟨g, 0, none⟩ = some (.int .i64 r) := by rw [Lib.cell_of_heap h]; rfl
  have h1 : w.cell? ⟨g, 1, none⟩ = some (.int .i64 c) := by rw [Lib.cell_of_heap h]; rfl
  have f0 : w.frozen? ⟨g, 0, none⟩ = false := Lib.frozen_of_heap h 0
  have f1 : w.frozen? ⟨g, 1, none⟩ = false := Lib.frozen_of_heap h 1
  have H := Lib.hid h
  clear h
  have hwd0 : (0 : Int) ≤ wd := by omega
  have hwd1 : (wd : Int) ≤ 8 := by omega
  go_enter Tryz.func76, Tryz.ntmps76
  go_wp2
  go_quiet (fail)
  go_wp2
  go_region
  go_wp2
  go_ret2
  have hq : c - wd ≤ 20 := by omega
  have hp : 2 ^ (c - wd) ≤ 2 ^ 20 := Nat.pow_le_pow_right (by decide) hq
  have hp1 : 1 ≤ 2 ^ (c - wd) := Nat.one_le_two_pow
  have hr2 : 2 ^ c ≤ 2 ^ 20 := Nat.pow_le_pow_right (by decide) hc1
  have e : bits BinOp.and IntKind.i64 (↑r) (wrap64 (wrap64 (2 ^ (c - wd)) - 1)) = ((r % 2 ^ (c - wd) : Nat) : Int) := by
    have e0 : ((2 ^ (c - wd) : Nat) : Int) = (2 : Int) ^ (c - wd) := by simp
    have e1 : wrap64 ((2 : Int) ^ (c - wd)) = ((2 ^ (c - wd) : Nat) : Int) := by
      rw [← e0]; exact wrap64_in _ (by omega) (by omega)
    have e2 : wrap64 (((2 ^ (c - wd) : Nat) : Int) - 1) = ((2 ^ (c - wd) - 1 : Nat) : Int) := by
      rw [wrap64_in _ (by omega) (by omega)]; omega
    rw [e1, e2, i64_and _ _ (by omega) (by omega), Nat.and_two_pow_sub_one_eq_mod]
  rw [e]
  refine ⟨by simp, ?_, ?_⟩
  · have e3 : ((c - wd : Nat) : Int) = (c : Int) - wd := by omega
    have h3 := setCell_block (o := 1) H.out (.int .i64 ((c : Int) - (wd : Int)))
    have := setCell_block (drewN_at h3 (nq + 1)) (o := 0) (.int .i64 ((r % 2 ^ (c - wd) : Nat) : Int))
    unfold Bts
    rw [this, e3]
    simp
  · exact ((But.setCell w g 1 _).drewN _).trans (But.setCell _ _ _ _)

set_option maxHeartbeats 400000 in
theorem pop_none (g : Nat) (r c wd : Nat) (w : World) (h : Bts g r c w) (hlt : c < wd) :
    Calls Tryz.prog 76 #[.pointer (some ⟨g, 0, none⟩), .int .i64 wd] w fun e w' => e = .returned (.tuple #[.int .i64 0, .bool false]) ∧ w' = w := by
  have h1 : w.cell? ⟨g, 1, none⟩ = some (.int .i64 c) := by rw [Lib.cell_of_heap h]; rfl
  clear h
  go_enter Tryz.func76, Tryz.ntmps76
  go_wp2
  go_ret2
  exact ⟨rfl, rfl⟩
end Go.Proofs.YtfdijcdpmgkdkaaGreatDoor
namespace Go.Proofs.YtfdijcdpmgkdkaaGreatDoor
open Go.RowKit

/-- The accumulator and the builder, s being what they hold. -/
structure EncAt (B : Nat) (w wr : World) (s : List UInt8 × Nat × Nat) : Prop where
  bld : Bld B s.1 wr
  bts : Bts (B + 1) s.2.1 s.2.2 wr
  bel : Below B w wr

theorem push_call (g : Nat) (r c n wd : Nat) (N W : Int) (w : World) (h : Bts g r c w) (hN : N = n) (hW : W = wd) (hw1 : wd ≤ 8) (hc1 : c ≤ 100) (hr : r ≤ 1000000) (hn : n < 2 ^ wd) :
    Calls Tryz.prog 75 #[.pointer (some ⟨g, 0, none⟩), .int .i64 N, .int .i64 W] w fun e w' => e = .returned (.tuple #[]) ∧ Bts g (r * 2 ^ wd + n) (c + wd) w' ∧ But g w w' := by
  subst hN; subst hW
  exact push_any g r c n wd w h hw1 hc1 hr hn

theorem pop_call (g : Nat) (r c wd q : Nat) (W : Int) (w : World) (h : Bts g r c w) (hW : W = wd) (hw1 : wd ≤ 8) (hc1 : c ≤ 20) (hr : r < 2 ^ c) (hlt : wd ≤ c) (hq : r / 2 ^ (c - wd) = q) :
    Calls Tryz.prog 76 #[.pointer (some ⟨g, 0, none⟩), .int .i64 W] w fun e w' => e = .returned (.tuple #[.int .i64 q, .bool true]) ∧ Bts g (r % 2 ^ (c - wd)) (c - wd) w' ∧ But g w w' := by
  subst hW; subst hq
  exact pop_any g r c wd w h hw1 hc1 hr hlt

theorem alpha_at (q : Nat) (h : q < 64) : (((⟨#[65, 66, 67, 68, 69, 70, 71, 72, 73, 74, 75, 76, 77, 78, 79, 80, 81, 82, 83, 84, 85, 86, 87, 88, 89, 90, 97, 98, 99, 100, 101, 102, 103, 104, 105, 106, 107, 108, 109, 110, 111, 112, 113, 114, 115, 116, 117, 118, 119, 120, 121, 122, 48, 49, 50, 51, 52, 53, 54, 55, 56, 57, 45, 95]⟩ : ByteArray)[q]'h).toNat : Int) = ((lt64 q).toNat : Int) := by
  have e : alpha.getD q 0 = alpha[q]'h := by rw [List.getD_eq_getElem?_getD, List.getElem?_eq_getElem (show q < alpha.length from h)]; rfl
  unfold lt64
  simp only [e]
  rfl

theorem alloc2_at (w : World) (x y : Obj) : ((w.alloc x).alloc y).heap[w.heap.size + 1]? = some y := by
  have h := heap_alloc_new (w.alloc x) y
  rw [show (w.alloc x).heap.size = w.heap.size + 1 from by simp] at h
  exact h

theorem Bld.but {b g : Nat} {l : List UInt8} {w w' : World} (h : Bld b l w) (hb : But g w w') (hg : ∃ cs fr, w.heap[g]? = some (.cells cs 115 fr)) : Bld b l w' := by
  obtain ⟨cs, fr, hg⟩ := hg
  have key : ∀ p, Lib.BuilderAtF 87 5 b b p (Lib.byteCells l) w → Lib.BuilderAtF 87 5 b b p (Lib.byteCells l) w' := by
    rintro p ⟨h1, v, h2, h3, h4⟩
    refine ⟨h1, v, ?_, ?_, h4⟩
    · rw [hb.block b (Array.getElem?_eq_some_iff.1 h2).1 ?_]
      · exact h2
      · rintro rfl
        rw [hg] at h2
        simp at h2
    · refine h3.kept (row := some g) ⟨hb.os, hb.tape, hb.output, hb.size, fun k hk hne => hb.block k hk (fun e => hne (by rw [e]))⟩ ?_
      rcases h3.2 with ⟨rfl, _⟩ | ⟨g', cap, cur, fz, rfl, _, hgg, _⟩
      · exact .inl rfl
      · refine .inr ?_
        simp only [Value.ownBlock, ne_eq, Option.some.injEq]
        rintro rfl
        rw [hg] at hgg
        simp at hgg
  exact h.elim (fun x => .inl (key _ x)) (fun x => .inr (key _ x))

theorem but_below {g B : Nat} {a w w' : World} (h : Below B a w) (hb : But g w w') (hg : B ≤ g) (hs : B ≤ w.heap.size) : Below B a w' :=
  h.trans ⟨hb.os, hb.tape, hb.output, hb.size, fun k hk => hb.block k (by omega) (by omega)⟩

theorem EncAt.step {B : Nat} {w wr w' : World} {s : List UInt8 × Nat × Nat} (h : EncAt B w wr s) {r c : Nat} (hB : B ≤ w.heap.size) (hb : Bts (B + 1) r c w') (hk : But (B + 1) wr w') : EncAt B w w' (s.1, r, c) :=
  ⟨h.bld.but hk ⟨_, _, h.bts⟩, hb, but_below h.bel hk (by omega) (Nat.le_trans hB h.bel.size)⟩

theorem EncAt.write {B : Nat} {w wr w' : World} {o o' : List UInt8} {r c : Nat} (h : EncAt B w wr (o, r, c)) (hb : Bld B o' w') (hk : Below B wr w') (ho : Lib.OthersKept 5 (some B) wr w') : EncAt B w w' (o', r, c) :=
  ⟨hb, ho _ _ h.bts (by simp) (by simp), h.bel.trans hk⟩

set_option maxHeartbeats 1000000 in
theorem Encode_any (a : Option Addr) (l : List UInt8) (cp : Nat) (w : World) (hr : Rd w a l) (hl : l.length ≤ 1000000) :
    Calls Tryz.prog 36 #[.slice a l.length cp] w fun e w' => e = .returned (.string ⟨(enc l).toArray⟩) ∧ Below w.heap.size w w' := by
  go_enter Tryz.func36, Tryz.ntmps36
  go_wp2
  go_loopg [15] (l.length) (fun k i wr => ∃ j : Nat, j + k = l.length ∧ i = .int .i64 j ∧ EncAt w.heap.size w wr (encAll (l.take j)))
  case atStart =>
    refine ⟨0, by omega, rfl, ?_⟩
    refine ⟨(Bld.fresh w).alloc _, ?_, ((Below.refl _ _).alloc (Nat.le_refl _) _).alloc (by simp) _⟩
    exact alloc2_at w _ _
  case round =>
    obtain ⟨gO, rfl⟩ : ∃ x : Nat, x = gk := ⟨_, rfl⟩
    obtain ⟨j, hj, rfl, hE⟩ := hrel
    by_cases hlt : j < l.length
    · obtain ⟨b, off, rfl, hc⟩ := hr.at hlt
      have hcj := cell_now hE.bel (hc j hlt)
      have hA := encAll_acc (l.take j)
      have hS := encAll_snoc (l.take j) l[j]
      rw [← take_snoc8 l j hlt] at hS
      have HS := Lib.hid hS
      clear hc hr hS
      have hx : l[j].toNat < 2 ^ 8 := l[j].toNat_lt
      obtain ⟨o, r, c, hs⟩ : ∃ o r c, encAll (l.take j) = (o, r, c) := ⟨_, _, _, rfl⟩
      rw [hs] at hE hA
      have HE := Lib.hid hs
      clear hs
      obtain ⟨hA1, hA2⟩ := hA
      have HO : o.length + 3 < 4000000 := by have := encAll_len (l.take j); rw [HE.out] at this; have h2 : (l.take j).length ≤ l.length := List.length_take_le' _ _; simp only at this; omega
      have hA1' : c < 6 := hA1
      have h26 : 2 ^ c ≤ 2 ^ 6 := Nat.pow_le_pow_right (by decide) (by omega)
      have hr64 : r < 64 := Nat.lt_of_lt_of_le hA2 h26
      clear h26
      go_wp2_with fail
      refine (push_call _ r c l[j].toNat 8 _ _ _ hE.bts (by first | rfl | (unfold wrap64; omega)) rfl (by omega) (by omega) (by omega) hx).mono ?_
      rintro e w1 ⟨rfl, hb1, hk1⟩
      have hE1 := hE.step (Nat.le_refl _) hb1 hk1
      have hend : pop6 3 o (r * 2 ^ 8 + l[j].toNat) (c + 8) = encAll (l.take (j + 1)) := by
        rw [HS.out, HE.out]; rfl
      have hrx : r * 2 ^ 8 + l[j].toNat < 2 ^ (c + 8) := by
        have : r + 1 ≤ 2 ^ c := hA2
        have := Nat.mul_le_mul_right (2 ^ 8) this
        rw [Nat.pow_add]; omega
      have HEND := Lib.hid (And.intro hend hrx)
      clear hend hrx hE hb1
      go_wp2
      go_loopg [] 3 (fun k wq => ∃ (o' : List UInt8) (r' c' : Nat), c' < 14 ∧ c' < 6 + 6 * k ∧ o'.length + k < 4000000 ∧ r' < 2 ^ c' ∧ Hid (pop6 k o' r' c' = encAll (l.take (j + 1))) ∧ EncAt w.heap.size w wq (o', r', c'))
      case atStart =>
        exact ⟨o, _, _, by omega, by omega, HO, HEND.out.2, HEND.out.1, hE1⟩
      case round =>
        obtain ⟨o', r', c', hc1, hc2, hol, hr2, hfin, hE2⟩ := hrel
        by_cases h6 : c' < 6
        · go_wp2_with fail
          refine (pop_none _ r' c' 6 _ hE2.bts h6).mono ?_
          rintro e w2 ⟨rfl, rfl⟩
          go_wp2
          go_roundg (gO - 1)
          case measure => omega
          case rel =>
            refine ⟨j + 1, by omega, by go_num, ?_⟩
            have e1 : (o', r', c') = encAll (l.take (j + 1)) := by
              rw [← hfin.out]
              cases k2 : gk with
              | zero => rfl
              | succ m => unfold pop6; rw [if_pos h6]
            rw [← e1]
            exact hE2
        · obtain ⟨m, rfl⟩ : ∃ m, gk = m + 1 := ⟨gk - 1, by omega⟩
          have hfin2 : pop6 m (o' ++ [lt64 (r' / 2 ^ (c' - 6))]) (r' % 2 ^ (c' - 6)) (c' - 6) = encAll (l.take (j + 1)) := by
            have := hfin.out
            unfold pop6 at this
            rw [if_neg h6] at this
            exact this
          have hmod : r' % 2 ^ (c' - 6) < 2 ^ (c' - 6) := Nat.mod_lt _ (Nat.two_pow_pos _)
          have hq64 : r' / 2 ^ (c' - 6) < 64 := by
            rw [Nat.div_lt_iff_lt_mul (Nat.two_pow_pos _)]
            calc r' < 2 ^ c' := hr2
              _ = 2 ^ (6 + (c' - 6)) := by congr 1; omega
              _ = 64 * 2 ^ (c' - 6) := by rw [Nat.pow_add]
          obtain ⟨q, hq⟩ : ∃ q, r' / 2 ^ (c' - 6) = q := ⟨_, rfl⟩
          rw [hq] at hq64 hfin2
          have HQ := Lib.hid (And.intro hq (And.intro hfin2 hmod))
          clear hq hfin2 hfin hmod
          go_wp2_with fail
          refine (pop_call _ r' c' 6 q _ _ hE2.bts rfl (by omega) (by omega) hr2 (by omega) HQ.out.1).mono ?_
          rintro e w2 ⟨rfl, hb2, hk2⟩
          have hE3 := hE2.step (Nat.le_refl _) hb2 hk2
          clear hE2 hb2
          go_wp2_with fail
          refine (WriteByte_any _ o' _ (lt64 q) (alpha_at q hq64) _ hE3.bld (by omega)).mono ?_
          rintro e w3 ⟨rfl, hb3, hk3, ho3⟩
          have hE4 := hE3.write hb3 hk3 ho3
          go_wp2
          go_roundg m
          case measure => omega
          case rel => exact ⟨_, _, _, by omega, by omega, by simp; omega, HQ.out.2.2, HQ.out.2.1, hE4⟩
    · have hall : l.take j = l := List.take_of_length_le (by omega)
      rw [hall] at hE
      have hA := encAll_acc l
      have hlen := encAll_len l
      obtain ⟨o, r, c, hs⟩ : ∃ o r c, encAll l = (o, r, c) := ⟨_, _, _, rfl⟩
      rw [hs] at hE hA hlen
      have HS := Lib.hid hs
      clear hs hall
      obtain ⟨hA1, hA2⟩ := hA
      simp only at hA1 hA2 hlen
      have h26 : 2 ^ c ≤ 2 ^ 6 := Nat.pow_le_pow_right (by decide) (by omega)
      have hr64 : r < 64 := Nat.lt_of_lt_of_le hA2 h26
      clear h26
      have hc1 : wr.cell? ⟨w.heap.size + 1, 1, none⟩ = some (.int .i64 c) := by rw [Lib.cell_of_heap hE.bts]; rfl
      by_cases h0 : c = 0
      · subst h0
        have hc2 : wr.cell? ⟨w.heap.size + 1, 1, none⟩ = some (.int .i64 0) := hc1
        clear hc1
        go_wp2_with fail
        refine (BString_any _ o _ hE.bld).mono ?_
        rintro e w2 ⟨rfl, hb2, hk2, _⟩
        go_wp2
        go_ret
        refine ⟨?_, hE.bel.trans hk2⟩
        unfold enc encEnd
        rw [HS.out, if_pos rfl]
        rfl
      · have hpos : 0 < c := by omega
        go_wp2_with fail
        refine (push_call _ r c 0 (6 - c) _ _ _ hE.bts rfl (by omega) (by omega) (by omega) (by omega) (Nat.two_pow_pos _)).mono ?_
        rintro e w2 ⟨rfl, hb2, hk2⟩
        have hE2 := hE.step (Nat.le_refl _) hb2 hk2
        have h6 : c + (6 - c) = 6 := by omega
        rw [h6] at hb2 hE2
        have hr6 : r * 2 ^ (6 - c) + 0 < 2 ^ 6 := by
          have h1 : r + 1 ≤ 2 ^ c := hA2
          have h2 := Nat.mul_le_mul_right (2 ^ (6 - c)) h1
          rw [← Nat.pow_add, h6] at h2
          have h3 : 0 < 2 ^ (6 - c) := Nat.two_pow_pos _
          rw [Nat.add_mul] at h2
          omega
        obtain ⟨q, hq⟩ : ∃ q, r * 2 ^ (6 - c) + 0 = q := ⟨_, rfl⟩
        rw [hq] at hr6 hb2 hE2
        have HQ := Lib.hid hq
        have H6 := Lib.hid h6
        clear hq h6 hE hc1
        go_wp2_with fail
        refine (pop_call _ q 6 6 q _ _ hb2 rfl (by omega) (by omega) hr6 (by omega) (by simp)).mono ?_
        rintro e w3 ⟨rfl, hb3, hk3⟩
        have hE3 := hE2.step (Nat.le_refl _) hb3 hk3
        have hq64 : q < 64 := hr6
        clear hb2 hE2 hb3
        go_wp2_with fail
        refine (WriteByte_any _ o _ (lt64 q) (alpha_at q hq64) _ hE3.bld (by omega)).mono ?_
        rintro e w4 ⟨rfl, hb4, hk4, ho4⟩
        have hE4 := hE3.write hb4 hk4 ho4
        go_wp2_with fail
        refine (BString_any _ _ _ hE4.bld).mono ?_
        rintro e w5 ⟨rfl, hb5, hk5, _⟩
        go_wp2
        go_ret
        have henc : enc l = o ++ [lt64 q] := by
          unfold enc encEnd
          rw [HS.out, if_neg h0, ← HQ.out, Nat.add_zero]
        refine ⟨?_, hE4.bel.trans hk5⟩
        rw [henc]
        rfl
end Go.Proofs.YtfdijcdpmgkdkaaGreatDoor
set_option linter.unusedVariables false
namespace Go.Proofs.YtfdijcdpmgkdkaaGreatDoor
open Go.RowKit

theorem two_at {B x : Nat} {w w' : World} {a b : Value} {T : TypeId} {fr : Nat × Nat} (h : w.heap[x]? = some (.cells #[a, b] T fr)) (hb : Below B w w') (hx : x < B) :
    w'.cell? ⟨x, 0, none⟩ = some a ∧ w'.cell? ⟨x, 1, none⟩ = some b := by
  have hx := (hb.block x hx).trans h
  refine ⟨?_, ?_⟩ <;> (rw [Lib.cell_of_heap hx]; rfl)
def signV (kid typ p key : List UInt8) : Value := .tuple #[.string ⟨(signL kid typ p key).1.toArray⟩, .int .i64 (signL kid typ p key).2]
set_option maxRecDepth 100000 in
set_option maxHeartbeats 16000000 in
theorem sign_any (kid typ p key : List UInt8) (pa ka : Option Addr) (pc kc : Nat) (w : World) (hp : Rd w pa p) (hk : Rd w ka key) (hkid : kid.length ≤ 1000000) (htyp : typ.length ≤ 1000000) (hkl : key.length ≤ 800000) (hpl : p.length ≤ 800000) :
    Calls Tryz.prog 33 #[.agg #[.string ⟨kid.toArray⟩, .string ⟨typ.toArray⟩], .slice pa p.length pc, .slice ka key.length kc] w fun e w' => e = .returned (signV kid typ p key) ∧ Below w.heap.size w w' := by
  have HSV : Hid (signV kid typ p key = if wordH kid = false ∨ wordH typ = false then .tuple #[.string ⟨#[]⟩, .int .i64 10] else if 16384 < p.length then .tuple #[.string ⟨#[]⟩, .int .i64 11] else if key.length < 16 then .tuple #[.string ⟨#[]⟩, .int .i64 41] else .tuple #[.string ⟨(tokenL kid typ p key).toArray⟩, .int .i64 0]) := Lib.hid (by
    unfold signV signL
    split
    · rfl
    · split
      · rfl
      · split <;> rfl)
  have HHR := Lib.hid (fun w1 => hright_any kid typ w1 hkid htyp)
  generalize signV kid typ p key = SV at *
  go_enter Tryz.func33, Tryz.ntmps33
  have hb1 : Below w.heap.size w (w.alloc (.cells #[.string ⟨kid.toArray⟩, .string ⟨typ.toArray⟩] 61)) := (Below.refl _ _).alloc (Nat.le_refl _) _
  have hx1 := heap_alloc_new w (.cells #[.string ⟨kid.toArray⟩, .string ⟨typ.toArray⟩] 61)
  have HP1 := Lib.hid (hp.below hb1)
  have HK1 := Lib.hid (hk.below hb1)
  clear hp hk hkid htyp
  go_upto_region 1 with (fail)
  generalize w.alloc _ = w1 at *
  have HB1 := Lib.hid hb1
  have HX1 := Lib.hid hx1
  have hs1 : w.heap.size < w1.heap.size := (Array.getElem?_eq_some_iff.1 hx1).1
  obtain ⟨c0, c1⟩ := two_at hx1 (Below.refl w1.heap.size w1) hs1
  clear hb1 hx1
  go_wp2_with fail
  refine (HHR.out w1).mono ?_
  rintro e w2 ⟨rfl, hb2⟩
  have HB2 := Lib.hid (HB1.out.trans (hb2.mono HB1.out.size))
  have HX2 := Lib.hid ((hb2.block _ hs1).trans HX1.out)
  have HP2 := Lib.hid (HP1.out.below hb2)
  have HK2 := Lib.hid (HK1.out.below hb2)
  have hs2 : w.heap.size < w2.heap.size := Nat.lt_of_lt_of_le hs1 hb2.size
  clear hb2 c0 c1 HHR HX1 HP1 HK1
  by_cases hw : wordH kid = false ∨ wordH typ = false
  · have hS : SV = .tuple #[.string ⟨#[]⟩, .int .i64 10] := by rw [HSV.out, if_pos hw]
    have HS := Lib.hid hS
    have hwb : (wordH kid && wordH typ) = false := by rcases hw with h | h <;> rw [h] <;> simp
    rw [hwb]
    clear hw hS hwb HSV
    go_wp2_with fail
    refine bodyPost_ret (v := .tuple #[.string ⟨#[]⟩, .int .i64 10]) (by simp [results, Tryz.results33, go_sem]) rfl ?_
    exact ⟨by rw [HS.out], HB2.out⟩
  obtain ⟨wk, wt⟩ : wordH kid = true ∧ wordH typ = true := by
    cases h1 : wordH kid <;> cases h2 : wordH typ <;> simp_all
  rw [wk, wt]
  by_cases hp1 : 16384 < p.length
  · have hS : SV = .tuple #[.string ⟨#[]⟩, .int .i64 11] := by rw [HSV.out, if_neg hw, if_pos hp1]
    have HS := Lib.hid hS
    have hI : (16384 : Int) < (p.length : Int) := by omega
    clear hw hS HSV wk wt
    go_wp2_with fail
    refine bodyPost_ret (v := .tuple #[.string ⟨#[]⟩, .int .i64 11]) (by simp [results, Tryz.results33, go_sem]) rfl ?_
    exact ⟨by rw [HS.out], HB2.out⟩
  have hI : ¬ (16384 : Int) < (p.length : Int) := by omega
  by_cases hk1 : key.length < 16
  · have hS : SV = .tuple #[.string ⟨#[]⟩, .int .i64 41] := by rw [HSV.out, if_neg hw, if_neg hp1, if_pos hk1]
    have HS := Lib.hid hS
    have hJ : (key.length : Int) < 16 := by omega
    clear hw hS HSV wk wt
    go_wp2_with fail
    refine bodyPost_ret (v := .tuple #[.string ⟨#[]⟩, .int .i64 41]) (by simp [results, Tryz.results33, go_sem]) rfl ?_
    exact ⟨by rw [HS.out], HB2.out⟩
  have hJ : ¬ (key.length : Int) < 16 := by omega
  have hS : SV = .tuple #[.string ⟨(tokenL kid typ p key).toArray⟩, .int .i64 0] := by rw [HSV.out, if_neg hw, if_neg hp1, if_neg hk1]
  have HS := Lib.hid hS
  have HHD := Lib.hid (fun w1 => header_any kid typ w1 wk wt)
  obtain ⟨hl1, hl2, hl3⟩ := token_len (key := key) wk wt (Nat.le_of_not_lt hp1)
  have hhl := headL_len wk wt
  have HTK : Hid (tokenL kid typ p key = signedL kid typ p ++ 46 :: enc (mac key (signedL kid typ p))) := Lib.hid rfl
  have HSG : Hid (signedL kid typ p = enc (headL kid typ) ++ 46 :: enc p) := Lib.hid rfl
  generalize tokenL kid typ p key = T at *
  generalize signedL kid typ p = G at *
  generalize headL kid typ = H at *
  have hep := enc_len p
  have heh := enc_len H
  have hlEH : (enc H).length ≤ 900 := by omega
  have hlEP : (enc p).length ≤ 22000 := by omega
  clear hw hS HSV wk wt hep heh hl3
  obtain ⟨c0, c1⟩ := two_at HX2.out (Below.refl w2.heap.size w2) hs2
  go_wp2_with fail
  refine (HHD.out w2).mono ?_
  rintro e w3 ⟨rfl, hb3⟩
  obtain ⟨cc, w4, hcv, hb4, hrd4, -⟩ := bytes_of_str H w3
  have hb34 := hb3.trans (hb4.mono hb3.size)
  have HB4 := Lib.hid (HB2.out.trans (hb34.mono HB2.out.size))
  have HP4 := Lib.hid (HP2.out.below hb34)
  have HK4 := Lib.hid (HK2.out.below hb34)
  have HE := Lib.hid (Encode_any (some ⟨w3.heap.size, 0, none⟩) H cc w4 hrd4 (by omega))
  clear hb3 hb4 hb34 hrd4 c0 c1 HX2 HP2 HK2 HHD
  go_wp2_with fail
  refine HE.out.mono ?_
  rintro e w5 ⟨rfl, hb5⟩
  have HB5 := Lib.hid (HB4.out.trans (hb5.mono HB4.out.size))
  have HP5 := Lib.hid (HP4.out.below hb5)
  have HK5 := Lib.hid (HK4.out.below hb5)
  have HE2 := Lib.hid (Encode_any pa p pc w5 HP5.out (by omega))
  obtain ⟨EH, hEH⟩ : ∃ EH, enc H = EH := ⟨_, rfl⟩
  obtain ⟨EP, hEP⟩ : ∃ EP, enc p = EP := ⟨_, rfl⟩
  rw [hEH] at hlEH HSG ⊢
  rw [hEP] at hlEP HSG HE2
  have hcA : (⟨EH.toArray⟩ : ByteArray) ++ ⟨#[46]⟩ = ⟨(EH ++ [46]).toArray⟩ := st_cat EH [46]
  obtain ⟨A1, hA1⟩ : ∃ A1, EH ++ [46] = A1 := ⟨_, rfl⟩
  rw [hA1] at hcA
  have hlA : A1.length ≤ 901 := by rw [← hA1]; simp; omega
  have hcG : (⟨A1.toArray⟩ : ByteArray) ++ ⟨EP.toArray⟩ = ⟨G.toArray⟩ := by
    rw [HSG.out, ← hA1]
    have := st_cat (EH ++ [46]) EP
    simpa using this
  clear hb5 HP4 HK4 HE hcv hEH hEP hA1 HSG
  go_wp2_with fail
  refine HE2.out.mono ?_
  rintro e w6 ⟨rfl, hb6⟩
  have HB6 := Lib.hid (HB5.out.trans (hb6.mono HB5.out.size))
  have HK6 := Lib.hid (HK5.out.below hb6)
  obtain ⟨cc2, w7, hcv2, hb7, hrd7, -⟩ := bytes_of_str G w6
  have HB7 := Lib.hid (HB6.out.trans (hb7.mono HB6.out.size))
  have HK7 := Lib.hid (HK6.out.below hb7)
  have HC := Lib.hid (code_any ka kc key.length key [G] (some ⟨w7.heap.size, 0, none⟩) 1 1 (w7.alloc (.cells #[.slice (some ⟨w6.heap.size, 0, none⟩) G.length cc2] 41)) (HK7.out.below ((Below.refl _ _).alloc (Nat.le_refl _) _)) rfl (RdS.one hrd7 _) rfl hkl (by simp) (by simp; omega))
  have hfl : [G].flatten = G := by simp
  rw [hfl] at HC
  have hcD : (⟨G.toArray⟩ : ByteArray) ++ ⟨#[46]⟩ = ⟨(G ++ [46]).toArray⟩ := st_cat G [46]
  obtain ⟨G1, hG1⟩ : ∃ G1, G ++ [46] = G1 := ⟨_, rfl⟩
  rw [hG1] at hcD
  have hlG1 : G1.length ≤ 25000 := by rw [← hG1]; simp; omega
  clear hb6 hb7 hrd7 HP5 HK5 HE2 HK6 hfl
  go_wp2_with fail
  refine HC.out.mono ?_
  rintro e w8 ⟨v8, rfl, htl, hb8⟩
  have HB8 := Lib.hid (HB7.out.trans ((((Below.refl _ _).alloc (Nat.le_refl _) _).trans (hb8.mono (by simp))).mono HB7.out.size))
  obtain ⟨ma, mc, rfl, hmr, -, -, -⟩ := htl.shape
  have hml := mac_len key G
  have HTK2 : Hid (T = G1 ++ enc (mac key G)) := Lib.hid (by rw [HTK.out, ← hG1]; simp)
  generalize mac key G = M at *
  have HE3 := Lib.hid (Encode_any ma M mc w8 hmr (by omega))
  have hem := enc_len M
  obtain ⟨EM, hEM⟩ : ∃ EM, enc M = EM := ⟨_, rfl⟩
  rw [hEM] at HE3 HTK2 hem
  have hlEM : EM.length ≤ 50 := by rw [hem, hml]; decide
  have hcT : (⟨G1.toArray⟩ : ByteArray) ++ ⟨EM.toArray⟩ = ⟨T.toArray⟩ := by rw [HTK2.out]; exact st_cat G1 EM
  clear hb8 htl hmr HC hem hEM hml hcG hcA hG1 HTK HTK2 hcv2
  go_wp2_with fail
  refine HE3.out.mono ?_
  rintro e w9 ⟨rfl, hb9⟩
  have HB9 := Lib.hid (HB8.out.trans (hb9.mono HB8.out.size))
  clear hb9 HE3
  go_wp2_with fail
  refine bodyPost_ret (v := .tuple #[.string ⟨T.toArray⟩, .int .i64 0]) (by simp [results, Tryz.results33, go_sem]) rfl ?_
  exact ⟨by rw [HS.out], HB9.out⟩
end Go.Proofs.YtfdijcdpmgkdkaaGreatDoor
set_option linter.unusedVariables false
namespace Go.Proofs.YtfdijcdpmgkdkaaGreatDoor
open Go.RowKit

end Go.Proofs.YtfdijcdpmgkdkaaGreatDoor
set_option linter.unusedVariables false
namespace Go.Proofs.YtfdijcdpmgkdkaaGreatDoor
open Go.RowKit

def strs (l : List (List UInt8)) : List Value := l.map fun p => .string ⟨p.toArray⟩
theorem info_str : (Tryz.prog.info? 9).map (fun i => (i.zero, i.size, i.bytes)) = some (some (.string ⟨#[]⟩), 1, 16) := by kernel_rfl
/-- The parts up to i, and where the last begins. -/
def PartsAt (c : UInt8) (s : List UInt8) (done : List (List UInt8)) (q i : Nat) : Prop :=
  (i ≤ s.length ∧ q ≤ i ∧ partsL c s = done ++ partsL c (s.drop q) ∧ c ∉ (s.drop q).take (i - q)) ∨ (i = s.length + 1 ∧ partsL c s = done)
theorem PartsAt.start (c : UInt8) (s : List UInt8) : PartsAt c s [] 0 0 := .inl ⟨by omega, by omega, by simp, by simp⟩
theorem PartsAt.on {c : UInt8} {s : List UInt8} {done : List (List UInt8)} {q i : Nat} (h : PartsAt c s done q i) (hi : i < s.length) (hc : s[i] ≠ c) : PartsAt c s done q (i + 1) := by
  rcases h with ⟨h1, h2, h3, h4⟩ | ⟨h1, _⟩
  · refine .inl ⟨by omega, by omega, h3, ?_⟩
    rw [show i + 1 - q = (i - q) + 1 by omega, List.take_add_one]
    intro hm
    rcases List.mem_append.1 hm with hm | hm
    · exact h4 hm
    · rw [List.getElem?_drop, show q + (i - q) = i by omega, List.getElem?_eq_getElem hi] at hm
      simp at hm
      exact hc hm.symm
  · omega
theorem PartsAt.hit {c : UInt8} {s : List UInt8} {done : List (List UInt8)} {q i : Nat} (h : PartsAt c s done q i) (hi : i < s.length) (hc : s[i] = c) : q ≤ i ∧ PartsAt c s (done ++ [(s.drop q).take (i - q)]) (i + 1) (i + 1) := by
  rcases h with ⟨h1, h2, h3, h4⟩ | ⟨h1, _⟩
  · refine ⟨h2, .inl ⟨by omega, by omega, ?_, by simp⟩⟩
    have e : s.drop q = (s.drop q).take (i - q) ++ c :: s.drop (i + 1) := by
      conv => lhs; rw [← List.take_append_drop (i - q) (s.drop q)]
      rw [List.drop_drop, show q + (i - q) = i by omega, List.drop_eq_getElem_cons hi, hc]
    rw [h3]
    conv => lhs; rw [e]
    rw [partsL_hit c _ _ h4]
    simp
  · omega
theorem PartsAt.last {c : UInt8} {s : List UInt8} {done : List (List UInt8)} {q : Nat} (h : PartsAt c s done q s.length) : q ≤ s.length ∧ PartsAt c s (done ++ [(s.drop q).take (s.length - q)]) (s.length + 1) (s.length + 1) := by
  rcases h with ⟨h1, h2, h3, h4⟩ | ⟨h1, _⟩
  · refine ⟨h2, .inr ⟨rfl, ?_⟩⟩
    have e : (s.drop q).take (s.length - q) = s.drop q := List.take_of_length_le (by simp)
    rw [e] at h4 ⊢
    rw [h3, partsL_none c _ h4]
  · omega
theorem PartsAt.end {c : UInt8} {s : List UInt8} {done : List (List UInt8)} {q : Nat} (h : PartsAt c s done q (s.length + 1)) : partsL c s = done := by
  rcases h with ⟨h1, _⟩ | ⟨_, h⟩
  · omega
  · exact h

set_option maxRecDepth 100000 in
set_option maxHeartbeats 8000000 in
theorem parts_any (s : List UInt8) (c : UInt8) (w : World) (hs : s.length ≤ 1000000) :
    Calls Tryz.prog 65 #[.string ⟨s.toArray⟩, .int .u8 (c.toNat : Int)] w fun e w' => (∃ a cap, e = .returned (.slice a (partsL c s).length cap) ∧ RdC w' a (strs (partsL c s))) ∧ Below w.heap.size w w' := by
  obtain ⟨i0, hi, hz0, hz1, hz2⟩ := info_parts info_str
  have HI := Lib.hid hi
  have HZ0 := Lib.hid hz0
  have HZ1 := Lib.hid hz1
  have HZ2 := Lib.hid hz2
  clear hi hz0 hz1 hz2
  go_enter Tryz.func65, Tryz.ntmps65
  go_wp2_with fail
  go_loopg [5, 6, 7] (s.length + 1) (fun k out x y wr => ∃ (i q : Nat) (done : List (List UInt8)), x = .int .i64 (q : Int) ∧ y = .int .i64 (i : Int) ∧ i + k = s.length + 1 ∧ q ≤ s.length + 1 ∧ done.length ≤ i ∧ Hid (PartsAt c s done q i) ∧ Hid (wr.ownsRow w.heap.size 9 1 out done.length (strs done)) ∧ Hid (Below w.heap.size w wr))
  case atStart => exact ⟨0, 0, [], rfl, rfl, by omega, by omega, by simp, Lib.hid (PartsAt.start c s), Lib.hid (World.ownsRow_nil _ _ _ _), Lib.hid (Below.refl _ _)⟩
  case round =>
    obtain ⟨i, q, done, rfl, rfl, hi, hq, hdl, HP, HW, HB⟩ := hrel
    have hszB : w.heap.size ≤ wr.heap.size := HB.out.size
    obtain ⟨ao, co, hout, hro, _⟩ := RdC.of_own HW.out
    subst hout
    have HRO := Lib.hid hro
    clear hro
    by_cases hlt : i < s.length
    · have hltI : (i : Int) ≤ (s.length : Int) := by omega
      have hltJ : ¬ (i : Int) = (s.length : Int) := by omega
      have hix := fun w => str_at s i hlt w
      by_cases hc : s[i] = c
      · obtain ⟨hqi, hp2⟩ := HP.out.hit hlt hc
        rw [hc] at hix
        have hsl := fun w => st_mid s q i hqi (by omega) _ _ rfl rfl w
        generalize (s.drop q).take (i - q) = x at *
        have HP2 := Lib.hid hp2
        clear hp2 HP hc
        go_wp2_with (at_builtin; refine wpList_append_new rfl (.tmp 25) (.tmp 30) 53 rfl w.heap.size 9 i0 _ 1 16 Tryz.underlying53 HI.out HZ0.out HZ1.out HZ2.out rfl (by decide) _ _ _ rfl (HW.out.alloc _) wr.heap.size 1 #[.string ⟨x.toArray⟩] 9 (0, 0) ?c1 rfl rfl ?c2 ?c3 ?c4 ?c5 ?_)
        case c1 => exact heap_alloc_new _ _
        case c2 => rfl
        case c3 => omega
        case c4 => omega
        case c5 => simp; omega
        intro v' w4 hown' hgrow
        have hb4 := below_own (HB.out.alloc hszB _) (HW.out.alloc _) hgrow (by simp; omega)
        have HW4 := Lib.hid hown'
        have HB4 := Lib.hid hb4
        clear hown' hgrow hb4 HW HB
        go_wp2_with fail
        go_roundg (gk - 1)
        case measure => omega
        case rel => exact ⟨i + 1, i + 1, done ++ [x], by first | rfl | (congr 1), by first | rfl | (congr 1), by omega, by omega, by simp; omega, HP2, Lib.hid (by have := HW4.out; simpa [strs] using this), HB4⟩
      · have hcI : ¬ ((s[i].toNat : Nat) : Int) = (c.toNat : Int) := fun e => hc (UInt8.toNat_inj.1 (by omega))
        have hp2 := HP.out.on hlt hc
        have hcN : ¬ s[i].toNat = c.toNat := fun e => hc (UInt8.toNat_inj.1 e)
        have hcB : (((s[i].toNat : Nat) : Int) == (c.toNat : Int)) = false := by rw [beq_eq_false_iff_ne]; exact hcI
        generalize s[i] = d at *
        have HP2 := Lib.hid hp2
        clear hp2 HP hc
        go_wp2_with fail
        go_roundg (gk - 1)
        case measure => omega
        case rel => exact ⟨i + 1, q, done, rfl, by first | rfl | (congr 1), by omega, by omega, by omega, HP2, HW, HB⟩
    · by_cases heq : i = s.length
      · subst heq
        have hltI : (s.length : Int) ≤ (s.length : Int) := by omega
        obtain ⟨hqi, hp2⟩ := HP.out.last
        have hsl := fun w => st_mid s q s.length hqi (by omega) _ _ rfl rfl w
        generalize (s.drop q).take (s.length - q) = x at *
        have HP2 := Lib.hid hp2
        clear hp2 HP
        go_wp2_with (at_builtin; refine wpList_append_new rfl (.tmp 25) (.tmp 30) 53 rfl w.heap.size 9 i0 _ 1 16 Tryz.underlying53 HI.out HZ0.out HZ1.out HZ2.out rfl (by decide) _ _ _ rfl (HW.out.alloc _) wr.heap.size 1 #[.string ⟨x.toArray⟩] 9 (0, 0) ?c1d rfl rfl ?c2d ?c3d ?c4d ?c5d ?_)
        case c1d => exact heap_alloc_new _ _
        case c2d => rfl
        case c3d => omega
        case c4d => omega
        case c5d => simp; omega
        intro v' w4 hown' hgrow
        have hb4 := below_own (HB.out.alloc hszB _) (HW.out.alloc _) hgrow (by simp; omega)
        have HW4 := Lib.hid hown'
        have HB4 := Lib.hid hb4
        clear hown' hgrow hb4 HW HB
        go_wp2_with fail
        go_roundg (gk - 1)
        case measure => omega
        case rel => exact ⟨s.length + 1, s.length + 1, done ++ [x], by first | rfl | (congr 1), by first | rfl | (congr 1), by omega, by omega, by simp; omega, HP2, Lib.hid (by have := HW4.out; simpa [strs] using this), HB4⟩
      · have hlt2 : i = s.length + 1 := by omega
        subst hlt2
        have hltI : ¬ (((s.length + 1 : Nat)) : Int) ≤ (s.length : Int) := by omega
        have hr := HP.out.end
        have HR := Lib.hid hr
        clear hr HP
        go_wp2_with fail
        go_ret
        refine ⟨⟨ao, ⟨co, ?_⟩, ?_⟩, HB.out⟩
        · rw [HR.out]; rfl
        · rw [HR.out]; exact HRO.out
end Go.Proofs.YtfdijcdpmgkdkaaGreatDoor
set_option linter.unusedVariables false
namespace Go.Proofs.YtfdijcdpmgkdkaaGreatDoor
open Go.RowKit

end Go.Proofs.YtfdijcdpmgkdkaaGreatDoor
set_option linter.unusedVariables false
namespace Go.Proofs.YtfdijcdpmgkdkaaGreatDoor
open Go.RowKit

end Go.Proofs.YtfdijcdpmgkdkaaGreatDoor
set_option linter.unusedVariables false
namespace Go.Proofs.YtfdijcdpmgkdkaaGreatDoor
open Go.RowKit

end Go.Proofs.YtfdijcdpmgkdkaaGreatDoor
set_option linter.unusedVariables false
namespace Go.Proofs.YtfdijcdpmgkdkaaGreatDoor
open Go.RowKit

theorem strM_eq (n : List UInt8) (v : JV) : strM n v = (((getJ n v).getD .zero).text, (getJ n v).isSome && ((getJ n v).getD .zero).kind == 4) := by
  unfold strM
  cases getJ n v <;> rfl
end Go.Proofs.YtfdijcdpmgkdkaaGreatDoor
set_option linter.unusedVariables false
namespace Go.Proofs.YtfdijcdpmgkdkaaGreatDoor
open Go.RowKit

theorem getM_size {n : List UInt8} {x : JV} : ∀ {m : List (List UInt8 × JV)}, getM n m = some x → sizeJ x ≤ sizeM m
  | (a, v) :: m, h => by
    simp only [getM] at h
    rw [sizeM]
    by_cases hp : a = n
    · rw [if_pos hp] at h
      have := Option.some.inj h
      subst this
      omega
    · rw [if_neg hp] at h
      have := getM_size h
      omega
theorem strM_len (n : List UInt8) (v : JV) : (strM n v).1.length ≤ sizeJ v := by
  unfold strM
  cases h : getJ n v with
  | none => exact Nat.zero_le _
  | some x =>
    unfold getJ at h
    split at h
    · have h1 := getM_size h
      obtain ⟨k, y, t, l, m⟩ := v
      obtain ⟨k', y', t', l', m'⟩ := x
      simp only [JV.mem, JV.text, sizeJ] at *
      omega
    · cases h
theorem mem_size (v : JV) : v.mem.length ≤ sizeJ v := by
  have h1 := lenM_size v.mem
  obtain ⟨k, y, t, l, m⟩ := v
  simp only [JV.mem, sizeJ] at *
  omega
end Go.Proofs.YtfdijcdpmgkdkaaGreatDoor
set_option linter.unusedVariables false
namespace Go.Proofs.YtfdijcdpmgkdkaaGreatDoor
open Go.RowKit

theorem Own.but {B g : Nat} {w w' : World} {v : Value} {l : List UInt8} {cs : Array Value} {T : TypeId} {fr : Nat × Nat} (h : Own B w v l) (hb : But g w w') (hg : w.heap[g]? = some (.cells cs T fr)) (hT : T ≠ 5) : Own B w' v l := by
  refine World.ownsRow.kept (row := some g) h ⟨hb.os, hb.tape, hb.output, hb.size, fun k hk hne => hb.block k hk (fun e => hne (by rw [e]))⟩ ?_
  rcases h.2 with ⟨rfl, _⟩ | ⟨g', cap, cur, rfl, _, hgg, _⟩
  · exact .inl rfl
  · refine .inr ?_
    simp only [Value.ownBlock, ne_eq, Option.some.injEq]
    rintro rfl
    rw [hg] at hgg
    simp at hgg
    exact hT hgg.2.1

/-- What Decode answers. -/
def DecRes (B : Nat) (l : List UInt8) (w : World) (e : Ending) (w' : World) : Prop :=
  Below B w w' ∧ ((dec l = none ∧ e = .returned (.tuple #[.slice none 0 0, .int .i64 10])) ∨ ∃ b v, dec l = some b ∧ b.length ≤ l.length ∧ e = .returned (.tuple #[v, .int .i64 0]) ∧ Own B w' v b)

/-- The accumulator and what is decoded. -/
structure DecAt (B : Nat) (w wr : World) (v : Value) (s : List UInt8 × Nat × Nat) : Prop where
  own : Own B wr v s.1
  bts : Bts B s.2.1 s.2.2 wr
  bel : Below B w wr

theorem index_at (s : ByteArray) (j : Nat) (h : j < s.size) : ((s[j]'h).toNat : Int).toNat.toUInt8 = s.data.toList[j]'(by simpa using h) := by
  simp [Nat.toUInt8]
  rfl

set_option maxRecDepth 100000 in
set_option maxHeartbeats 2000000 in
theorem Decode_any (s : ByteArray) (w : World) (hl : s.size ≤ 1000000) :
    Calls Tryz.prog 152 #[.string s] w fun e w' => DecRes w.heap.size s.data.toList w e w' := by
  have hsz : s.data.toList.length = s.size := by simp
  have HSZ := Lib.hid hsz
  clear hsz
  go_enter Tryz.func152, Tryz.ntmps152
  go_wp2
  go_loopg [4, 12] (s.size) (fun k v i wr => ∃ (j : Nat) (ns : List Nat), j + k = s.size ∧ i = .int .i64 j ∧ Hid (nums (s.data.toList.take j) = some ns) ∧ DecAt w.heap.size w wr v (ns.foldl decStep ([], 0, 0)))
  case atStart =>
    exact ⟨0, [], by omega, rfl, Lib.hid rfl, Own.nil _ _, heap_alloc_new w _, (Below.refl _ _).alloc (Nat.le_refl _) _⟩
  case round =>
    obtain ⟨j, ns, hj, rfl, hns, hD⟩ := hrel
    by_cases hlt : j < s.size
    · have hlt2 : j < s.data.toList.length := by rw [HSZ.out]; exact hlt
      have hix := index_at s j hlt
      have HIX := Lib.hid hix
      have hnlt := (nums_some _ ns hns.out).1
      have hacc := dec_foldl_acc ns ([], 0, 0) hnlt ⟨by decide, by decide⟩
      have hflen := dec_foldl_len ns ([], 0, 0)
      have hnl := nums_len _ ns hns.out
      have HF := Lib.hid (And.intro hflen (And.intro hnl (And.intro hnlt hacc)))
      clear hix hnlt hflen hnl hacc
      go_wp2_with fail
      refine (Tryz.strings_IndexByte _ _ _).mono ?_
      rintro e w1 ⟨rfl, rfl⟩
      rw [HIX.out]
      obtain ⟨y, hy⟩ : ∃ y, Lib.indexByte (ByteArray.mk #[65, 66, 67, 68, 69, 70, 71, 72, 73, 74, 75, 76, 77, 78, 79, 80, 81, 82, 83, 84, 85, 86, 87, 88, 89, 90, 97, 98, 99, 100, 101, 102, 103, 104, 105, 106, 107, 108, 109, 110, 111, 112, 113, 114, 115, 116, 117, 118, 119, 120, 121, 122, 48, 49, 50, 51, 52, 53, 54, 55, 56, 57, 45, 95]).data.toList (s.data.toList[j]) = y := ⟨_, rfl⟩
      rw [hy]
      have hy2 : num64 s.data.toList[j] = if y < 0 then none else some y.toNat := by rw [← hy]; rfl
      have HY := Lib.hid hy2
      clear hy hy2
      by_cases hneg : y < 0
      · go_wp2_with fail
        go_ret2
        refine ⟨hD.bel, .inl ⟨dec_none _ j hlt2 ?_, rfl⟩⟩
        rw [HY.out, if_pos hneg]
      · obtain ⟨k, rfl⟩ : ∃ k : Nat, y = k := ⟨y.toNat, by omega⟩
        have hk : num64 s.data.toList[j] = some k := by rw [HY.out, if_neg hneg]; simp
        have hk64 := (num64_some _ k hk).1
        obtain ⟨o, r, c, hs⟩ : ∃ o r c, ns.foldl decStep ([], 0, 0) = (o, r, c) := ⟨_, _, _, rfl⟩
        have hns2 : nums (s.data.toList.take (j + 1)) = some (ns ++ [k]) := by
          rw [List.take_succ_eq_append_getElem hlt2]
          exact nums_snoc _ _ ns k hns.out hk
        have hfold : (ns ++ [k]).foldl decStep ([], 0, 0) = decStep (o, r, c) k := by simp [hs]
        obtain ⟨hflen, hnl, hnlt, hacc⟩ := HF.out
        rw [hs] at hD hacc hflen
        obtain ⟨hacc1, hbnd⟩ := decStep_acc (o, r, c) k hk64 hacc
        obtain ⟨hc8, hr2⟩ := hacc
        have hol : o.length ≤ j := by
          simp only [List.length_nil, List.length_take] at hflen hnl
          omega
        have HK := Lib.hid (And.intro hns2 hfold)
        clear hk HY HF hs hflen hnl hnlt hacc1 hns hns2 hfold
        simp only at hc8 hr2 hbnd
        have h28 : 2 ^ c ≤ 2 ^ 7 := Nat.pow_le_pow_right (by decide) (by omega)
        have hr128 : r < 128 := Nat.lt_of_lt_of_le hr2 h28
        clear h28
        go_wp2_with fail
        refine (push_call _ r c k 6 _ _ _ hD.bts rfl rfl (by omega) (by omega) (by omega) hk64).mono ?_
        rintro e w2 ⟨rfl, hb2, hk2⟩
        have hown2 := hD.own.but hk2 hD.bts (by decide)
        have hbel2 := but_below hD.bel hk2 (Nat.le_refl _) hD.bel.size
        clear hD
        obtain ⟨R, hR⟩ : ∃ R, r * 2 ^ 6 + k = R := ⟨_, rfl⟩
        rw [hR] at hb2 hbnd
        have HR := Lib.hid hR
        clear hR hr2
        by_cases h8 : c + 6 < 8
        · go_wp2_with fail
          refine (pop_none _ R (c + 6) 8 _ hb2 h8).mono ?_
          rintro e w3 ⟨rfl, rfl⟩
          go_wp2
          go_roundg (gk - 1)
          case measure => omega
          case rel =>
            refine ⟨j + 1, ns ++ [k], by omega, by go_num, Lib.hid HK.out.1, ?_⟩
            have e1 : (ns ++ [k]).foldl decStep ([], 0, 0) = (o, R, c + 6) := by rw [HK.out.2]; unfold decStep; rw [if_pos h8, HR.out]
            rw [e1]
            exact ⟨hown2, hb2, hbel2⟩
        · obtain ⟨q, hq⟩ : ∃ q, R / 2 ^ (c + 6 - 8) = q := ⟨_, rfl⟩
          have hq256 : q < 256 := by
            rw [← hq, Nat.div_lt_iff_lt_mul (Nat.two_pow_pos _)]
            calc R < 2 ^ (c + 6) := hbnd
              _ = 2 ^ (8 + (c + 6 - 8)) := by congr 1; omega
              _ = 256 * 2 ^ (c + 6 - 8) := by rw [Nat.pow_add]
          have HQ := Lib.hid hq
          clear hq
          go_wp2_with fail
          refine (pop_call _ R (c + 6) 8 q _ _ hb2 rfl (by omega) (by omega) hbnd (by omega) HQ.out).mono ?_
          rintro e w3 ⟨rfl, hb3, hk3⟩
          have hown3 := hown2.but hk3 hb2 (by decide)
          have hbel3 := but_below hbel2 hk3 (Nat.le_refl _) hbel2.size
          clear hown2 hbel2 hb2 hbnd
          have hqb : (byt q).toNat = q := toNat_of q hq256
          have HQB := Lib.hid hqb
          have hqI : (q : Int) < 256 := by omega
          clear hqb
          go_wp2_with (at_builtin; go_loud (refine wpList_append_rd rfl (.tmp 28) (.tmp 31) rfl w.heap.size _ o rfl (hown3.alloc _) (some ⟨w3.heap.size, 0, none⟩) [byt q] 1 1 rfl rfl (Rd.of_lit (T := 5) (fr := (0, 0)) [byt q] ?c0) ?c1 ?c2 ?_))
          case c0 => rw [heap_alloc_new]; simp [Lib.byteCells, HQB.out]
          case c1 => simp only [List.length_singleton]; omega
          case c2 => have := hbel3.size; simp; omega
          intro v4 w4 hown4 hg4
          have hb4 : Bts w.heap.size (R % 2 ^ (c + 6 - 8)) (c + 6 - 8) w4 := (hown3.alloc _).other hg4 (block_alloc hb3 _) (by decide)
          have hbel4 := below_grow (hbel3.alloc hbel3.size (.cells #[.int .u8 (q : Int)] 5)) (hown3.alloc _) hg4 (by have := hbel3.size; simp; omega)
          go_wp2
          go_roundg (gk - 1)
          case measure => omega
          case rel =>
            refine ⟨j + 1, ns ++ [k], by omega, by go_num, Lib.hid HK.out.1, ?_⟩
            have e1 : (ns ++ [k]).foldl decStep ([], 0, 0) = (o ++ [byt q], R % 2 ^ (c + 6 - 8), c + 6 - 8) := by rw [HK.out.2]; unfold decStep; rw [if_neg h8, HR.out, HQ.out]
            rw [e1]
            exact ⟨hown4, hb4, hbel4⟩
    · have hns2 : nums s.data.toList = some ns := by
        have := hns.out
        rwa [List.take_of_length_le (by rw [HSZ.out]; omega)] at this
      have hdec := dec_some _ ns hns2
      have hflen := dec_foldl_len ns ([], 0, 0)
      have hnl := nums_len _ ns hns2
      obtain ⟨o, r, c, hs⟩ : ∃ o r c, ns.foldl decStep ([], 0, 0) = (o, r, c) := ⟨_, _, _, rfl⟩
      rw [hs] at hD hdec hflen
      have hol : o.length ≤ s.data.toList.length := by simp only [List.length_nil] at hflen; omega
      have hacc := dec_foldl_acc ns ([], 0, 0) (nums_some _ ns hns2).1 ⟨by decide, by decide⟩
      rw [hs] at hacc
      have hc8 : c < 8 := hacc.1
      have h28 : 2 ^ c ≤ 2 ^ 7 := Nat.pow_le_pow_right (by decide) (by omega)
      have hr128 : r < 128 := Nat.lt_of_lt_of_le hacc.2 h28
      have HD := Lib.hid (And.intro hdec hol)
      clear hdec hol hflen hnl hs hns2 hns hacc h28
      have hown := hD.own
      have hbel := hD.bel
      have hc1 : wr.cell? ⟨w.heap.size, 1, none⟩ = some (.int .i64 c) := by rw [Lib.cell_of_heap hD.bts]; rfl
      have hc0 : wr.cell? ⟨w.heap.size, 0, none⟩ = some (.int .i64 r) := by rw [Lib.cell_of_heap hD.bts]; rfl
      clear hD
      by_cases h6 : 6 ≤ c
      · go_wp2_with fail
        go_ret2
        refine ⟨hbel, .inl ⟨?_, rfl⟩⟩
        rw [HD.out.1]
        unfold decEnd
        rw [if_pos (.inl h6)]
      · by_cases h0 : r = 0
        · subst h0
          have hz : ((0 : Int) != 0) = false := rfl
          go_wp2_with fail
          go_ret2
          refine ⟨hbel, .inr ⟨o, _, ?_, HD.out.2, rfl, hown⟩⟩
          rw [HD.out.1]
          unfold decEnd
          rw [if_neg (by simp; omega)]
        · have hz : ((r : Int) != 0) = true := by simp; omega
          go_wp2_with fail
          go_ret2
          refine ⟨hbel, .inl ⟨?_, rfl⟩⟩
          rw [HD.out.1]
          unfold decEnd
          rw [if_pos (.inr h0)]

end Go.Proofs.YtfdijcdpmgkdkaaGreatDoor
set_option linter.unusedVariables false
namespace Go.Proofs.YtfdijcdpmgkdkaaGreatDoor
open Go.RowKit

/-- What is thrown where a text is no token. -/
def brk (e : Int) : List PanicEntry := [{ v := .iface 150 (.agg #[.int .i64 e]), recovered := false }]
set_option maxRecDepth 100000 in
set_option maxHeartbeats 4000000 in
theorem must_yes (e : Int) (w : World) : Calls Tryz.prog 115 #[.bool true, .int .i64 e] w fun x w' => x = .returned (.tuple #[]) ∧ w' = w := by
  go_enter Tryz.func115, Tryz.ntmps115
  go_wp2_with fail
  go_end0
  exact ⟨rfl, rfl⟩
set_option maxRecDepth 100000 in
set_option maxHeartbeats 4000000 in
theorem must_no (e : Int) (w : World) : Calls Tryz.prog 115 #[.bool false, .int .i64 e] w fun x w' => x = .panicked (brk e) ∧ w' = w := by
  go_enter Tryz.func115, Tryz.ntmps115
  go_wp2_with fail
  exact ⟨rfl, rfl, rfl⟩
set_option maxRecDepth 100000 in
set_option maxHeartbeats 4000000 in
theorem jbytes_any (s : List UInt8) (w : World) (hl : s.length ≤ 1000000) :
    Calls Tryz.prog 117 #[.string ⟨s.toArray⟩] w fun e w' => Below w.heap.size w w' ∧ ((dec s = none ∧ e = .panicked (brk 10)) ∨ ∃ b a c, dec s = some b ∧ b.length ≤ s.length ∧ e = .returned (.slice a b.length c) ∧ Rd w' a b) := by
  have HD := Lib.hid (Decode_any ⟨s.toArray⟩ w (by simpa [ByteArray.size] using hl))
  clear hl
  go_enter Tryz.func117, Tryz.ntmps117
  go_wp2_with fail
  refine HD.out.mono ?_
  rintro e w1 ⟨hb1, ⟨h1, rfl⟩ | ⟨b, v, h1, h2, rfl, hown⟩⟩
  · have HB1 := Lib.hid hb1
    have H1 := Lib.hid h1
    clear hb1 h1 HD
    go_wp2_with fail
    refine (must_no 10 w1).mono ?_
    rintro e w2 ⟨rfl, rfl⟩
    unfold brk
    go_wp2_with fail
    exact ⟨rfl, HB1.out, .inl ⟨H1.out, rfl⟩⟩
  · obtain ⟨a, c, rfl, hrd2⟩ := hown.shape
    have HB1 := Lib.hid hb1
    have H1 := Lib.hid h1
    clear hb1 h1 HD hown
    go_wp2_with fail
    refine (must_yes 10 w1).mono ?_
    rintro e w2 ⟨rfl, rfl⟩
    go_wp2_with fail
    refine bodyPost_ret (results_tmp rfl _ _ _) rfl ?_
    exact ⟨HB1.out, .inr ⟨b, _, _, H1.out, h2, rfl, hrd2⟩⟩
set_option maxRecDepth 100000 in
set_option maxHeartbeats 8000000 in
theorem jmember_any (n : List UInt8) (v : JV) (ok : Nat → Prop) (cs : List Value) (w : World) (h : Rep ok w cs v) (hm : sizeJ v ≤ 1000000) :
    Calls Tryz.prog 118 #[.agg cs.toArray, .string ⟨n.toArray⟩] w fun e w' => Below w.heap.size w w' ∧ (((strM n v).2 && wordH (strM n v).1) = true ∧ e = .returned (.string ⟨(strM n v).1.toArray⟩) ∨ ((strM n v).2 && wordH (strM n v).1) = false ∧ e = .panicked (brk 10)) := by
  have HR := Lib.hid h.lt
  have HSM := Lib.hid (strM_eq n v)
  have hsl := strM_len n v
  have hml := mem_size v
  obtain ⟨a, c, a', c', cl, cm, rfl, -⟩ := h.parts
  unfold strV at *
  obtain ⟨k, y, t, l1, m1, hk, hy, ht, hl1, hm1⟩ : ∃ k y t l1 m1, v.kind = k ∧ v.yes = y ∧ (⟨v.text.toArray⟩ : ByteArray) = t ∧ v.list.length = l1 ∧ v.mem.length = m1 := ⟨_, _, _, _, _, rfl, rfl, rfl, rfl, rfl⟩
  rw [hk, hy, ht, hl1, hm1] at HR
  rw [hk, hy, ht, hl1, hm1]
  have HG : Hid (∀ w1, Below w.heap.size w w1 → _) := Lib.hid fun w1 (hb : Below w.heap.size w w1) => get_any _ [.int .i64 k, .bool y, .string t, .slice a l1 c, .slice a' m1 c'] v n w1 (HR.out.keep fun b hb' _ => hb.block b hb'.2) (by omega)
  clear h hk hy ht hl1 hm1
  generalize strM n v = SM at *
  generalize getJ n v = G at *
  go_enter Tryz.func118, Tryz.ntmps118
  go_upto_region 1 with (fail)
  generalize hw1 : w.alloc _ = w1
  have hb1 : Below w.heap.size w w1 := by rw [← hw1]; exact (Below.refl _ _).alloc (Nat.le_refl _) _
  have hx1 : w1.heap[w.heap.size]? = some (.cells #[.int .i64 k, .bool y, .string t, .slice a l1 c, .slice a' m1 c'] 26 (0, 0)) := by rw [← hw1]; exact heap_alloc_new _ _
  have HB1 := Lib.hid hb1
  obtain ⟨v0, v1, v2, v3, v4⟩ := five_at hx1 (Below.refl w1.heap.size w1) (Array.getElem?_eq_some_iff.1 hx1).1
  clear hw1 hb1 hx1
  go_wp2_with fail
  refine (HG.out w1 HB1.out).mono ?_
  rintro e w2 ⟨hb2, cs2, rfl, hrep⟩
  have HB2 := Lib.hid (HB1.out.trans (hb2.mono HB1.out.size))
  obtain ⟨b, d, b', d', _, _, rfl, -⟩ := hrep.parts
  unfold strV at *
  generalize G.getD .zero = X at *
  obtain ⟨k2, y2, t2, l2, m2, hk, hy, ht, hl1, hm1⟩ : ∃ k y t l1 m1, X.kind = k ∧ X.yes = y ∧ X.text = t ∧ X.list.length = l1 ∧ X.mem.length = m1 := ⟨_, _, _, _, _, rfl, rfl, rfl, rfl, rfl⟩
  rw [hk, ht] at HSM
  rw [hk, hy, ht, hl1, hm1]
  clear hk hy ht hl1 hm1 hrep hb2 v0 v1 v2 v3 v4 HG HR HB1
  generalize G.isSome = S at *
  have hsm := HSM.out
  rw [hsm] at hsl
  simp only at hsl
  have HWA := Lib.hid (fun w' => hword_any t2 w' (by omega))
  clear HSM
  subst hsm
  go_upto_region 2 with (fail)
  generalize hw3 : w2.alloc _ = w3
  have hb3 : Below w2.heap.size w2 w3 := by rw [← hw3]; exact (Below.refl _ _).alloc (Nat.le_refl _) _
  have hx3 : w3.heap[w2.heap.size]? = some (.cells #[.int .i64 k2, .bool y2, .string ⟨t2.toArray⟩, .slice b l2 d, .slice b' m2 d'] 26 (0, 0)) := by rw [← hw3]; exact heap_alloc_new _ _
  have HB3 := Lib.hid (HB2.out.trans (hb3.mono HB2.out.size))
  have HX3 := Lib.hid hx3
  have hs3 : w2.heap.size < w3.heap.size := (Array.getElem?_eq_some_iff.1 hx3).1
  obtain ⟨z0, z1, z2, z3, z4⟩ := five_at hx3 (Below.refl w3.heap.size w3) hs3
  clear hw3 hb3 hx3
  cases S with
  | false =>
    go_wp2_with fail
    refine (must_no 10 w3).mono ?_
    rintro e w4 ⟨rfl, rfl⟩
    unfold brk
    go_wp2_with fail
    exact ⟨rfl, HB3.out, by simp [brk]⟩
  | true =>
  by_cases h4 : k2 = 4
  case neg =>
    have q4 : (k2 == 4) = false := beq_false_of_ne h4
    go_wp2_with fail
    refine (must_no 10 w3).mono ?_
    rintro e w4 ⟨rfl, rfl⟩
    unfold brk
    go_wp2_with fail
    exact ⟨rfl, HB3.out, by simp [brk]⟩
  subst h4
  go_wp2_with fail
  refine (HWA.out w3).mono ?_
  rintro e w4 ⟨rfl, hb4⟩
  have HB4 := Lib.hid (HB3.out.trans (hb4.mono HB3.out.size))
  have hx4 := (hb4.block _ hs3).trans HX3.out
  have z2' : w4.cell? ⟨w2.heap.size, 2, none⟩ = some (.string ⟨t2.toArray⟩) := by rw [Lib.cell_of_heap hx4]; rfl
  clear hb4 hx4 z0 z1 z2 z3 z4 HWA
  cases hwd : wordH t2 with
  | false =>
    go_wp2_with fail
    refine (must_no 10 w4).mono ?_
    rintro e w5 ⟨rfl, rfl⟩
    unfold brk
    go_wp2_with fail
    exact ⟨rfl, HB4.out, by simp [brk]⟩
  | true =>
    go_wp2_with fail
    refine (must_yes 10 w4).mono ?_
    rintro e w5 ⟨rfl, rfl⟩
    go_wp2_with fail
    refine bodyPost_ret (results_tmp rfl _ _ _) rfl ?_
    exact ⟨HB4.out, by simp⟩
end Go.Proofs.YtfdijcdpmgkdkaaGreatDoor
set_option linter.unusedVariables false
namespace Go.Proofs.YtfdijcdpmgkdkaaGreatDoor
open Go.RowKit

theorem meth_eq (v : JV) : methB v = (((getJ algB v).isSome && ((getJ algB v).getD .zero).kind == 4) && (((getJ algB v).getD .zero).text == hsB) && (getJ crtB v).isNone) := by
  unfold methB
  rw [strM_eq]
set_option maxRecDepth 100000 in
set_option maxHeartbeats 8000000 in
theorem method_any (v : JV) (ok : Nat → Prop) (cs : List Value) (w : World) (h : Rep ok w cs v) (hm : sizeJ v ≤ 1000000) :
    Calls Tryz.prog 119 #[.agg cs.toArray] w fun e w' => Below w.heap.size w w' ∧ (methB v = true ∧ e = .returned (.tuple #[]) ∨ methB v = false ∧ e = .panicked (brk 42)) := by
  have HR := Lib.hid h.lt
  have HME := Lib.hid (meth_eq v)
  have hml := mem_size v
  obtain ⟨a, c, a', c', cl, cm, rfl, -⟩ := h.parts
  unfold strV at *
  obtain ⟨k, y, t, l1, m1, hk, hy, ht, hl1, hm1⟩ : ∃ k y t l1 m1, v.kind = k ∧ v.yes = y ∧ (⟨v.text.toArray⟩ : ByteArray) = t ∧ v.list.length = l1 ∧ v.mem.length = m1 := ⟨_, _, _, _, _, rfl, rfl, rfl, rfl, rfl⟩
  rw [hk, hy, ht, hl1, hm1] at HR
  rw [hk, hy, ht, hl1, hm1]
  have HG : Hid (∀ (n : List UInt8) w1, Below w.heap.size w w1 → _) := Lib.hid fun (n : List UInt8) w1 (hb : Below w.heap.size w w1) => get_any _ [.int .i64 k, .bool y, .string t, .slice a l1 c, .slice a' m1 c'] v n w1 (HR.out.keep fun b hb' _ => hb.block b hb'.2) (by omega)
  clear h hk hy ht hl1 hm1
  have HGA := Lib.hid (HG.out algB)
  have HGC := Lib.hid (HG.out crtB)
  generalize getJ algB v = GA at *
  generalize getJ crtB v = GC at *
  generalize methB v = MB at *
  unfold algB at HGA
  unfold crtB at HGC
  unfold hsB at HME
  go_enter Tryz.func119, Tryz.ntmps119
  go_upto_region 1 with (fail)
  generalize hw1 : w.alloc _ = w1
  have hb1 : Below w.heap.size w w1 := by rw [← hw1]; exact (Below.refl _ _).alloc (Nat.le_refl _) _
  have hx1 : w1.heap[w.heap.size]? = some (.cells #[.int .i64 k, .bool y, .string t, .slice a l1 c, .slice a' m1 c'] 26 (0, 0)) := by rw [← hw1]; exact heap_alloc_new _ _
  have HB1 := Lib.hid hb1
  have HX1 := Lib.hid hx1
  have hs1 : w.heap.size < w1.heap.size := (Array.getElem?_eq_some_iff.1 hx1).1
  obtain ⟨v0, v1, v2, v3, v4⟩ := five_at hx1 (Below.refl w1.heap.size w1) hs1
  clear hw1 hb1 hx1 HG
  go_wp2_with fail
  refine (HGA.out w1 HB1.out).mono ?_
  rintro e w2 ⟨hb2, cs2, rfl, hrep⟩
  have HB2 := Lib.hid (HB1.out.trans (hb2.mono HB1.out.size))
  have HX2 := Lib.hid ((hb2.block _ hs1).trans HX1.out)
  have hs2 : w.heap.size < w2.heap.size := Nat.lt_of_lt_of_le hs1 hb2.size
  obtain ⟨b, d, b', d', _, _, rfl, -⟩ := hrep.parts
  unfold strV at *
  generalize GA.getD .zero = X at *
  obtain ⟨k2, y2, t2, l2, m2, hk, hy, ht, hl1, hm1⟩ : ∃ k y t l1 m1, X.kind = k ∧ X.yes = y ∧ X.text = t ∧ X.list.length = l1 ∧ X.mem.length = m1 := ⟨_, _, _, _, _, rfl, rfl, rfl, rfl, rfl⟩
  rw [hk, ht] at HME
  rw [hk, hy, ht, hl1, hm1]
  clear hk hy ht hl1 hm1 hrep hb2 v0 v1 v2 v3 v4 HGA HX1
  generalize GA.isSome = S at *
  go_upto_region 2 with (fail)
  generalize hw3 : w2.alloc _ = w3
  have hb3 : Below w2.heap.size w2 w3 := by rw [← hw3]; exact (Below.refl _ _).alloc (Nat.le_refl _) _
  have hx3 : w3.heap[w2.heap.size]? = some (.cells #[.int .i64 k2, .bool y2, .string ⟨t2.toArray⟩, .slice b l2 d, .slice b' m2 d'] 26 (0, 0)) := by rw [← hw3]; exact heap_alloc_new _ _
  have HB3 := Lib.hid (HB2.out.trans (hb3.mono HB2.out.size))
  have HX3 := Lib.hid ((hb3.block _ hs2).trans HX2.out)
  have hs3 : w2.heap.size < w3.heap.size := (Array.getElem?_eq_some_iff.1 hx3).1
  obtain ⟨z0, z1, z2, z3, z4⟩ := five_at hx3 (Below.refl w3.heap.size w3) hs3
  clear hw3 hb3 hx3 HX2
  by_cases hal : (S && k2 == 4 && t2 == [72, 83, 50, 53, 54]) = true
  case neg =>
    have hm0 : MB = false := by
      rw [HME.out]
      cases h0 : (S && k2 == 4 && t2 == [72, 83, 50, 53, 54])
      · rfl
      · exact absurd h0 hal
    clear HME
    subst hm0
    cases S with
    | false =>
      go_wp2_with fail
      refine (must_no 42 w3).mono ?_
      rintro e w4 ⟨rfl, rfl⟩
      unfold brk
      go_wp2_with fail
      exact ⟨rfl, HB3.out, by simp [brk]⟩
    | true =>
    by_cases h4 : k2 = 4
    case neg =>
      have q4 : (k2 == 4) = false := beq_false_of_ne h4
      go_wp2_with fail
      refine (must_no 42 w3).mono ?_
      rintro e w4 ⟨rfl, rfl⟩
      unfold brk
      go_wp2_with fail
      exact ⟨rfl, HB3.out, by simp [brk]⟩
    subst h4
    have qt : (t2 == [72, 83, 50, 53, 54]) = false := by
      cases h0 : (t2 == [72, 83, 50, 53, 54])
      · rfl
      · rw [h0] at hal
        exact absurd rfl hal
    clear hal
    go_wp2_with fail
    refine (must_no 42 w3).mono ?_
    rintro e w4 ⟨rfl, rfl⟩
    unfold brk
    go_wp2_with fail
    exact ⟨rfl, HB3.out, by simp [brk]⟩
  have hm0 : MB = GC.isNone := by rw [HME.out, hal]; rfl
  simp only [Bool.and_eq_true, beq_iff_eq] at hal
  obtain ⟨⟨rfl, rfl⟩, rfl⟩ := hal
  clear HME
  subst hm0
  go_wp2_with fail
  refine (must_yes 42 w3).mono ?_
  rintro e w4 ⟨rfl, rfl⟩
  obtain ⟨v0, v1, v2, v3, v4⟩ := five_at HX3.out (Below.refl w4.heap.size w4) (by omega)
  clear z0 z1 z2 z3 z4
  go_wp2_with fail
  refine (HGC.out w4 HB3.out).mono ?_
  rintro e w5 ⟨hb5, cs5, rfl, hrep5⟩
  have HB5 := Lib.hid (HB3.out.trans (hb5.mono HB3.out.size))
  clear hb5 hrep5 v0 v1 v2 v3 v4 HGC
  cases GC with
  | none =>
    go_wp2_with fail
    refine (must_yes 42 w5).mono ?_
    rintro e w6 ⟨rfl, rfl⟩
    go_wp2_with fail
    go_end0
    exact ⟨HB5.out, by simp⟩
  | some x =>
    go_wp2_with fail
    refine (must_no 42 w5).mono ?_
    rintro e w6 ⟨rfl, rfl⟩
    unfold brk
    go_wp2_with fail
    exact ⟨rfl, HB5.out, by simp [brk]⟩
end Go.Proofs.YtfdijcdpmgkdkaaGreatDoor
set_option linter.unusedVariables false
namespace Go.Proofs.YtfdijcdpmgkdkaaGreatDoor

theorem utf_len (n : Nat) : (utfL n).length ≤ 4 := by
  unfold utfL
  split
  · simp
  split
  · simp
  split <;> simp
theorem esc_len4 {r r' x : List UInt8} (h : escR r = .ok x r') : x.length ≤ 4 := by
  cases r with
  | nil => simp [escR] at h
  | cons c r =>
    simp only [escR] at h
    split at h
    · simp only [PR.ok.injEq] at h
      rw [← h.1]
      simp
    · split at h
      · obtain ⟨n, q, h1, h2⟩ := bind_ok_iff h
        simp only [PR.ok.injEq] at h2
        rw [← h2.1]
        exact utf_len n
      · cases h
theorem textN_size : ∀ (k : Nat) (b : List UInt8) {r r' t : List UInt8}, textN k b r = .ok t r' → t.length + 4 * r'.length ≤ b.length + 4 * r.length
  | 0, b, r, r', t, h => by simp [textN] at h
  | k + 1, b, r, r', t, h => by
    cases r with
    | nil => simp [textN] at h
    | cons c r =>
      simp only [textN] at h
      split at h
      · simp only [PR.ok.injEq] at h
        rw [← h.2, ← h.1]
        simp only [List.length_cons]
        omega
      split at h
      · obtain ⟨x, q, h1, h2⟩ := bind_ok_iff h
        have e1 := esc_short h1
        have e3 := esc_len4 h1
        have e2 := textN_size k _ h2
        simp only [List.length_cons, List.length_append] at e2 ⊢
        omega
      split at h
      · cases h
      · have := textN_size k _ h
        simp only [List.length_cons, List.length_append, List.length_nil] at this ⊢
        omega
theorem text_size {r r' t : List UInt8} (h : textR r = .ok t r') : t.length + 4 * r'.length + 4 ≤ 4 * r.length := by
  obtain ⟨x, q, h1, h2⟩ := bind_ok_iff h
  have e1 := must_short h1
  have e2 := textN_size _ _ h2
  simp only [List.length_nil] at e2
  omega
theorem number_size {r r' t : List UInt8} (h : numberL r = .ok t r') : 1 + t.length + 4 * r'.length ≤ 4 * r.length := by
  obtain ⟨x, q, h1, h2⟩ := bind_ok_iff h
  simp only [PR.ok.injEq] at h2
  have e := num_short h1
  rw [← h2.2, ← h2.1, List.length_take]
  omega
theorem rowN_size {α : Type} (μ : α → Nat) (one : α → List UInt8 → PR α) (h1 : ∀ x y r r', one x r = .ok y r' → μ y + 4 * r'.length ≤ μ x + 4 * r.length) (e : UInt8) : ∀ (k : Nat) (x : α) {y : α} {r r' : List UInt8}, rowN one e k x r = .ok y r' → μ y + 4 * r'.length ≤ μ x + 4 * r.length
  | 0, x, y, r, r', h => by simp [rowN] at h
  | k + 1, x, y, r, r', h => by
    rw [rowN_succ] at h
    obtain ⟨x1, q, h2, h3⟩ := bind_ok_iff h
    have e1 := h1 _ _ _ _ h2
    have e2 := blank_short q
    split at h3
    · next eh =>
      have e3 := head_short eh
      simp only [PR.ok.injEq] at h3
      rw [← h3.2, ← h3.1]
      omega
    · obtain ⟨_, q2, h4, h5⟩ := bind_ok_iff h3
      have e3 := must_short h4
      have e4 := rowN_size μ one h1 e k _ h5
      have e5 := blank_short q2
      omega
theorem row_size {α : Type} (μ : α → Nat) (one : α → List UInt8 → PR α) (h1 : ∀ x y r r', one x r = .ok y r' → μ y + 4 * r'.length ≤ μ x + 4 * r.length) (e : UInt8) (x : α) {y : α} {r r' : List UInt8} (h : rowR one e x r = .ok y r') : μ y + 4 * r'.length ≤ μ x + 4 * r.length := by
  unfold rowR at h
  split at h
  · next eh =>
    have e3 := head_short eh
    simp only [PR.ok.injEq] at h
    rw [← h.2, ← h.1]
    omega
  · exact rowN_size μ one h1 e _ x h
theorem sizeL_app : ∀ (a b : List JV), sizeL (a ++ b) = sizeL a + sizeL b
  | [], b => by simp [sizeL]
  | v :: a, b => by
    have := sizeL_app a b
    simp only [List.cons_append, sizeL, this]
    omega
theorem sizeM_app : ∀ (a b : List (List UInt8 × JV)), sizeM (a ++ b) = sizeM a + sizeM b
  | [], b => by simp [sizeM]
  | (n, v) :: a, b => by
    have := sizeM_app a b
    simp only [List.cons_append, sizeM, this]
    omega
theorem arr_size {val : List UInt8 → PR JV} (hv : ∀ v r r', val r = .ok v r' → sizeJ v + 4 * r'.length ≤ 4 * r.length) (x y : List JV) (r r' : List UInt8) (h : arrR val x r = .ok y r') : sizeL y + 4 * r'.length ≤ sizeL x + 4 * r.length := by
  obtain ⟨v, q, h1, h2⟩ := bind_ok_iff h
  simp only [PR.ok.injEq] at h2
  have := hv _ _ _ h1
  rw [← h2.2, ← h2.1, sizeL_app]
  simp only [sizeL]
  omega
theorem memR_size {val : List UInt8 → PR JV} (hv : ∀ v r r', val r = .ok v r' → sizeJ v + 4 * r'.length ≤ 4 * r.length) (x y : List (List UInt8 × JV)) (r r' : List UInt8) (h : memR val x r = .ok y r') : sizeM y + 4 * r'.length ≤ sizeM x + 4 * r.length := by
  obtain ⟨n, q, h1, h2⟩ := bind_ok_iff h
  have e1 := text_size h1
  split at h2
  · cases h2
  · obtain ⟨_, q2, h3, h4⟩ := bind_ok_iff h2
    obtain ⟨v, q3, h5, h6⟩ := bind_ok_iff h4
    simp only [PR.ok.injEq] at h6
    have e2 := must_short h3
    have e3 := blank_short q
    have e4 := blank_short q2
    have e5 := hv _ _ _ h5
    rw [← h6.2, ← h6.1, sizeM_app]
    simp only [sizeM]
    omega
theorem leaf_size (k : Int) (y : Bool) : sizeJ (.mk k y [] [] []) = 1 := by simp [sizeJ, sizeL, sizeM]
theorem valR_size : ∀ (d : Nat) (v : JV) (r r' : List UInt8), valR d r = .ok v r' → sizeJ v + 4 * r'.length ≤ 4 * r.length := by
  intro d
  have hlit : ∀ (w : List UInt8) (x v : JV) (r r' : List UInt8), 1 ≤ w.length → sizeJ x = 1 → ((wordR w r).bind fun _ r => .ok x r) = .ok v r' → sizeJ v + 4 * r'.length ≤ 4 * r.length := by
    intro w x v r r' hw hx h
    obtain ⟨_, q, h1, h2⟩ := bind_ok_iff h
    simp only [PR.ok.injEq] at h2
    have := word_short _ h1
    rw [← h2.2, ← h2.1, hx]
    omega
  have hstr : ∀ (v : JV) (r r' : List UInt8), ((textR r).bind fun t r => .ok (jstr t) r) = .ok v r' → sizeJ v + 4 * r'.length ≤ 4 * r.length := by
    intro v r r' h
    obtain ⟨t, q, h1, h2⟩ := bind_ok_iff h
    simp only [PR.ok.injEq] at h2
    have := text_size h1
    rw [← h2.2, ← h2.1]
    simp only [jstr, sizeJ, sizeL, sizeM]
    omega
  have hnum : ∀ (v : JV) (r r' : List UInt8), ((numberL r).bind fun t r => .ok (jnum t) r) = .ok v r' → sizeJ v + 4 * r'.length ≤ 4 * r.length := by
    intro v r r' h
    obtain ⟨t, q, h1, h2⟩ := bind_ok_iff h
    simp only [PR.ok.injEq] at h2
    have := number_size h1
    rw [← h2.2, ← h2.1]
    simp only [jnum, sizeJ, sizeL, sizeM]
    omega
  induction d with
  | zero =>
    intro v r r' h
    unfold valR at h
    dsimp only at h
    repeat' split at h
    · exact hlit _ _ _ _ _ (by decide) (leaf_size _ _) h
    · exact hlit _ _ _ _ _ (by decide) (leaf_size _ _) h
    · exact hlit _ _ _ _ _ (by decide) (leaf_size _ _) h
    · exact hstr _ _ _ h
    all_goals first
      | cases h; done
      | exact hnum _ _ _ h
  | succ d ih =>
    intro v r r' h
    have hh : ∀ c, peekL r = c → c ≠ 0 → r.tail.length + 1 = r.length := by
      intro c hc h0
      cases r with
      | nil => simp [peekL] at hc; exact absurd hc.symm h0
      | cons a r => simp
    unfold valR at h
    dsimp only at h
    have hb := blank_short r.tail
    repeat' split at h
    · exact hlit _ _ _ _ _ (by decide) (leaf_size _ _) h
    · exact hlit _ _ _ _ _ (by decide) (leaf_size _ _) h
    · exact hlit _ _ _ _ _ (by decide) (leaf_size _ _) h
    · exact hstr _ _ _ h
    · next hp =>
      obtain ⟨l, q, h1, h2⟩ := bind_ok_iff h
      simp only [PR.ok.injEq] at h2
      have := row_size sizeL _ (arr_size ih) 93 _ h1
      have ht := hh 91 hp (by decide)
      rw [← h2.2, ← h2.1]
      simp only [jarr, sizeJ, sizeL, sizeM, List.length_nil] at this ⊢
      omega
    · next hp =>
      obtain ⟨l, q, h1, h2⟩ := bind_ok_iff h
      simp only [PR.ok.injEq] at h2
      have := row_size sizeM _ (memR_size ih) 125 _ h1
      have ht := hh 123 hp (by decide)
      rw [← h2.2, ← h2.1]
      simp only [jobj, sizeJ, sizeL, sizeM, List.length_nil] at this ⊢
      omega
    · exact hnum _ _ _ h
    · cases h
theorem parse_size (b : List UInt8) (d : Int) : sizeJ (parseL b d).1 ≤ 65537 := by
  unfold parseL
  split
  · exact Nat.le_trans (Nat.le_of_eq (leaf_size _ _)) (by decide)
  · rename_i hl
    split
    · exact Nat.le_trans (Nat.le_of_eq (leaf_size _ _)) (by decide)
    · split
      · exact Nat.le_trans (Nat.le_of_eq (leaf_size _ _)) (by decide)
      · cases hw : wholeR d.toNat b with
        | bad e => exact Nat.le_trans (Nat.le_of_eq (leaf_size _ _)) (by decide)
        | ok v r =>
          obtain ⟨x, q, h1, h2⟩ := bind_ok_iff hw
          split at h2
          · simp only [PR.ok.injEq] at h2
            have h3 := valR_size _ _ _ _ h1
            have h4 := blank_short b
            show sizeJ v ≤ _
            rw [← h2.1]
            omega
          · cases h2
end Go.Proofs.YtfdijcdpmgkdkaaGreatDoor
set_option linter.unusedVariables false
namespace Go.Proofs.YtfdijcdpmgkdkaaGreatDoor
open Go.RowKit

theorem ent_jbytes : ∀ args w, (callFunc 117 args).run Tryz.prog w = .ok (.enter 117 args) w := run_enters Tryz.func117 (by kernel_rfl) rfl
theorem ent_jmember : ∀ args w, (callFunc 118 args).run Tryz.prog w = .ok (.enter 118 args) w := run_enters Tryz.func118 (by kernel_rfl) rfl
/-- Bytes that are decoded. -/
def VDec (s : List UInt8) : Value → World → Prop := fun v w => ∃ b a c, dec s = some b ∧ b.length ≤ s.length ∧ v = .slice a b.length c ∧ Rd w a b
theorem VDec.stab (s : List UInt8) : Stab (VDec s) := fun v w1 w2 ⟨b, a, c, h1, h2, h3, h4⟩ hb => ⟨b, a, c, h1, h2, h3, h4.below hb⟩
def VStrB (x : ByteArray) (q : Bool) : Value → World → Prop := fun v _ => v = .string x ∧ q = true
theorem VStrB.stab (x : ByteArray) (q : Bool) : Stab (VStrB x q) := fun v w1 w2 h hb => h
def VNew2 (B : Nat) : Value → World → Prop := fun v w => ∃ g, v = .pointer (some ⟨g, 0, none⟩) ∧ B ≤ g ∧ w.heap[g]? = some (.cells #[.string ⟨#[]⟩, .string ⟨#[]⟩] 61 (0, 0))
theorem VNew2.stab (B : Nat) : Stab (VNew2 B) := fun v w1 w2 ⟨g, e, h0, h⟩ hb => ⟨g, e, h0, (hb.block g (Array.getElem?_eq_some_iff.1 h).1).trans h⟩
/-- A token's parts in memory. -/
def PartsAre (j : JP) (v : Value) (w : World) : Prop := ∃ pa pc ga gc, v = .agg #[.string ⟨j.kid.toArray⟩, .string ⟨j.typ.toArray⟩, .slice pa j.pay.length pc, .string ⟨j.sig.toArray⟩, .slice ga j.tag.length gc] ∧ Rd w pa j.pay ∧ Rd w ga j.tag
def ZP : Array Value := #[.string ⟨#[]⟩, .string ⟨#[]⟩, .slice none 0 0, .string ⟨#[]⟩, .slice none 0 0]
theorem parts_long {t : List UInt8} (h : 49152 < t.length) : partsJ t = (JP.no, 11) := by unfold partsJ; rw [if_pos h]
theorem parts_not3 {t : List UInt8} (h : ¬ 49152 < t.length) (h3 : (partsL 46 t).length ≠ 3) : partsJ t = (JP.no, 10) := by
  unfold partsJ
  rw [if_neg h]
  split
  · next e => rw [e] at h3; exact absurd rfl h3
  · rfl
theorem parts_bad {t A B C : List UInt8} (h : ¬ 49152 < t.length) (h3 : partsL 46 t = [A, B, C]) (hb : dec A = none ∨ dec B = none ∨ dec C = none) : partsJ t = (JP.no, 10) := by
  unfold partsJ
  rw [if_neg h, h3]
  simp only
  split
  · next e1 e2 e3 =>
    rcases hb with h | h | h
    · rw [h] at e1; cases e1
    · rw [h] at e2; cases e2
    · rw [h] at e3; cases e3
  · rfl
theorem parts_good {t A B C h p g : List UInt8} (hl : ¬ 49152 < t.length) (h3 : partsL 46 t = [A, B, C]) (hA : dec A = some h) (hB : dec B = some p) (hC : dec C = some g) :
    partsJ t = if (parseL h 4).2 ≠ 0 ∨ headB (parseL h 4).1 = false ∨ 16384 < p.length ∨ g.length ≠ 32 then (JP.no, 10)
      else if methB (parseL h 4).1 = false then (JP.no, 42)
      else (⟨(strM kidB (parseL h 4).1).1, (strM typB (parseL h 4).1).1, p, A ++ 46 :: B, g⟩, 0) := by
  unfold partsJ
  rw [if_neg hl, h3]
  simp only [hA, hB, hC]
theorem partsL_sum (c : UInt8) : ∀ (s : List UInt8), ∀ p ∈ partsL c s, p.length ≤ s.length
  | [], p, h => by simp [partsL] at h; simp [h]
  | b :: r, p, h => by
    have ih := partsL_sum c r
    rw [partsL_cons] at h
    split at h
    · rcases List.mem_cons.1 h with rfl | h
      · simp
      · have := ih p h
        simp only [List.length_cons]
        omega
    · split at h
      · next q l e =>
        rcases List.mem_cons.1 h with rfl | h
        · have := ih q (by rw [e]; exact List.mem_cons_self)
          simp only [List.length_cons]
          omega
        · have := ih p (by rw [e]; exact List.mem_cons_of_mem _ h)
          simp only [List.length_cons]
          omega
      · simp only [List.mem_cons, List.mem_nil_iff, or_false] at h
        subst h
        simp
theorem two_stored {w : World} {g : Nat} {x0 x1 : Value} {T : TypeId} {fr : Nat × Nat} (h : w.heap[g]? = some (.cells #[x0, x1] T fr)) (a b : Value) :
    ((w.setCell ⟨g, 0, none⟩ a).setCell ⟨g, 1, none⟩ b).heap[g]? = some (.cells #[a, b] T fr) := by
  simp [World.setCell, Array.getElem?_modify, h]
theorem five_stored {w : World} {g : Nat} {x0 x1 x2 x3 x4 : Value} {T : TypeId} {fr : Nat × Nat} (h : w.heap[g]? = some (.cells #[x0, x1, x2, x3, x4] T fr)) (a b c d e : Value) :
    (((((w.setCell ⟨g, 0, none⟩ a).setCell ⟨g, 1, none⟩ b).setCell ⟨g, 2, none⟩ c).setCell ⟨g, 3, none⟩ d).setCell ⟨g, 4, none⟩ e).heap[g]? = some (.cells #[a, b, c, d, e] T fr) := by
  simp [World.setCell, Array.getElem?_modify, h]
theorem below_five {B g : Nat} {w0 w : World} (h : Below B w0 w) (hg : B ≤ g) (a b c d e : Value) : Below B w0 (((((w.setCell ⟨g, 0, none⟩ a).setCell ⟨g, 1, none⟩ b).setCell ⟨g, 2, none⟩ c).setCell ⟨g, 3, none⟩ d).setCell ⟨g, 4, none⟩ e) :=
  ((((h.setCell hg _).setCell hg _).setCell hg _).setCell hg _).setCell hg _
/-- Bytes lie elsewhere than the parts. -/
theorem rd_five {w : World} {g : Nat} {T : TypeId} {fr : Nat × Nat} (h : w.heap[g]? = some (.cells ZP T fr)) {ad : Option Addr} {l : List UInt8} (hr : Rd w ad l) (a b c d e : Value) : Rd (((((w.setCell ⟨g, 0, none⟩ a).setCell ⟨g, 1, none⟩ b).setCell ⟨g, 2, none⟩ c).setCell ⟨g, 3, none⟩ d).setCell ⟨g, 4, none⟩ e) ad l := by
  rcases hr with rfl | ⟨q, off, rfl, hc⟩
  · exact .inl rfl
  · rcases Nat.eq_zero_or_pos l.length with h0 | h0
    · exact .inl (List.length_eq_zero_iff.1 h0)
    have hne : q ≠ g := by
      rintro rfl
      have := hc 0 h0
      rw [Lib.cell_of_heap h] at this
      match off, this with
      | 0, this => simp [ZP] at this
      | 1, this => simp [ZP] at this
      | 2, this => simp [ZP] at this
      | 3, this => simp [ZP] at this
      | 4, this => simp [ZP] at this
      | k + 5, this => simp [ZP] at this
    refine .inr ⟨q, off, rfl, fun i hi => ?_⟩
    rw [← hc i hi]
    have hh : (((((w.setCell ⟨g, 0, none⟩ a).setCell ⟨g, 1, none⟩ b).setCell ⟨g, 2, none⟩ c).setCell ⟨g, 3, none⟩ d).setCell ⟨g, 4, none⟩ e).heap[q]? = w.heap[q]? := by
      rw [Below.heap_setCell _ _ _ _ hne, Below.heap_setCell _ _ _ _ hne, Below.heap_setCell _ _ _ _ hne, Below.heap_setCell _ _ _ _ hne, Below.heap_setCell _ _ _ _ hne]
    simp only [World.cell?, hh]
theorem below_two {B g : Nat} {w0 w : World} (h : Below B w0 w) (hg : B ≤ g) (a b : Value) : Below B w0 ((w.setCell ⟨g, 0, none⟩ a).setCell ⟨g, 1, none⟩ b) :=
  (h.setCell hg _).setCell hg _
set_option maxRecDepth 100000 in
set_option maxHeartbeats 64000000 in
theorem jparts_any (t : List UInt8) (m : Int) (w : World) (hm : w.cell? ⟨3, 0, none⟩ = some (.int .i64 m)) (hl : t.length ≤ 1000000) :
    Calls Tryz.prog 78 #[.string ⟨t.toArray⟩] w fun e w' => Below w.heap.size w w' ∧ ((partsJ t).2 = 0 ∧ (∃ v, e = .returned v ∧ PartsAre (partsJ t).1 v w') ∨ (partsJ t).2 ≠ 0 ∧ e = .panicked (brk (partsJ t).2)) := by
  go_enter Tryz.func78, Tryz.ntmps78
  have hb1 : Below w.heap.size w (w.alloc (.cells ZP 66)) := (Below.refl _ _).alloc (Nat.le_refl _) _
  have hz1 := heap_alloc_new w (.cells ZP 66)
  have hm1 := (hb1.cell (World.block_lt_of_cell? _ _ hm)).trans hm
  have hw1 : w.alloc (.cells ZP 66) = w.alloc (.cells #[.string ⟨#[]⟩, .string ⟨#[]⟩, .slice none 0 0, .string ⟨#[]⟩, .slice none 0 0] 66) := rfl
  rw [hw1] at hb1 hz1 hm1
  go_upto_region 1 with (fail)
  generalize w.alloc _ = w1 at *
  have hs1 : w.heap.size < w1.heap.size := (Array.getElem?_eq_some_iff.1 hz1).1
  have HB1 := Lib.hid hb1
  have HZ1 := Lib.hid hz1
  have HM1 := Lib.hid hm1
  clear hb1 hz1 hm1 hm hw1
  by_cases hlong : 49152 < t.length
  · have hI : ¬ (t.length : Int) ≤ 49152 := by omega
    have hp := parts_long hlong
    have HP := Lib.hid hp
    clear hp
    go_wp2_with fail
    refine (must_no 11 w1).mono ?_
    rintro e w2 ⟨rfl, rfl⟩
    unfold brk
    go_wp2_with fail
    exact ⟨rfl, HB1.out, .inr ⟨by rw [HP.out]; decide, by rw [HP.out]; rfl⟩⟩
  have hI : (t.length : Int) ≤ 49152 := by omega
  go_wp2_with fail
  refine (must_yes 11 w1).mono ?_
  rintro e w1' ⟨rfl, rfl⟩
  have hspl := Tryz.strings_Split ⟨t.toArray⟩ ⟨#[46]⟩ m w1' (by simp only [ByteArray.size, List.size_toArray]; omega) HM1.out (by decide)
  rw [splitB_parts 46 t, countB_parts 46 t] at hspl
  have hpl := partsL_len 46 t
  have hsum := partsL_sum 46 t
  have HBD := Lib.hid (fun A B C => @parts_bad t A B C hlong)
  have HGD := Lib.hid (fun A B C h p g => @parts_good t A B C h p g hlong)
  have HN3 := Lib.hid (@parts_not3 t hlong)
  obtain ⟨P, hP⟩ : ∃ P, partsL 46 t = P := ⟨_, rfl⟩
  rw [hP] at hspl hpl hsum HBD HGD HN3
  have HSP := Lib.hid hspl
  clear hspl
  go_wp2_with fail
  refine HSP.out.mono ?_
  rintro e w2 ⟨rfl, hw2⟩
  have hbk2 : w2.heap[w1'.heap.size]? = some (.cells ((P.map fun p => (⟨p.toArray⟩ : ByteArray)).map Value.string).toArray 9 (0, 0)) := by rw [hw2]; exact heap_alloc_new _ _
  have hb2 : Below w1'.heap.size w1' w2 := by rw [hw2]; exact (Below.refl _ _).alloc (Nat.le_refl _) _
  have HB2 := Lib.hid (HB1.out.trans (hb2.mono HB1.out.size))
  have HZ2 := Lib.hid ((hb2.block _ hs1).trans HZ1.out)
  have hs2 : w1'.heap.size < w2.heap.size := (Array.getElem?_eq_some_iff.1 hbk2).1
  have HK2 := Lib.hid hbk2
  clear hw2 hb2 hbk2 HSP HZ1
  by_cases h3 : P.length = 3
  case neg =>
    have hp := HN3.out h3
    have HP := Lib.hid hp
    have h3I : ¬ (((P.length : Nat) : Int) = 3) := by omega
    have h3B : (((P.length : Nat) : Int) == 3) = false := beq_false_of_ne h3I
    clear hp HN3 HBD HGD
    go_wp2_with fail
    refine (must_no 10 w2).mono ?_
    rintro e w3 ⟨rfl, rfl⟩
    unfold brk
    go_wp2_with fail
    exact ⟨rfl, HB2.out, .inr ⟨by rw [HP.out]; decide, by rw [HP.out]; rfl⟩⟩
  match P, h3 with
  | [A, B, C], _ =>
  have HBAD : Hid (dec A = none ∨ dec B = none ∨ dec C = none → partsJ t = (JP.no, 10)) := Lib.hid (HBD.out A B C rfl)
  have HGOOD := Lib.hid (fun h p g => HGD.out A B C h p g rfl)
  have lA : A.length ≤ 1000000 := by have := hsum A (by simp); omega
  have lB : B.length ≤ 1000000 := by have := hsum B (by simp); omega
  have lC : C.length ≤ 1000000 := by have := hsum C (by simp); omega
  obtain ⟨rb, hrbe⟩ : ∃ rb, w1'.heap.size = rb := ⟨_, rfl⟩
  have HA : Hid (w2.cell? ⟨rb, 0, none⟩ = some (.string ⟨A.toArray⟩)) := Lib.hid (by rw [← hrbe, Lib.cell_of_heap HK2.out]; rfl)
  have HBb : Hid (w2.cell? ⟨rb, 1, none⟩ = some (.string ⟨B.toArray⟩)) := Lib.hid (by rw [← hrbe, Lib.cell_of_heap HK2.out]; rfl)
  have HC : Hid (w2.cell? ⟨rb, 2, none⟩ = some (.string ⟨C.toArray⟩)) := Lib.hid (by rw [← hrbe, Lib.cell_of_heap HK2.out]; rfl)
  have hrb : rb < w2.heap.size := by omega
  have hsz2 : w.heap.size ≤ w2.heap.size := by omega
  clear HN3 HBD HGD HK2 hP hpl hsum hlong
  rw [hrbe]
  go_wp2_with fail
  refine (must_yes 10 w2).mono ?_
  rintro e w2' ⟨rfl, rfl⟩
  have HBW := HB2
  go_upto_region 4 with (fail)
  refine wp_region_grow (by kernel_rfl) (by kernel_rfl) [21, 22, 23, 24, 25, 26, 27, 28, 29, 30, 31, 32, 4, 5, 6] rfl (by decide) (by kernel_rfl) (fun iX => [VIs (.slice (some ⟨rb, 0, none⟩) 3 3), VIs (.pointer (some ⟨rb, 0, none⟩)), VIs (.string ⟨A.toArray⟩), VDec A, VIs (.slice (some ⟨rb, 0, none⟩) 3 3), VIs (.pointer (some ⟨rb, 1, none⟩)), VIs (.string ⟨B.toArray⟩), VDec B, VIs (.slice (some ⟨rb, 0, none⟩) 3 3), VIs (.pointer (some ⟨rb, 2, none⟩)), VIs (.string ⟨C.toArray⟩), VDec C, VDec A, VDec B, VDec C].getD iX fun _ _ => True) (stab_list _ ?_) ?_ ?_
  · skip
    intro V hV
    simp only [List.mem_cons, List.mem_nil_iff, or_false] at hV
    rcases hV with rfl | rfl | rfl | rfl | rfl | rfl | rfl | rfl | rfl | rfl | rfl | rfl | rfl | rfl | rfl <;> first | exact VIs.stab _ | exact VBytes.stab _ | exact VStr.stab _ | exact VParts.stab _ | exact VRow.stab _ | exact VRow8.stab _ _ | exact VDec.stab _
  · intro iX o ho a' w' hf hb hd
    rcases iX with _ | _ | _ | _ | _ | _ | _ | _ | _ | _ | _ | _ | _ | _ | _ | iX
    · cases ho
      refine grow_op rfl rfl rfl (grow_move rfl ?_)
      exact (hf.same 3 (by decide)).trans rfl
    · cases ho
      refine grow_op rfl rfl rfl ?_
      have e0 : a'.tmps.getD 21 undef = .slice (some ⟨rb, 0, none⟩) 3 3 := hd 0 (by kernel_rfl)
      refine grow_value (v := .pointer (some ⟨rb, 0, none⟩)) (w' := w') ?_ rfl (Below.refl _ _)
      simp only [execOp, Act.eval, e0]
      go_simp
    · cases ho
      refine grow_op rfl rfl rfl ?_
      have e1 : a'.tmps.getD 22 undef = .pointer (some ⟨rb, 0, none⟩) := hd 1 (by kernel_rfl)
      have cA := (hb.cell hrb).trans HA.out
      refine grow_value (v := .string ⟨A.toArray⟩) (w' := w') ?_ rfl (Below.refl _ _)
      simp only [execOp, Act.eval, e1]
      go_simp
    · cases ho
      refine grow_op rfl rfl rfl ?_
      have e : a'.tmps.getD 23 undef = .string ⟨A.toArray⟩ := hd 2 (by kernel_rfl)
      refine op_call ent_jbytes rfl (args := #[.string ⟨A.toArray⟩]) (by simp only [List.map_toArray, List.map_cons, List.map_nil, Act.eval, e]) ?_
      refine (jbytes_any A w' lA).mono ?_
      rintro e w'' ⟨hb2, hor⟩
      refine hor.elim ?_ ?_
      · rintro ⟨hd0, rfl⟩; exact .inr ⟨_, rfl, hf.defers.trans rfl, HBW.out.trans ((hb.trans (hb2.mono hb.size)).mono hsz2), .inr ⟨(by rw [HBAD.out (.inl hd0)]; decide), by rw [HBAD.out (.inl hd0)]⟩⟩
      · rintro ⟨b1, a1, c1, hd0, hl0, rfl, hrd⟩; exact .inl ⟨_, rfl, _, rfl, ⟨b1, a1, c1, hd0, hl0, rfl, hrd⟩, hb2⟩
    · cases ho
      refine grow_op rfl rfl rfl (grow_move rfl ?_)
      exact (hf.same 3 (by decide)).trans rfl
    · cases ho
      refine grow_op rfl rfl rfl ?_
      have e4 : a'.tmps.getD 25 undef = .slice (some ⟨rb, 0, none⟩) 3 3 := hd 4 (by kernel_rfl)
      refine grow_value (v := .pointer (some ⟨rb, 1, none⟩)) (w' := w') ?_ rfl (Below.refl _ _)
      simp only [execOp, Act.eval, e4]
      go_simp
    · cases ho
      refine grow_op rfl rfl rfl ?_
      have e5 : a'.tmps.getD 26 undef = .pointer (some ⟨rb, 1, none⟩) := hd 5 (by kernel_rfl)
      have cB := (hb.cell hrb).trans HBb.out
      refine grow_value (v := .string ⟨B.toArray⟩) (w' := w') ?_ rfl (Below.refl _ _)
      simp only [execOp, Act.eval, e5]
      go_simp
    · cases ho
      refine grow_op rfl rfl rfl ?_
      have e : a'.tmps.getD 27 undef = .string ⟨B.toArray⟩ := hd 6 (by kernel_rfl)
      refine op_call ent_jbytes rfl (args := #[.string ⟨B.toArray⟩]) (by simp only [List.map_toArray, List.map_cons, List.map_nil, Act.eval, e]) ?_
      refine (jbytes_any B w' lB).mono ?_
      rintro e w'' ⟨hb2, hor⟩
      refine hor.elim ?_ ?_
      · rintro ⟨hd0, rfl⟩; exact .inr ⟨_, rfl, hf.defers.trans rfl, HBW.out.trans ((hb.trans (hb2.mono hb.size)).mono hsz2), .inr ⟨(by rw [HBAD.out (.inr (.inl hd0))]; decide), by rw [HBAD.out (.inr (.inl hd0))]⟩⟩
      · rintro ⟨b1, a1, c1, hd0, hl0, rfl, hrd⟩; exact .inl ⟨_, rfl, _, rfl, ⟨b1, a1, c1, hd0, hl0, rfl, hrd⟩, hb2⟩
    · cases ho
      refine grow_op rfl rfl rfl (grow_move rfl ?_)
      exact (hf.same 3 (by decide)).trans rfl
    · cases ho
      refine grow_op rfl rfl rfl ?_
      have e8 : a'.tmps.getD 29 undef = .slice (some ⟨rb, 0, none⟩) 3 3 := hd 8 (by kernel_rfl)
      refine grow_value (v := .pointer (some ⟨rb, 2, none⟩)) (w' := w') ?_ rfl (Below.refl _ _)
      simp only [execOp, Act.eval, e8]
      go_simp
    · cases ho
      refine grow_op rfl rfl rfl ?_
      have e9 : a'.tmps.getD 30 undef = .pointer (some ⟨rb, 2, none⟩) := hd 9 (by kernel_rfl)
      have cC := (hb.cell hrb).trans HC.out
      refine grow_value (v := .string ⟨C.toArray⟩) (w' := w') ?_ rfl (Below.refl _ _)
      simp only [execOp, Act.eval, e9]
      go_simp
    · cases ho
      refine grow_op rfl rfl rfl ?_
      have e : a'.tmps.getD 31 undef = .string ⟨C.toArray⟩ := hd 10 (by kernel_rfl)
      refine op_call ent_jbytes rfl (args := #[.string ⟨C.toArray⟩]) (by simp only [List.map_toArray, List.map_cons, List.map_nil, Act.eval, e]) ?_
      refine (jbytes_any C w' lC).mono ?_
      rintro e w'' ⟨hb2, hor⟩
      refine hor.elim ?_ ?_
      · rintro ⟨hd0, rfl⟩; exact .inr ⟨_, rfl, hf.defers.trans rfl, HBW.out.trans ((hb.trans (hb2.mono hb.size)).mono hsz2), .inr ⟨(by rw [HBAD.out (.inr (.inr hd0))]; decide), by rw [HBAD.out (.inr (.inr hd0))]⟩⟩
      · rintro ⟨b1, a1, c1, hd0, hl0, rfl, hrd⟩; exact .inl ⟨_, rfl, _, rfl, ⟨b1, a1, c1, hd0, hl0, rfl, hrd⟩, hb2⟩
    · cases ho
      refine grow_op rfl rfl rfl (grow_assign rfl ?_)
      exact hd 3 (by kernel_rfl)
    · cases ho
      refine grow_op rfl rfl rfl (grow_assign rfl ?_)
      exact hd 7 (by kernel_rfl)
    · cases ho
      refine grow_op rfl rfl rfl (grow_assign rfl ?_)
      exact hd 11 (by kernel_rfl)
    · simp at ho
  · intro a' w' hf hb hd
    obtain ⟨y24, x24, z24, -, -, hv24, -⟩ := hd 3 (by decide)
    obtain ⟨y28, x28, z28, -, -, hv28, -⟩ := hd 7 (by decide)
    obtain ⟨y32, x32, z32, -, -, hv32, -⟩ := hd 11 (by decide)
    obtain ⟨hh, hA, hC, hdc4, hlc4, hv4, hrd4⟩ := hd 12 (by decide)
    obtain ⟨pp, pA, pC, hdc5, hlc5, hv5, hrd5⟩ := hd 13 (by decide)
    obtain ⟨gg, gA, gC, hdc6, hlc6, hv6, hrd6⟩ := hd 14 (by decide)
    obtain rfl := hf.eq [Value.slice (some ⟨rb, 0, none⟩) 3 3, Value.pointer (some ⟨rb, 0, none⟩), Value.string ⟨A.toArray⟩, Value.slice x24 y24.length z24, Value.slice (some ⟨rb, 0, none⟩) 3 3, Value.pointer (some ⟨rb, 1, none⟩), Value.string ⟨B.toArray⟩, Value.slice x28 y28.length z28, Value.slice (some ⟨rb, 0, none⟩) 3 3, Value.pointer (some ⟨rb, 2, none⟩), Value.string ⟨C.toArray⟩, Value.slice x32 y32.length z32, Value.slice hA hh.length hC, Value.slice pA pp.length pC, Value.slice gA gg.length gC] (fun j hj => match j, hj with
      | 0, _ => hd 0 (by decide)
      | 1, _ => hd 1 (by decide)
      | 2, _ => hd 2 (by decide)
      | 3, _ => hv24
      | 4, _ => hd 4 (by decide)
      | 5, _ => hd 5 (by decide)
      | 6, _ => hd 6 (by decide)
      | 7, _ => hv28
      | 8, _ => hd 8 (by decide)
      | 9, _ => hd 9 (by decide)
      | 10, _ => hd 10 (by decide)
      | 11, _ => hv32
      | 12, _ => hv4
      | 13, _ => hv5
      | 14, _ => hv6
      | k + 15, h => absurd h (by simp)) (by decide) (by kernel_rfl) rfl
    simp only [List.zip_cons_cons, List.zip_nil_right, List.foldl_cons, List.foldl_nil, Act.put, List.setIfInBounds_toArray, List.set_cons_succ, List.set_cons_zero]
    obtain ⟨w3, rfl⟩ : ∃ x : World, x = w' := ⟨_, rfl⟩
    have HB3 := Lib.hid (HBW.out.trans (hb.mono hsz2))
    have HZ3 := Lib.hid ((hb.block _ (by omega)).trans HZ2.out)
    have HAB3 : Hid (∀ w' : World, Below w3.heap.size w3 w' → w'.cell? ⟨rb, 0, none⟩ = some (.string ⟨A.toArray⟩) ∧ w'.cell? ⟨rb, 1, none⟩ = some (.string ⟨B.toArray⟩)) := Lib.hid fun w' hb' => by
      have h1 := (hb.cell hrb).trans HA.out
      have h2 := (hb.cell hrb).trans HBb.out
      exact ⟨(hb'.cell (World.block_lt_of_cell? _ _ h1)).trans h1, (hb'.cell (World.block_lt_of_cell? _ _ h2)).trans h2⟩
    have hpj := HGOOD.out hh pp gg hdc4 hdc5 hdc6
    have hs3 : w2'.heap.size ≤ w3.heap.size := hb.size
    have HPJ := Lib.hid hpj
    have HRH := Lib.hid hrd4
    have HRP := Lib.hid hrd5
    have HRG := Lib.hid hrd6
    have lpp : pp.length ≤ 1000000 := by omega
    have lhh : hh.length ≤ 1000000 := by omega
    have lgg : gg.length ≤ 1000000 := by omega
    clear hd hf hb hdc4 hdc5 hdc6 hlc4 hlc5 hlc6 hv4 hv5 hv6 hv24 hv28 hv32 hrd4 hrd5 hrd6 hpj HBAD HGOOD HBW HB2 HZ2 HA HBb HC
    have hps := parse_size hh 4
    have HPA := Lib.hid (fun w' hr => parse_any hh hA hC 4 w' hr lhh)
    obtain ⟨V, E, hVE⟩ : ∃ V E, parseL hh 4 = (V, E) := ⟨_, _, rfl⟩
    rw [hVE] at hps HPA HPJ
    simp only at hps HPA HPJ
    clear hVE
    go_wp2_with fail
    refine (HPA.out w3 HRH.out).mono ?_
    rintro e w4 ⟨hb4, cs4, at4, rfl, hrep⟩
    have HB4 := Lib.hid (HB3.out.trans (hb4.mono HB3.out.size))
    have HZ4 := Lib.hid ((hb4.block _ (by omega)).trans HZ3.out)
    have HRP4 := Lib.hid (HRP.out.below hb4)
    have HRG4 := Lib.hid (HRG.out.below hb4)
    have HAB4 : Hid (∀ w' : World, Below w4.heap.size w4 w' → w'.cell? ⟨rb, 0, none⟩ = some (.string ⟨A.toArray⟩) ∧ w'.cell? ⟨rb, 1, none⟩ = some (.string ⟨B.toArray⟩)) := Lib.hid fun w' hb' => HAB3.out w' (hb4.trans (hb'.mono hb4.size))
    have hs4 : w2'.heap.size ≤ w4.heap.size := Nat.le_trans hs3 hb4.size
    obtain ⟨va, vc, ma, mc, _, _, rfl, -⟩ := hrep.parts
    unfold strV at *
    obtain ⟨k, y, tt, l1, m1, hk, hy, ht, hl1, hm1⟩ : ∃ k y t l1 m1, V.kind = k ∧ V.yes = y ∧ (⟨V.text.toArray⟩ : ByteArray) = t ∧ V.list.length = l1 ∧ V.mem.length = m1 := ⟨_, _, _, _, _, rfl, rfl, rfl, rfl, rfl⟩
    rw [hk, hy, ht, hl1, hm1] at hrep
    rw [hk, hy, ht, hl1, hm1]
    have HRV4 := Lib.hid hrep
    have HKK := Lib.hid hk
    clear hb4 hrep hk hy ht hl1 hm1 HPA HRH HRP HRG HAB3 HZ3 HB3
    go_upto_region 6 with (fail)
    generalize hw5 : w4.alloc _ = w5
    obtain ⟨vb, hvbe⟩ : ∃ vb, w4.heap.size = vb := ⟨_, rfl⟩
    have hb5 : Below w4.heap.size w4 w5 := by rw [← hw5]; exact (Below.refl _ _).alloc (Nat.le_refl _) _
    have hx5 : w5.heap[vb]? = some (.cells #[.int .i64 k, .bool y, .string tt, .slice va l1 vc, .slice ma m1 mc] 26 (0, 0)) := by rw [← hw5, ← hvbe]; exact heap_alloc_new _ _
    have HB5 := Lib.hid (HB4.out.trans (hb5.mono HB4.out.size))
    have HZ5 := Lib.hid ((hb5.block _ (by omega)).trans HZ4.out)
    have HRP5 := Lib.hid (HRP4.out.below hb5)
    have HRG5 := Lib.hid (HRG4.out.below hb5)
    have HAB5 : Hid (∀ w' : World, Below w5.heap.size w5 w' → w'.cell? ⟨rb, 0, none⟩ = some (.string ⟨A.toArray⟩) ∧ w'.cell? ⟨rb, 1, none⟩ = some (.string ⟨B.toArray⟩)) := Lib.hid fun w' hb' => HAB4.out w' (hb5.trans (hb'.mono hb5.size))
    have HRV5 := Lib.hid (HRV4.out.under hb5)
    have HVB := Lib.hid hx5
    have hvb : vb < w5.heap.size := (Array.getElem?_eq_some_iff.1 hx5).1
    have hs5 : w2'.heap.size ≤ w5.heap.size := Nat.le_trans hs4 hb5.size
    have hsw5 : w4.heap.size ≤ w5.heap.size := hb5.size
    obtain ⟨x0, x1, x2, x3, x4⟩ := five_at hx5 (Below.refl w5.heap.size w5) hvb
    rw [hvbe] at hsw5 ⊢
    clear hw5 hb5 hx5 HB4 HZ4 HRP4 HRG4 HAB4 HRV4
    -- what is refused: with one number
    by_cases hE : E = 0
    case neg =>
      have hp : partsJ t = (JP.no, 10) := by rw [HPJ.out, if_pos (.inl hE)]
      have HP := Lib.hid hp
      have hEB : (E == 0) = false := beq_false_of_ne hE
      clear hp HPJ hE
      go_wp2_with fail
      refine (must_no 10 w5).mono ?_
      rintro e w6 ⟨rfl, rfl⟩
      unfold brk
      go_wp2_with fail
      exact ⟨rfl, HB5.out, .inr ⟨by rw [HP.out]; decide, by rw [HP.out]; rfl⟩⟩
    subst hE
    by_cases hk6 : k = 6
    case neg =>
      have hp : partsJ t = (JP.no, 10) := by
        have hh0 : headB V = false := by
          unfold headB
          rw [HKK.out]
          have : (k == 6) = false := beq_false_of_ne hk6
          rw [this]
          rfl
        rw [HPJ.out, if_pos (.inr (.inl hh0))]
      have HP := Lib.hid hp
      have hkB : (k == 6) = false := beq_false_of_ne hk6
      clear hp HPJ hk6
      go_wp2_with fail
      refine (must_no 10 w5).mono ?_
      rintro e w6 ⟨rfl, rfl⟩
      unfold brk
      go_wp2_with fail
      exact ⟨rfl, HB5.out, .inr ⟨by rw [HP.out]; decide, by rw [HP.out]; rfl⟩⟩
    subst hk6
    have hbad : ((strM kidB V).2 && wordH (strM kidB V).1) = false ∨ ((strM typB V).2 && wordH (strM typB V).1) = false → partsJ t = (JP.no, 10) := by
      intro h
      have hh0 : headB V = false := by
        unfold headB
        rcases h with h | h
        · rw [h]; simp
        · rw [h]; simp
      rw [HPJ.out, if_pos (.inr (.inl hh0))]
    have HBAD := Lib.hid hbad
    have hgood : ((strM kidB V).2 && wordH (strM kidB V).1) = true → ((strM typB V).2 && wordH (strM typB V).1) = true → headB V = true := by
      intro h1 h2
      unfold headB
      rw [h1, h2, HKK.out]
      decide
    have HGOOD := Lib.hid hgood
    clear hbad hgood HKK
    go_wp2_with fail
    refine (must_yes 10 w5).mono ?_
    rintro e w5' ⟨rfl, rfl⟩
    have HMK : Hid (∀ w' : World, Below w5'.heap.size w5' w' → _) := Lib.hid fun (w' : World) (hb : Below w5'.heap.size w5' w') => jmember_any kidB V _ [.int .i64 6, .bool y, .string tt, .slice va l1 vc, .slice ma m1 mc] w' (HRV5.out.under hb) (by omega)
    have HMT : Hid (∀ w' : World, Below w5'.heap.size w5' w' → _) := Lib.hid fun (w' : World) (hb : Below w5'.heap.size w5' w') => jmember_any typB V _ [.int .i64 6, .bool y, .string tt, .slice va l1 vc, .slice ma m1 mc] w' (HRV5.out.under hb) (by omega)
    have hsz2 : w.heap.size ≤ w5'.heap.size := by omega
    have HBW := HB5
    clear x0 x1 x2 x3 x4
    go_upto_region 7 with (fail)
    refine wp_region_grow_tail 6 (by kernel_rfl) (by kernel_rfl) (by decide) (by kernel_rfl) [47, 48, 49, 50, 51, 10] rfl (by decide) (by kernel_rfl) (fun iX => [VIs (.agg #[.int .i64 6, .bool y, .string tt, .slice va l1 vc, .slice ma m1 mc]), VStrB ⟨(strM kidB V).1.toArray⟩ ((strM kidB V).2 && wordH (strM kidB V).1), VIs (.agg #[.int .i64 6, .bool y, .string tt, .slice va l1 vc, .slice ma m1 mc]), VStrB ⟨(strM typB V).1.toArray⟩ ((strM typB V).2 && wordH (strM typB V).1), VIs (.agg #[.string ⟨(strM kidB V).1.toArray⟩, .string ⟨(strM typB V).1.toArray⟩]), VNew2 w5'.heap.size].getD iX fun _ _ => True) (stab_list _ ?_) ?_ ?_
    · skip
      intro V hV
      simp only [List.mem_cons, List.mem_nil_iff, or_false] at hV
      rcases hV with rfl | rfl | rfl | rfl | rfl | rfl <;> first | exact VIs.stab _ | exact VBytes.stab _ | exact VStr.stab _ | exact VParts.stab _ | exact VRow.stab _ | exact VRow8.stab _ _ | exact VStrB.stab _ _ | exact VNew2.stab _
    · intro iX o ho a' w' hf hb hd
      rcases iX with _ | _ | _ | _ | _ | _ | iX
      · cases ho
        refine grow_op rfl rfl rfl ?_
        have f7 : a'.tmps.getD 7 undef = .pointer (some ⟨vb, 0, none⟩) := (hf.same 7 (by decide)).trans rfl
        obtain ⟨x0, x1, x2, x3, x4⟩ := five_at HVB.out hb hvb
        refine grow_value (v := .agg #[.int .i64 6, .bool y, .string tt, .slice va l1 vc, .slice ma m1 mc]) (w' := w') ?_ rfl (Below.refl _ _)
        simp only [execOp, Act.eval]
        go_simp
      · cases ho
        refine grow_op rfl rfl rfl ?_
        have e : a'.tmps.getD 47 undef = .agg #[.int .i64 6, .bool y, .string tt, .slice va l1 vc, .slice ma m1 mc] := hd 0 (by kernel_rfl)
        refine op_call ent_jmember rfl (args := #[.agg #[.int .i64 6, .bool y, .string tt, .slice va l1 vc, .slice ma m1 mc], .string ⟨#[107, 105, 100]⟩]) (by simp only [List.map_toArray, List.map_cons, List.map_nil, Act.eval, e]) ?_
        refine (HMK.out w' hb).mono ?_
        rintro e w'' ⟨hb2, hor⟩
        refine hor.elim ?_ ?_
        · rintro ⟨hd0, rfl⟩; exact .inl ⟨_, rfl, _, rfl, ⟨rfl, hd0⟩, hb2⟩
        · rintro ⟨hd0, rfl⟩; exact .inr ⟨_, rfl, hf.defers.trans rfl, HBW.out.trans ((hb.trans (hb2.mono hb.size)).mono hsz2), .inr ⟨(by rw [HBAD.out (.inl hd0)]; decide), by rw [HBAD.out (.inl hd0)]⟩⟩
      · cases ho
        refine grow_op rfl rfl rfl ?_
        have f7 : a'.tmps.getD 7 undef = .pointer (some ⟨vb, 0, none⟩) := (hf.same 7 (by decide)).trans rfl
        obtain ⟨x0, x1, x2, x3, x4⟩ := five_at HVB.out hb hvb
        refine grow_value (v := .agg #[.int .i64 6, .bool y, .string tt, .slice va l1 vc, .slice ma m1 mc]) (w' := w') ?_ rfl (Below.refl _ _)
        simp only [execOp, Act.eval]
        go_simp
      · cases ho
        refine grow_op rfl rfl rfl ?_
        have e : a'.tmps.getD 49 undef = .agg #[.int .i64 6, .bool y, .string tt, .slice va l1 vc, .slice ma m1 mc] := hd 2 (by kernel_rfl)
        refine op_call ent_jmember rfl (args := #[.agg #[.int .i64 6, .bool y, .string tt, .slice va l1 vc, .slice ma m1 mc], .string ⟨#[116, 121, 112]⟩]) (by simp only [List.map_toArray, List.map_cons, List.map_nil, Act.eval, e]) ?_
        refine (HMT.out w' hb).mono ?_
        rintro e w'' ⟨hb2, hor⟩
        refine hor.elim ?_ ?_
        · rintro ⟨hd0, rfl⟩; exact .inl ⟨_, rfl, _, rfl, ⟨rfl, hd0⟩, hb2⟩
        · rintro ⟨hd0, rfl⟩; exact .inr ⟨_, rfl, hf.defers.trans rfl, HBW.out.trans ((hb.trans (hb2.mono hb.size)).mono hsz2), .inr ⟨(by rw [HBAD.out (.inr hd0)]; decide), by rw [HBAD.out (.inr hd0)]⟩⟩
      · cases ho
        refine grow_op rfl rfl rfl ?_
        have ea : VStrB ⟨(strM kidB V).1.toArray⟩ ((strM kidB V).2 && wordH (strM kidB V).1) (a'.tmps.getD 48 undef) w' := hd 1 (by kernel_rfl)
        have eb : VStrB ⟨(strM typB V).1.toArray⟩ ((strM typB V).2 && wordH (strM typB V).1) (a'.tmps.getD 50 undef) w' := hd 3 (by kernel_rfl)
        have e1 := ea.1
        have e3 := eb.1
        refine grow_value (v := .agg #[.string ⟨(strM kidB V).1.toArray⟩, .string ⟨(strM typB V).1.toArray⟩]) (w' := w') ?_ rfl (Below.refl _ _)
        simp only [execOp, Act.eval, List.map_toArray, List.map_cons, List.map_nil, e1, e3]
        go_simp
        try rfl
      · cases ho
        refine grow_op rfl rfl rfl ?_
        refine grow_value (v := .pointer (some ⟨w'.heap.size, 0, none⟩)) (w' := w'.alloc (.cells #[.string ⟨#[]⟩, .string ⟨#[]⟩] 61)) ?_ ⟨_, rfl, hb.size, heap_alloc_new _ _⟩ ((Below.refl _ _).alloc (Nat.le_refl _) _)
        simp only [execOp]
        go_simp
      · simp at ho
    · intro a' w' hf hb hd
      obtain ⟨hv48, hkid⟩ := hd 1 (by decide)
      obtain ⟨hv50, htyp⟩ := hd 3 (by decide)
      have hv51 := hd 4 (by decide)
      obtain ⟨hg, hv10, hgB, hgc⟩ := hd 5 (by decide)
      obtain rfl := hf.eq [Value.agg #[.int IntKind.i64 6, .bool y, .string tt, .slice va l1 vc, .slice ma m1 mc], Value.string ⟨(strM kidB V).1.toArray⟩, Value.agg #[.int IntKind.i64 6, .bool y, .string tt, .slice va l1 vc, .slice ma m1 mc], Value.string ⟨(strM typB V).1.toArray⟩, Value.agg #[.string ⟨(strM kidB V).1.toArray⟩, .string ⟨(strM typB V).1.toArray⟩], Value.pointer (some ⟨hg, 0, none⟩)] (fun j hj => match j, hj with
        | 0, _ => hd 0 (by decide)
        | 1, _ => hv48
        | 2, _ => hd 2 (by decide)
        | 3, _ => hv50
        | 4, _ => hv51
        | 5, _ => hv10
        | k + 6, h => absurd h (by simp)) (by decide) (by kernel_rfl) rfl
      simp only [List.zip_cons_cons, List.zip_nil_right, List.foldl_cons, List.foldl_nil, Act.put, List.setIfInBounds_toArray, List.set_cons_succ, List.set_cons_zero]
      obtain ⟨w6, rfl⟩ : ∃ x : World, x = w' := ⟨_, rfl⟩
      obtain ⟨K, hK⟩ : ∃ K, (strM kidB V).1 = K := ⟨_, rfl⟩
      obtain ⟨T, hT⟩ : ∃ T, (strM typB V).1 = T := ⟨_, rfl⟩
      have hhead := HGOOD.out hkid htyp
      have hpj := HPJ.out
      rw [hhead, hK, hT] at hpj
      rw [hK] at hv48 hv51 hkid ⊢
      rw [hT] at hv50 hv51 htyp ⊢
      have HPJ := Lib.hid hpj
      have hb7 := below_two hb hgB (.string ⟨K.toArray⟩) (.string ⟨T.toArray⟩)
      have hgr := two_stored hgc (.string ⟨K.toArray⟩) (.string ⟨T.toArray⟩)
      have c0 : w6.cell? ⟨hg, 0, none⟩ = some (.string ⟨#[]⟩) := by rw [Lib.cell_of_heap hgc]; rfl
      have c1 : w6.cell? ⟨hg, 1, none⟩ = some (.string ⟨#[]⟩) := by rw [Lib.cell_of_heap hgc]; rfl
      have f0 := Lib.frozen_of_heap hgc 0
      have f1 := Lib.frozen_of_heap hgc 1
      have HB7 := Lib.hid hb7
      have HG7 := Lib.hid hgr
      clear hb7 hgr hgc hpj hhead HGOOD HBAD HMK HMT hkid htyp hd hf hb hv48 hv50 hv51 hv10
      go_upto_region 8 with (fail)
      clear c0 c1 f0 f1
      generalize (w6.setCell _ _).setCell _ _ = w7 at *
      have hs7 := HB7.out.size
      have HR7 := Lib.hid (HB5.out.trans (HB7.out.mono hsz2))
      have HZ7 := Lib.hid ((HB7.out.block _ (by omega)).trans HZ5.out)
      have HRP7 := Lib.hid (HRP5.out.below HB7.out)
      have HRG7 := Lib.hid (HRG5.out.below HB7.out)
      have HAB7 : Hid (∀ w' : World, Below w7.heap.size w7 w' → w'.cell? ⟨rb, 0, none⟩ = some (.string ⟨A.toArray⟩) ∧ w'.cell? ⟨rb, 1, none⟩ = some (.string ⟨B.toArray⟩)) := Lib.hid fun w' hb' => HAB5.out w' (HB7.out.trans (hb'.mono hs7))
      have HRV7 := Lib.hid (HRV5.out.under HB7.out)
      have hvc := (HB7.out.block _ hvb).trans HVB.out
      have hhg : hg < w7.heap.size := (Array.getElem?_eq_some_iff.1 HG7.out).1
      obtain ⟨x0, x1, x2, x3, x4⟩ := five_at hvc (Below.refl w7.heap.size w7) (by omega)
      clear hvc HZ5 HRP5 HRG5 HAB5 HRV5 HVB HB7 HB5 HBW
      by_cases hpl : 16384 < pp.length ∨ gg.length ≠ 32
      · have hp : partsJ t = (JP.no, 10) := by
          rw [HPJ.out, if_pos]
          rcases hpl with h | h
          · exact .inr (.inr (.inl h))
          · exact .inr (.inr (.inr h))
        have HP := Lib.hid hp
        obtain ⟨bb, hbb⟩ : ∃ bb : Bool, decide ((pp.length : Int) ≤ 16384) = bb := ⟨_, rfl⟩
        obtain ⟨cc, hcc⟩ : ∃ cc : Bool, ((gg.length : Int) == 32) = cc := ⟨_, rfl⟩
        have hbc : (bb && cc) = false := by
          rw [← hbb, ← hcc]
          rcases hpl with h | h
          · rw [decide_eq_false (by omega)]; rfl
          · rw [beq_false_of_ne (by omega), Bool.and_false]
        clear hp HPJ hpl
        cases bb with
        | false =>
          have hI : ¬ (pp.length : Int) ≤ 16384 := of_decide_eq_false hbb
          go_wp2_with fail
          refine (must_no 10 w7).mono ?_
          rintro e w8 ⟨rfl, rfl⟩
          unfold brk
          go_wp2_with fail
          exact ⟨rfl, HR7.out, .inr ⟨by rw [HP.out]; decide, by rw [HP.out]; rfl⟩⟩
        | true =>
          have hI : (pp.length : Int) ≤ 16384 := of_decide_eq_true hbb
          cases cc with
          | true => cases hbc
          | false =>
          go_wp2_with fail
          refine (must_no 10 w7).mono ?_
          rintro e w8 ⟨rfl, rfl⟩
          unfold brk
          go_wp2_with fail
          exact ⟨rfl, HR7.out, .inr ⟨by rw [HP.out]; decide, by rw [HP.out]; rfl⟩⟩
      have hp1 : pp.length ≤ 16384 := by
        rcases Nat.lt_or_ge 16384 pp.length with h | h
        · exact absurd (.inl h) hpl
        · exact h
      have hg1 : gg.length = 32 := Classical.byContradiction fun h => hpl (.inr h)
      have hpj : partsJ t = if methB V = false then (JP.no, 42) else (⟨K, T, pp, A ++ 46 :: B, gg⟩, 0) := by
        rw [HPJ.out, if_neg]
        rintro (h | h | h | h)
        · exact h rfl
        · cases h
        · omega
        · omega
      have HPJ2 := Lib.hid hpj
      have hI : (pp.length : Int) ≤ 16384 := by omega
      have hgB2 : ((gg.length : Int) == 32) = true := by rw [hg1]; rfl
      clear hpj HPJ hpl hg1
      go_wp2_with fail
      refine (must_yes 10 w7).mono ?_
      rintro e w7' ⟨rfl, rfl⟩
      go_wp2_with fail
      refine (method_any V _ [.int .i64 6, .bool y, .string tt, .slice va l1 vc, .slice ma m1 mc] w7' HRV7.out (by omega)).mono ?_
      rintro e w8 ⟨hb8, hor⟩
      rcases hor with ⟨hme, rfl⟩ | ⟨hme, rfl⟩
      case inr =>
        have hp : partsJ t = (JP.no, 42) := by rw [HPJ2.out, if_pos hme]
        have HP := Lib.hid hp
        have HR8 := Lib.hid (HR7.out.trans (hb8.mono (by omega)))
        clear hp hb8
        unfold brk
        go_wp2_with fail
        exact ⟨rfl, HR8.out, .inr ⟨by rw [HP.out]; decide, by rw [HP.out]; rfl⟩⟩
      have hp : partsJ t = (⟨K, T, pp, A ++ 46 :: B, gg⟩, 0) := by rw [HPJ2.out, if_neg (by rw [hme]; decide)]
      have HP := Lib.hid hp
      have hs8 := hb8.size
      have HR8 := Lib.hid (HR7.out.trans (hb8.mono (by omega)))
      have HZ8 := Lib.hid ((hb8.block _ (by omega)).trans HZ7.out)
      have HRP8 := Lib.hid (HRP7.out.below hb8)
      have HRG8 := Lib.hid (HRG7.out.below hb8)
      have HAB8 : Hid (∀ w' : World, Below w8.heap.size w8 w' → w'.cell? ⟨rb, 0, none⟩ = some (.string ⟨A.toArray⟩) ∧ w'.cell? ⟨rb, 1, none⟩ = some (.string ⟨B.toArray⟩)) := Lib.hid fun w' hb' => HAB7.out w' (hb8.trans (hb'.mono hs8))
      have HG8 := Lib.hid ((hb8.block _ hhg).trans HG7.out)
      have hhg8 : hg < w8.heap.size := by omega
      clear hp hb8 HPJ2 HR7 HZ7 HRP7 HRG7 HAB7 HG7 HRV7 x0 x1 x2 x3 x4
      obtain ⟨A1, hA1⟩ : ∃ A1, A ++ [46] = A1 := ⟨_, rfl⟩
      obtain ⟨G, hG⟩ : ∃ G, A1 ++ B = G := ⟨_, rfl⟩
      have hAB : A ++ 46 :: B = G := by rw [← hG, ← hA1, List.append_assoc]; rfl
      have HC1 : Hid ((⟨A.toArray⟩ : ByteArray) ++ ⟨#[46]⟩ = ⟨A1.toArray⟩) := Lib.hid (by rw [← hA1]; exact st_cat A [46])
      have HC2 : Hid ((⟨A1.toArray⟩ : ByteArray) ++ ⟨B.toArray⟩ = ⟨G.toArray⟩) := Lib.hid (by rw [← hG]; exact st_cat A1 B)
      rw [hAB] at HP
      have hlA1 : A1.length = A.length + 1 := by rw [← hA1, List.length_append]; rfl
      have HLA := Lib.hid (show A.length ≤ 1000000 ∧ B.length ≤ 1000000 ∧ A1.length ≤ 1000001 by omega)
      clear hlA1 hA1 hG hAB
      go_upto_region 10 with (fail)
      refine wp_region_grow_tail 12 (by kernel_rfl) (by kernel_rfl) (by decide) (by kernel_rfl) [63, 64, 65, 66, 67, 68, 69, 70, 71, 72, 73, 74] rfl (by decide) (by kernel_rfl) (fun iX => [VIs (.agg #[.string ⟨K.toArray⟩, .string ⟨T.toArray⟩]), VIs (.slice pA pp.length pC), VIs (.slice (some ⟨rb, 0, none⟩) 3 3), VIs (.pointer (some ⟨rb, 0, none⟩)), VIs (.string ⟨A.toArray⟩), VIs (.string ⟨A1.toArray⟩), VIs (.slice (some ⟨rb, 0, none⟩) 3 3), VIs (.pointer (some ⟨rb, 1, none⟩)), VIs (.string ⟨B.toArray⟩), VIs (.string ⟨G.toArray⟩), VIs (.slice gA gg.length gC), VIs (.agg #[Value.string ⟨K.toArray⟩, Value.string ⟨T.toArray⟩, Value.slice pA pp.length pC, Value.string ⟨G.toArray⟩, Value.slice gA gg.length gC])].getD iX fun _ _ => True) (stab_list _ ?_) ?_ ?_
      · skip
        intro V hV
        simp only [List.mem_cons, List.mem_nil_iff, or_false] at hV
        rcases hV with rfl | rfl | rfl | rfl | rfl | rfl | rfl | rfl | rfl | rfl | rfl | rfl <;> first | exact VIs.stab _ | exact VBytes.stab _ | exact VStr.stab _ | exact VParts.stab _ | exact VRow.stab _ | exact VRow8.stab _ _ | exact VRowIs.stab _ _ _
      · intro iX o ho a' w' hf hb hd
        rcases iX with _ | _ | _ | _ | _ | _ | _ | _ | _ | _ | _ | _ | iX
        · cases ho
          refine grow_op rfl rfl rfl ?_
          have f10 : a'.tmps.getD 10 undef = .pointer (some ⟨hg, 0, none⟩) := (hf.same 10 (by decide)).trans rfl
          obtain ⟨x0, x1⟩ := two_at HG8.out hb hhg8
          refine grow_value (v := .agg #[.string ⟨K.toArray⟩, .string ⟨T.toArray⟩]) (w' := w') ?_ rfl (Below.refl _ _)
          simp only [execOp, Act.eval]
          go_simp
        · cases ho
          refine grow_op rfl rfl rfl (grow_move rfl ?_)
          exact (hf.same 5 (by decide)).trans rfl
        · cases ho
          refine grow_op rfl rfl rfl (grow_move rfl ?_)
          exact (hf.same 3 (by decide)).trans rfl
        · cases ho
          refine grow_op rfl rfl rfl ?_
          have e2 : a'.tmps.getD 65 undef = .slice (some ⟨rb, 0, none⟩) 3 3 := hd 2 (by kernel_rfl)
          refine grow_value (v := .pointer (some ⟨rb, 0, none⟩)) (w' := w') ?_ rfl (Below.refl _ _)
          simp only [execOp, Act.eval, e2]
          go_simp
        · cases ho
          refine grow_op rfl rfl rfl ?_
          have e3 : a'.tmps.getD 66 undef = .pointer (some ⟨rb, 0, none⟩) := hd 3 (by kernel_rfl)
          obtain ⟨x0, x1⟩ := HAB8.out w' hb
          refine grow_value (v := .string ⟨A.toArray⟩) (w' := w') ?_ rfl (Below.refl _ _)
          simp only [execOp, Act.eval, e3]
          go_simp
        · cases ho
          refine grow_op rfl rfl rfl ?_
          have e4 : a'.tmps.getD 67 undef = .string ⟨A.toArray⟩ := hd 4 (by kernel_rfl)
          have hc := HC1.out
          refine grow_value (v := .string ⟨A1.toArray⟩) (w' := w') ?_ rfl (Below.refl _ _)
          simp only [execOp, Act.eval, e4]
          go_simp
          (have := HLA.out; omega)
        · cases ho
          refine grow_op rfl rfl rfl (grow_move rfl ?_)
          exact (hf.same 3 (by decide)).trans rfl
        · cases ho
          refine grow_op rfl rfl rfl ?_
          have e6 : a'.tmps.getD 69 undef = .slice (some ⟨rb, 0, none⟩) 3 3 := hd 6 (by kernel_rfl)
          refine grow_value (v := .pointer (some ⟨rb, 1, none⟩)) (w' := w') ?_ rfl (Below.refl _ _)
          simp only [execOp, Act.eval, e6]
          go_simp
        · cases ho
          refine grow_op rfl rfl rfl ?_
          have e7 : a'.tmps.getD 70 undef = .pointer (some ⟨rb, 1, none⟩) := hd 7 (by kernel_rfl)
          obtain ⟨x0, x1⟩ := HAB8.out w' hb
          refine grow_value (v := .string ⟨B.toArray⟩) (w' := w') ?_ rfl (Below.refl _ _)
          simp only [execOp, Act.eval, e7]
          go_simp
        · cases ho
          refine grow_op rfl rfl rfl ?_
          have e5 : a'.tmps.getD 68 undef = .string ⟨A1.toArray⟩ := hd 5 (by kernel_rfl)
          have e8 : a'.tmps.getD 71 undef = .string ⟨B.toArray⟩ := hd 8 (by kernel_rfl)
          have hc := HC2.out
          refine grow_value (v := .string ⟨G.toArray⟩) (w' := w') ?_ rfl (Below.refl _ _)
          simp only [execOp, Act.eval, e5, e8]
          go_simp
          (have := HLA.out; omega)
        · cases ho
          refine grow_op rfl rfl rfl (grow_move rfl ?_)
          exact (hf.same 6 (by decide)).trans rfl
        · cases ho
          refine grow_op rfl rfl rfl ?_
          have e0 : a'.tmps.getD 63 undef = .agg #[.string ⟨K.toArray⟩, .string ⟨T.toArray⟩] := hd 0 (by kernel_rfl)
          have e1 : a'.tmps.getD 64 undef = .slice pA pp.length pC := hd 1 (by kernel_rfl)
          have e9 : a'.tmps.getD 72 undef = .string ⟨G.toArray⟩ := hd 9 (by kernel_rfl)
          have e10 : a'.tmps.getD 73 undef = .slice gA gg.length gC := hd 10 (by kernel_rfl)
          refine grow_value (v := .agg #[Value.string ⟨K.toArray⟩, Value.string ⟨T.toArray⟩, Value.slice pA pp.length pC, Value.string ⟨G.toArray⟩, Value.slice gA gg.length gC]) (w' := w') ?_ rfl (Below.refl _ _)
          simp only [execOp, Act.eval, List.map_toArray, List.map_cons, List.map_nil, e0, e1, e9, e10]
          go_simp
          try rfl
        · simp at ho
      · intro a' w' hf hb hd
        obtain rfl := hf.eq [Value.agg #[.string ⟨K.toArray⟩, .string ⟨T.toArray⟩], Value.slice pA pp.length pC, Value.slice (some ⟨rb, 0, none⟩) 3 3, Value.pointer (some ⟨rb, 0, none⟩), Value.string ⟨A.toArray⟩, Value.string ⟨A1.toArray⟩, Value.slice (some ⟨rb, 0, none⟩) 3 3, Value.pointer (some ⟨rb, 1, none⟩), Value.string ⟨B.toArray⟩, Value.string ⟨G.toArray⟩, Value.slice gA gg.length gC, Value.agg #[Value.string ⟨K.toArray⟩, Value.string ⟨T.toArray⟩, Value.slice pA pp.length pC, Value.string ⟨G.toArray⟩, Value.slice gA gg.length gC]] (fun j hj => match j, hj with
          | 0, _ => hd 0 (by decide)
          | 1, _ => hd 1 (by decide)
          | 2, _ => hd 2 (by decide)
          | 3, _ => hd 3 (by decide)
          | 4, _ => hd 4 (by decide)
          | 5, _ => hd 5 (by decide)
          | 6, _ => hd 6 (by decide)
          | 7, _ => hd 7 (by decide)
          | 8, _ => hd 8 (by decide)
          | 9, _ => hd 9 (by decide)
          | 10, _ => hd 10 (by decide)
          | 11, _ => hd 11 (by decide)
          | k + 12, h => absurd h (by simp)) (by decide) (by kernel_rfl) rfl
        simp only [List.zip_cons_cons, List.zip_nil_right, List.foldl_cons, List.foldl_nil, Act.put, List.setIfInBounds_toArray, List.set_cons_succ, List.set_cons_zero]
        obtain ⟨w9, rfl⟩ : ∃ x : World, x = w' := ⟨_, rfl⟩
        have HRES := Lib.hid ((hb.block _ (by omega)).trans HZ8.out)
        have HRP9 := Lib.hid (HRP8.out.below hb)
        have HRG9 := Lib.hid (HRG8.out.below hb)
        have HB9 := Lib.hid (HR8.out.trans (hb.mono HR8.out.size))
        obtain ⟨c0, c1, c2, c3, c4⟩ := five_at HRES.out (Below.refl w9.heap.size w9) (Array.getElem?_eq_some_iff.1 HRES.out).1
        have f0 := Lib.frozen_of_heap HRES.out 0
        have f1 := Lib.frozen_of_heap HRES.out 1
        have f2 := Lib.frozen_of_heap HRES.out 2
        have f3 := Lib.frozen_of_heap HRES.out 3
        have f4 := Lib.frozen_of_heap HRES.out 4
        clear hd hf hb
        go_wp2_with fail
        have hres := five_stored HRES.out (.string ⟨K.toArray⟩) (.string ⟨T.toArray⟩) (.slice pA pp.length pC) (.string ⟨G.toArray⟩) (.slice gA gg.length gC)
        have hbx := below_five HB9.out (Nat.le_refl _) (.string ⟨K.toArray⟩) (.string ⟨T.toArray⟩) (.slice pA pp.length pC) (.string ⟨G.toArray⟩) (.slice gA gg.length gC)
        have hrp := rd_five HRES.out HRP9.out (.string ⟨K.toArray⟩) (.string ⟨T.toArray⟩) (.slice pA pp.length pC) (.string ⟨G.toArray⟩) (.slice gA gg.length gC)
        have hrg := rd_five HRES.out HRG9.out (.string ⟨K.toArray⟩) (.string ⟨T.toArray⟩) (.slice pA pp.length pC) (.string ⟨G.toArray⟩) (.slice gA gg.length gC)
        clear c0 c1 c2 c3 c4 f0 f1 f2 f3 f4
        generalize ((((w9.setCell _ _).setCell _ _).setCell _ _).setCell _ _).setCell _ _ = w10 at *
        have e0 := Lib.cell_of_heap hres 0
        have e1 := Lib.cell_of_heap hres 1
        have e2 := Lib.cell_of_heap hres 2
        have e3 := Lib.cell_of_heap hres 3
        have e4 := Lib.cell_of_heap hres 4
        simp only [List.getElem?_toArray] at e0 e1 e2 e3 e4
        refine bodyPost_ret (v := .agg #[.string ⟨K.toArray⟩, .string ⟨T.toArray⟩, .slice pA pp.length pC, .string ⟨G.toArray⟩, .slice gA gg.length gC]) (by simp [results, Tryz.results78, go_sem, e0, e1, e2, e3, e4]) rfl ?_
        refine ⟨hbx, .inl ⟨by rw [HP.out], _, rfl, ?_⟩⟩
        rw [HP.out]
        exact ⟨pA, pC, gA, gC, rfl, hrp, hrg⟩
end Go.Proofs.YtfdijcdpmgkdkaaGreatDoor
set_option linter.unusedVariables false
namespace Go.Proofs.YtfdijcdpmgkdkaaGreatDoor
open Go.RowKit

structure CW (rv rf : Nat) (E : Int) (w : World) (a0 : Act) (b : Nat → Bool) (a : Act) (w' : World) : Prop where
  fr : Fr [11, 12, 13] a0 a
  b0 : b 0 = true → a.tmps.getD 11 undef = .agg ZP
  b1 : b 1 = true → a.tmps.getD 12 undef = .pointer (some ⟨w.heap.size, 0, none⟩)
  b2 : b 2 = true → a.tmps.getD 13 undef = .int .i64 E
  hrv : w'.heap[rv]? = some (.cells ZP 66 (0, 0))
  hrf : w'.heap[rf]? = some (.cells (if b 4 then #[.int .i64 E] else #[.int .i64 0]) 36 (0, 0))
  nw : w'.heap[w.heap.size]? = some (.cells #[.int .i64 E] 150 (0, 0))
  ot : ∀ k, k < w.heap.size → k ≠ rv → k ≠ rf → w'.heap[k]? = w.heap[k]?
  os : w'.os = w.os
  tape : w'.tape = w.tape
  output : w'.output = w.output
  size : w.heap.size ≤ w'.heap.size
theorem brk_is (v : Value) (xT : TypeId) (w : World) : (Instr.typeAssert (.iface 150 v) xT 150 true).run Tryz.prog w = .ok (.tuple #[v, .bool true]) w := by
  simp [Instr.typeAssert, run_underlying Tryz.underlying150, go_sem, Result.andThen]
set_option maxRecDepth 100000 in
set_option maxHeartbeats 8000000 in
theorem pcatch_idle (p q : Addr) (w : World) :
    CallsD Tryz.prog 114 #[.pointer (some p), .pointer (some q)] .returning w fun e u' w' => e = .returned (.tuple #[]) ∧ u' = .returning ∧ w' = w := by
  refine callsD_of_wpS Tryz.func114 rfl fun c₀ cs hu => ?_
  apply wpS_seq
  apply wpS_region
  simp [wpOpsS, go_sem, recoverD, hu, Exit.thenS]
  refine wpS_of_wp (wp_frame_to (a' := { tmps := #[.pointer (some p), .pointer (some q), undef, undef, undef, .nilIface, undef, undef, undef, undef, undef, undef, undef, undef], defers := [] }) rfl ?_)
  go_wp2_with fail
  cases c₀
  simp_all [bodyPostS, results, go_sem]
set_option maxRecDepth 100000 in
set_option maxHeartbeats 8000000 in
theorem pcatch_panicking (rv rf : Nat) (E : Int) (w : World) (hv : w.heap[rv]? = some (.cells ZP 66 (0, 0))) (hf : w.heap[rf]? = some (.cells #[.int .i64 0] 36 (0, 0))) (hne : rv ≠ rf) :
    CallsD Tryz.prog 114 #[.pointer (some ⟨rv, 0, none⟩), .pointer (some ⟨rf, 0, none⟩)] (.panicking (brk E)) w fun e u' w' =>
      e = .returned (.tuple #[]) ∧ u' = .panicking [{ v := .iface 150 (.agg #[.int .i64 E]), recovered := true }] ∧
      w'.heap[rv]? = some (.cells ZP 66 (0, 0)) ∧ w'.heap[rf]? = some (.cells #[.int .i64 E] 36 (0, 0)) ∧
      (∀ k, k < w.heap.size → k ≠ rv → k ≠ rf → w'.heap[k]? = w.heap[k]?) ∧ w'.os = w.os ∧ w'.tape = w.tape ∧ w'.output = w.output ∧ w.heap.size ≤ w'.heap.size := by
  have hta := brk_is
  have HV := Lib.hid hv
  have HF := Lib.hid hf
  have HN := Lib.hid hne
  have hvl : rv < w.heap.size := (Array.getElem?_eq_some_iff.1 hv).1
  have hfl : rf < w.heap.size := (Array.getElem?_eq_some_iff.1 hf).1
  clear hv hf hne
  unfold brk
  refine callsD_of_wpS Tryz.func114 rfl fun c₀ cs hu => ?_
  apply wpS_seq
  apply wpS_region
  simp [wpOpsS, go_sem, recoverD, hu, Exit.thenS]
  refine wpS_of_wp (wp_frame_to (a' := { tmps := #[.pointer (some ⟨rv, 0, none⟩), .pointer (some ⟨rf, 0, none⟩), undef, undef, undef, .iface 150 (.agg #[.int .i64 E]), undef, undef, undef, undef, undef, undef, undef, undef], defers := [] }) rfl ?_)
  go_upto_region 7 with (fail)
  have hb5 := World.grownBy_alloc w (.cells #[.int .i64 E] 150) none
  have hg5 := heap_alloc_new w (.cells #[.int .i64 E] 150)
  generalize w.alloc _ = w5 at *
  refine wp_frame_gen fun a0 hs0 hd0 hz => ?_
  have hs0 : a0.tmps.size = 14 := hs0
  have hd0 : a0.defers = [] := hd0
  have z0 : a0.tmps.getD 0 undef = .pointer (some ⟨rv, 0, none⟩) := hz 0
  have z1 : a0.tmps.getD 1 undef = .pointer (some ⟨rf, 0, none⟩) := hz 1
  have z3 : a0.tmps.getD 3 undef = .pointer (some ⟨w.heap.size, 0, none⟩) := hz 3
  clear hz
  refine wp_region_inv (by kernel_rfl) (by kernel_rfl) (CW rv rf E w a0) ?_ ?_ ?_
  · exact ⟨Fr.refl _ _, (fun e => by cases e), (fun e => by cases e), (fun e => by cases e), (hb5.block rv hvl (by simp)).trans HV.out, (hb5.block rf hfl (by simp)).trans HF.out, hg5, fun k hk _ _ => hb5.block k hk (by simp), hb5.os, hb5.tape, hb5.output, hb5.size⟩
  · rintro b a' w' hJ i op ho hbi hdep
    have t0 : a'.tmps.getD 0 undef = .pointer (some ⟨rv, 0, none⟩) := (hJ.fr.same 0 (by decide)).trans z0
    have t1 : a'.tmps.getD 1 undef = .pointer (some ⟨rf, 0, none⟩) := (hJ.fr.same 1 (by decide)).trans z1
    have t3 : a'.tmps.getD 3 undef = .pointer (some ⟨w.heap.size, 0, none⟩) := (hJ.fr.same 3 (by decide)).trans z3
    have c0 : w'.cell? ⟨w.heap.size, 0, none⟩ = some (.int .i64 E) := by rw [Lib.cell_of_heap hJ.nw]; rfl
    rcases i with _ | _ | _ | _ | _ | i
    · cases ho
      refine op_step rfl rfl (op_value (v := .agg ZP) (w' := w') ?_ ⟨hJ.fr.put (by decide) _, ?_, ?_, ?_, hJ.hrv, by simpa using hJ.hrf, hJ.nw, hJ.ot, hJ.os, hJ.tape, hJ.output, hJ.size⟩)
      · simp only [execOp]
        go_simp
        rfl
      · intro _
        exact put_at _ _ _ (by rw [hJ.fr.size, hs0]; decide)
      · intro e
        exact (put_other _ _ _ _ (by decide)).trans (hJ.b1 (by simpa using e))
      · intro e
        exact (put_other _ _ _ _ (by decide)).trans (hJ.b2 (by simpa using e))
    · cases ho
      refine op_step rfl rfl (op_value (v := .pointer (some ⟨w.heap.size, 0, none⟩)) (w' := w') ?_ ⟨hJ.fr.put (by decide) _, ?_, ?_, ?_, hJ.hrv, by simpa using hJ.hrf, hJ.nw, hJ.ot, hJ.os, hJ.tape, hJ.output, hJ.size⟩)
      · simp only [execOp, Act.eval, t3]
        go_simp
      · intro e
        exact (put_other _ _ _ _ (by decide)).trans (hJ.b0 (by simpa using e))
      · intro _
        exact put_at _ _ _ (by rw [hJ.fr.size, hs0]; decide)
      · intro e
        exact (put_other _ _ _ _ (by decide)).trans (hJ.b2 (by simpa using e))
    · cases ho
      have e1 := hJ.b1 (dep_of hdep 1 (by kernel_rfl))
      refine op_step rfl rfl (op_value (v := .int .i64 E) (w' := w') ?_ ⟨hJ.fr.put (by decide) _, ?_, ?_, ?_, hJ.hrv, by simpa using hJ.hrf, hJ.nw, hJ.ot, hJ.os, hJ.tape, hJ.output, hJ.size⟩)
      · simp only [execOp, Act.eval, e1]
        go_simp
      · intro e
        exact (put_other _ _ _ _ (by decide)).trans (hJ.b0 (by simpa using e))
      · intro e
        exact (put_other _ _ _ _ (by decide)).trans (hJ.b1 (by simpa using e))
      · intro _
        exact put_at _ _ _ (by rw [hJ.fr.size, hs0]; decide)
    · cases ho
      have e0 := hJ.b0 (dep_of hdep 0 (by kernel_rfl))
      refine op_step rfl rfl (op_store _ (.tmp 0) (.tmp 11) rfl rfl rv 0 ZP.toList t0 e0 _ _ hJ.hrv (by kernel_rfl) (by simp [ZP]) (by simp [ZP, Value.oneCell']) ⟨hJ.fr, fun e => hJ.b0 (by simpa using e), fun e => hJ.b1 (by simpa using e), fun e => hJ.b2 (by simpa using e), ?_, ?_, ?_, ?_, hJ.os, hJ.tape, hJ.output, by simpa [World.setRow] using hJ.size⟩)
      · exact setRow_heap w' rv _ _ _ _ hJ.hrv
      · simpa using (setRow_other w' rv rf _ (Ne.symm HN.out)).trans hJ.hrf
      · exact (setRow_other w' rv w.heap.size _ (by omega)).trans hJ.nw
      · intro k hk h1 h2
        exact (setRow_other w' rv k _ h1).trans (hJ.ot k hk h1 h2)
    · cases ho
      have e2 := hJ.b2 (dep_of hdep 2 (by kernel_rfl))
      have hbf : b 4 = false := hbi
      have hrf := hJ.hrf
      rw [if_neg (by simp [hbf])] at hrf
      have d0 : w'.cell? ⟨rf, 0, none⟩ = some (.int .i64 0) := by rw [Lib.cell_of_heap hrf]; rfl
      have f0 := Lib.frozen_of_heap hrf 0
      have hsr : w'.setCell ⟨rf, 0, none⟩ (.int .i64 E) = w'.setRow rf #[.int .i64 E] := setCell_row hrf rfl
      refine op_step rfl rfl (op_skip (w' := w'.setCell ⟨rf, 0, none⟩ (.int .i64 E)) ?_ rfl ?_)
      · simp only [execOp, Act.eval, t1, e2]
        go_simp
      rw [hsr]
      refine ⟨hJ.fr, fun e => hJ.b0 (by simpa using e), fun e => hJ.b1 (by simpa using e), fun e => hJ.b2 (by simpa using e), ?_, ?_, ?_, ?_, hJ.os, hJ.tape, hJ.output, by simpa [World.setRow] using hJ.size⟩
      · exact (setRow_other w' rf rv _ HN.out).trans hJ.hrv
      · simpa using setRow_heap w' rf _ _ _ _ hrf
      · exact (setRow_other w' rf w.heap.size _ (by omega)).trans hJ.nw
      · intro k hk h1 h2
        exact (setRow_other w' rf k _ h2).trans (hJ.ot k hk h1 h2)
    · cases ho
  · rintro b a' w' hJ hdone
    have hrf := hJ.hrf
    rw [if_pos (hdone 4 (by decide))] at hrf
    refine ⟨hJ.fr.defers.trans hd0, _, rfl, .tuple #[], by simp [results, go_sem], rfl, rfl, hJ.hrv, hrf, hJ.ot, hJ.os, hJ.tape, hJ.output, hJ.size⟩
theorem below_of_new {B : Nat} {w w' : World} (hos : w'.os = w.os) (htape : w'.tape = w.tape) (hout : w'.output = w.output) (hsz : w.heap.size ≤ w'.heap.size) (h : ∀ k, k < B → w'.heap[k]? = w.heap[k]?) : Below B w w' := ⟨hos, htape, hout, hsz, h⟩
theorem PartsAre.below {j : JP} {v : Value} {w w' : World} (h : PartsAre j v w) (hb : Below w.heap.size w w') : PartsAre j v w' := by
  obtain ⟨pa, pc, ga, gc, rfl, h1, h2⟩ := h
  exact ⟨pa, pc, ga, gc, rfl, h1.below hb, h2.below hb⟩
theorem rd_other {w w' : World} {g : Nat} {C : Array Value} {T : TypeId} {fr : Nat × Nat} (h : w.heap[g]? = some (.cells C T fr)) (hC : ∀ (off : Nat) (n : Int), C[off]? ≠ some (Value.int .u8 n)) (hot : ∀ k, k ≠ g → w'.heap[k]? = w.heap[k]?) {ad : Option Addr} {l : List UInt8} (hr : Rd w ad l) : Rd w' ad l := by
  rcases hr with rfl | ⟨q, off, rfl, hc⟩
  · exact .inl rfl
  · rcases Nat.eq_zero_or_pos l.length with h0 | h0
    · exact .inl (List.length_eq_zero_iff.1 h0)
    have hne : q ≠ g := by
      rintro rfl
      have := hc 0 h0
      rw [Lib.cell_of_heap h] at this
      exact hC _ _ this
    refine .inr ⟨q, off, rfl, fun i hi => ?_⟩
    rw [← hc i hi]
    simp only [World.cell?, hot q hne]
theorem no_u8 {e : Int} : ∀ (off : Nat) (n : Int), (#[Value.int .i64 e] : Array Value)[off]? ≠ some (.int .u8 n)
  | 0, _ => by simp
  | _ + 1, _ => by simp
theorem no_parts (w : World) : PartsAre JP.no (.agg ZP) w := ⟨none, 0, none, 0, rfl, .inl rfl, .inl rfl⟩
theorem parts_no {t : List UInt8} (h : (partsJ t).2 ≠ 0) : (partsJ t).1 = JP.no := by
  revert h
  unfold partsJ
  split
  · intro _; rfl
  split
  · split
    · split
      · intro _; rfl
      · split
        · intro _; rfl
        · intro h; exact absurd rfl h
    · intro _; rfl
  · intro _; rfl
set_option maxRecDepth 100000 in
set_option maxHeartbeats 16000000 in
theorem pcaught_any (t : List UInt8) (m : Int) (w : World) (hm : w.cell? ⟨3, 0, none⟩ = some (.int .i64 m)) (hl : t.length ≤ 1000000) :
    Calls Tryz.prog 77 #[.func (.func 78) #[] #[], .string ⟨t.toArray⟩] w fun e w' => Below w.heap.size w w' ∧ ∃ v, e = .returned (.tuple #[v, .int .i64 (partsJ t).2]) ∧ PartsAre (partsJ t).1 v w' := by
  have hmf : ∀ (fn : Fn) (first cap : Array Value) (w : World), (Instr.makeFunc fn first cap).run Tryz.prog w = .ok (.func fn first cap) w := fun _ _ _ _ => rfl
  have hml := World.block_lt_of_cell? _ _ hm
  go_enter_defers Tryz.func77, Tryz.ntmps77
  go_upto_region 2 with (fail)
  have hb1 : Below w.heap.size w ((w.alloc (.cells #[.string ⟨#[]⟩, .string ⟨#[]⟩, .slice none 0 0, .string ⟨#[]⟩, .slice none 0 0] 66)).alloc (.cells #[.int .i64 0] 36)) := ((Below.refl _ _).alloc (Nat.le_refl _) _).alloc (by simp) _
  have hg1 : ((w.alloc (.cells #[.string ⟨#[]⟩, .string ⟨#[]⟩, .slice none 0 0, .string ⟨#[]⟩, .slice none 0 0] 66)).alloc (.cells #[.int .i64 0] 36)).heap[w.heap.size]? = some (.cells ZP 66 (0, 0)) := ((World.grownBy_alloc (w.alloc _) _ none).block _ (by simp) (by simp)).trans (heap_alloc_new w _)
  have hg2 : ((w.alloc (.cells #[.string ⟨#[]⟩, .string ⟨#[]⟩, .slice none 0 0, .string ⟨#[]⟩, .slice none 0 0] 66)).alloc (.cells #[.int .i64 0] 36)).heap[w.heap.size + 1]? = some (.cells #[.int .i64 0] 36 (0, 0)) := by
    rw [show w.heap.size + 1 = (w.alloc (.cells #[.string ⟨#[]⟩, .string ⟨#[]⟩, .slice none 0 0, .string ⟨#[]⟩, .slice none 0 0] 66)).heap.size by simp]
    exact heap_alloc_new _ _
  generalize (w.alloc _).alloc _ = w1 at *
  have HB1 := Lib.hid hb1
  have HG1 := Lib.hid hg1
  have HG2 := Lib.hid hg2
  have hs1 : w.heap.size + 1 < w1.heap.size := (Array.getElem?_eq_some_iff.1 hg2).1
  have HW := Lib.hid (jparts_any t m w1 ((hb1.cell hml).trans hm) hl)
  clear hb1 hg1 hg2 hm
  have HNO := Lib.hid (@parts_no t)
  generalize hpj : partsJ t = J at *
  obtain ⟨J, E⟩ := J
  have HPJ := Lib.hid hpj
  clear hpj
  go_wp2_with fail
  refine HW.out.mono ?_
  rintro e w4 ⟨hb4, ⟨h4, v, rfl, hpa⟩ | ⟨h4, rfl⟩⟩
  · change E = 0 at h4
    change PartsAre J v w4 at hpa
    subst h4
    obtain ⟨pa, pc, ga, gc, rfl, hr1, hr2⟩ := hpa
    have HB4 := Lib.hid (HB1.out.trans (hb4.mono HB1.out.size))
    have HV4 := Lib.hid ((hb4.block _ (by omega)).trans HG1.out)
    have HF4 := Lib.hid ((hb4.block _ (by omega)).trans HG2.out)
    have HR1 := Lib.hid hr1
    have HR2 := Lib.hid hr2
    have hs4 := hb4.size
    clear hb4 hr1 hr2 HW HG1 HG2
    obtain ⟨c0, c1, c2, c3, c4⟩ := five_at HV4.out (Below.refl w4.heap.size w4) (Array.getElem?_eq_some_iff.1 HV4.out).1
    have f0 := Lib.frozen_of_heap HV4.out 0
    have f1 := Lib.frozen_of_heap HV4.out 1
    have f2 := Lib.frozen_of_heap HV4.out 2
    have f3 := Lib.frozen_of_heap HV4.out 3
    have f4 := Lib.frozen_of_heap HV4.out 4
    have b0 : w4.cell? ⟨w.heap.size + 1, 0, none⟩ = some (.int .i64 0) := by rw [Lib.cell_of_heap HF4.out]; rfl
    have g0 := Lib.frozen_of_heap HF4.out 0
    go_wp2_with fail
    refine leaves_cons (f := 114) (args := #[.pointer (some ⟨w.heap.size, 0, none⟩), .pointer (some ⟨w.heap.size + 1, 0, none⟩)]) (by simp) (by simp [go_sem]) ?_
    refine (pcatch_idle ⟨w.heap.size, 0, none⟩ ⟨w.heap.size + 1, 0, none⟩ _).mono ?_
    rintro e u' w'' ⟨rfl, rfl, rfl⟩
    obtain ⟨x0, hx0⟩ : ∃ x, (Value.string ⟨J.kid.toArray⟩) = x := ⟨_, rfl⟩
    obtain ⟨x1, hx1⟩ : ∃ x, (Value.string ⟨J.typ.toArray⟩) = x := ⟨_, rfl⟩
    obtain ⟨x2, hx2⟩ : ∃ x, (Value.slice pa J.pay.length pc) = x := ⟨_, rfl⟩
    obtain ⟨x3, hx3⟩ : ∃ x, (Value.string ⟨J.sig.toArray⟩) = x := ⟨_, rfl⟩
    obtain ⟨x4, hx4⟩ : ∃ x, (Value.slice ga J.tag.length gc) = x := ⟨_, rfl⟩
    rw [hx0, hx1, hx2, hx3, hx4]
    have hst := five_stored HV4.out x0 x1 x2 x3 x4
    have hbx := below_five HB4.out (Nat.le_refl _) x0 x1 x2 x3 x4
    have hot := five_other w4 w.heap.size x0 x1 x2 x3 x4
    have hr1 := rd_five HV4.out HR1.out x0 x1 x2 x3 x4
    have hr2 := rd_five HV4.out HR2.out x0 x1 x2 x3 x4
    clear c0 c1 c2 c3 c4 f0 f1 f2 f3 f4 b0 g0
    generalize hw5 : ((((w4.setCell ⟨w.heap.size, 0, none⟩ _).setCell ⟨w.heap.size, 1, none⟩ _).setCell ⟨w.heap.size, 2, none⟩ _).setCell ⟨w.heap.size, 3, none⟩ _).setCell ⟨w.heap.size, 4, none⟩ _ = w5 at *
    have HF5 := (hot (w.heap.size + 1) (by omega)).trans HF4.out
    have hV6 := (Below.heap_setCell w5 (⟨w.heap.size + 1, 0, none⟩ : Addr) (.int .i64 0) w.heap.size (by show w.heap.size ≠ w.heap.size + 1; omega)).trans hst
    have hF6 := setCell_block (o := 0) HF5 (.int .i64 0)
    have hot6 : ∀ k, k ≠ w.heap.size + 1 → (w5.setCell ⟨w.heap.size + 1, 0, none⟩ (.int .i64 0)).heap[k]? = w5.heap[k]? := fun k hk => Below.heap_setCell _ _ _ _ hk
    have hr1 := rd_other HF5 no_u8 hot6 hr1
    have hr2 := rd_other HF5 no_u8 hot6 hr2
    have hb6 := hbx.setCell (p := ⟨w.heap.size + 1, 0, none⟩) (by show w.heap.size ≤ w.heap.size + 1; omega) (.int .i64 0)
    generalize w5.setCell ⟨w.heap.size + 1, 0, none⟩ (.int .i64 0) = w6 at *
    have e0 := Lib.cell_of_heap hV6 0
    have e1 := Lib.cell_of_heap hV6 1
    have e2 := Lib.cell_of_heap hV6 2
    have e3 := Lib.cell_of_heap hV6 3
    have e4 := Lib.cell_of_heap hV6 4
    have e5 := Lib.cell_of_heap hF6 0
    simp only [List.getElem?_toArray] at e0 e1 e2 e3 e4 e5
    exact ⟨.tuple #[.agg #[x0, x1, x2, x3, x4], .int .i64 0], by simp [results, Tryz.results77, go_sem, e0, e1, e2, e3, e4, e5], hb6, by
      rw [HPJ.out]
      refine ⟨_, rfl, pa, pc, ga, gc, ?_, hr1, hr2⟩
      rw [hx0, hx1, hx2, hx3, hx4]⟩
  · change E ≠ 0 at h4
    have hJ := HNO.out h4
    change J = JP.no at hJ
    subst hJ
    have HB4 := Lib.hid (HB1.out.trans (hb4.mono HB1.out.size))
    have HV4 := Lib.hid ((hb4.block _ (by omega)).trans HG1.out)
    have HF4 := Lib.hid ((hb4.block _ (by omega)).trans HG2.out)
    have hs4 := hb4.size
    clear h4 hb4 HW HG1 HG2
    unfold brk
    go_wp2_with fail
    refine leaves_cons (f := 114) (args := #[.pointer (some ⟨w.heap.size, 0, none⟩), .pointer (some ⟨w.heap.size + 1, 0, none⟩)]) (by simp) (by simp [go_sem]) ?_
    refine (pcatch_panicking w.heap.size (w.heap.size + 1) E w4 HV4.out HF4.out (by omega)).mono ?_
    rintro e u' w'' ⟨rfl, rfl, kv, kf, hot, hos, htape, hout, hsz⟩
    unfold ZP at kv
    have e0 := Lib.cell_of_heap kv 0
    have e1 := Lib.cell_of_heap kv 1
    have e2 := Lib.cell_of_heap kv 2
    have e3 := Lib.cell_of_heap kv 3
    have e4 := Lib.cell_of_heap kv 4
    have e5 := Lib.cell_of_heap kf 0
    simp only [List.getElem?_toArray] at e0 e1 e2 e3 e4 e5
    have hbw : Below w.heap.size w w'' := HB4.out.trans (below_of_new hos htape hout hsz fun k hk => hot k (by omega) (by omega) (by omega))
    exact ⟨.tuple #[.agg ZP, .int .i64 E], by simp [ZP, results, Tryz.results77, go_sem, e0, e1, e2, e3, e4, e5], hbw, by
      rw [HPJ.out]
      exact ⟨_, rfl, no_parts w''⟩⟩
end Go.Proofs.YtfdijcdpmgkdkaaGreatDoor
set_option linter.unusedVariables false
namespace Go.Proofs.YtfdijcdpmgkdkaaGreatDoor
open Go.RowKit

set_option maxRecDepth 100000 in
set_option maxHeartbeats 16000000 in
theorem jwsParse_any (t : List UInt8) (m : Int) (w : World) (hm : w.cell? ⟨3, 0, none⟩ = some (.int .i64 m)) (hl : t.length ≤ 1000000) :
    Calls Tryz.prog 37 #[.string ⟨t.toArray⟩] w fun e w' => Below w.heap.size w w' ∧ ∃ v, e = .returned (.tuple #[v, .int .i64 (partsJ t).2]) ∧ PartsAre (partsJ t).1 v w' := by
  have hml := World.block_lt_of_cell? _ _ hm
  go_enter Tryz.func37, Tryz.ntmps37
  go_upto_region 1 with (fail)
  have hb1 : Below w.heap.size w (w.alloc (.cells #[.string ⟨#[]⟩, .string ⟨#[]⟩, .slice none 0 0, .string ⟨#[]⟩, .slice none 0 0] 66)) := (Below.refl _ _).alloc (Nat.le_refl _) _
  have hg1 := heap_alloc_new w (.cells #[.string ⟨#[]⟩, .string ⟨#[]⟩, .slice none 0 0, .string ⟨#[]⟩, .slice none 0 0] 66)
  generalize w.alloc _ = w1 at *
  have HB1 := Lib.hid hb1
  have HG1 : Hid (w1.heap[w.heap.size]? = some (.cells ZP 66 (0, 0))) := Lib.hid hg1
  have hs1 : w.heap.size < w1.heap.size := (Array.getElem?_eq_some_iff.1 hg1).1
  have HW := Lib.hid (pcaught_any t m w1 ((hb1.cell hml).trans hm) hl)
  clear hb1 hg1 hm
  go_wp2_with fail
  refine HW.out.mono ?_
  rintro e w4 ⟨hb4, v, rfl, pa, pc, ga, gc, rfl, hr1, hr2⟩
  have HB4 := Lib.hid (HB1.out.trans (hb4.mono HB1.out.size))
  have HV4 := Lib.hid ((hb4.block _ hs1).trans HG1.out)
  have HR1 := Lib.hid hr1
  have HR2 := Lib.hid hr2
  clear hb4 hr1 hr2 HW HG1
  obtain ⟨c0, c1, c2, c3, c4⟩ := five_at HV4.out (Below.refl w4.heap.size w4) (Array.getElem?_eq_some_iff.1 HV4.out).1
  have f0 := Lib.frozen_of_heap HV4.out 0
  have f1 := Lib.frozen_of_heap HV4.out 1
  have f2 := Lib.frozen_of_heap HV4.out 2
  have f3 := Lib.frozen_of_heap HV4.out 3
  have f4 := Lib.frozen_of_heap HV4.out 4
  go_wp2_with fail
  obtain ⟨x0, hx0⟩ : ∃ x, (Value.string ⟨(partsJ t).1.kid.toArray⟩) = x := ⟨_, rfl⟩
  obtain ⟨x1, hx1⟩ : ∃ x, (Value.string ⟨(partsJ t).1.typ.toArray⟩) = x := ⟨_, rfl⟩
  obtain ⟨x2, hx2⟩ : ∃ x, (Value.slice pa (partsJ t).1.pay.length pc) = x := ⟨_, rfl⟩
  obtain ⟨x3, hx3⟩ : ∃ x, (Value.string ⟨(partsJ t).1.sig.toArray⟩) = x := ⟨_, rfl⟩
  obtain ⟨x4, hx4⟩ : ∃ x, (Value.slice ga (partsJ t).1.tag.length gc) = x := ⟨_, rfl⟩
  rw [hx0, hx1, hx2, hx3, hx4]
  have hst := five_stored HV4.out x0 x1 x2 x3 x4
  have hbx := below_five HB4.out (Nat.le_refl _) x0 x1 x2 x3 x4
  have hr1 := rd_five HV4.out HR1.out x0 x1 x2 x3 x4
  have hr2 := rd_five HV4.out HR2.out x0 x1 x2 x3 x4
  clear c0 c1 c2 c3 c4 f0 f1 f2 f3 f4
  generalize hw5 : ((((w4.setCell ⟨w.heap.size, 0, none⟩ _).setCell ⟨w.heap.size, 1, none⟩ _).setCell ⟨w.heap.size, 2, none⟩ _).setCell ⟨w.heap.size, 3, none⟩ _).setCell ⟨w.heap.size, 4, none⟩ _ = w5 at *
  have e0 := Lib.cell_of_heap hst 0
  have e1 := Lib.cell_of_heap hst 1
  have e2 := Lib.cell_of_heap hst 2
  have e3 := Lib.cell_of_heap hst 3
  have e4 := Lib.cell_of_heap hst 4
  simp only [List.getElem?_toArray] at e0 e1 e2 e3 e4
  refine bodyPost_ret (v := .tuple #[.agg #[x0, x1, x2, x3, x4], .int .i64 (partsJ t).2]) (by simp [results, Tryz.results37, go_sem, e0, e1, e2, e3, e4]) rfl ?_
  refine ⟨hbx, _, rfl, pa, pc, ga, gc, ?_, hr1, hr2⟩
  rw [hx0, hx1, hx2, hx3, hx4]
end Go.Proofs.YtfdijcdpmgkdkaaGreatDoor
set_option linter.unusedVariables false
namespace Go.Proofs.YtfdijcdpmgkdkaaGreatDoor
open Go.RowKit

theorem ver_no {t key : List UInt8} (h : (partsJ t).2 ≠ 0) : verifyJ t key = (JP.no, (partsJ t).2) := by unfold verifyJ; rw [if_pos h]
theorem ver_short {t key : List UInt8} (h : (partsJ t).2 = 0) (hk : key.length < 16) : verifyJ t key = (JP.no, 41) := by unfold verifyJ; rw [if_neg (by simp [h]), if_pos hk]
theorem ver_tag {t key : List UInt8} (h : (partsJ t).2 = 0) (hk : ¬ key.length < 16) (hg : ((partsJ t).1.tag == mac key (partsJ t).1.sig) = false) : verifyJ t key = (JP.no, 40) := by unfold verifyJ; rw [if_neg (by simp [h]), if_neg hk, if_pos (by simpa using hg)]
theorem ver_yes {t key : List UInt8} (h : (partsJ t).2 = 0) (hk : ¬ key.length < 16) (hg : ((partsJ t).1.tag == mac key (partsJ t).1.sig) = true) : verifyJ t key = ((partsJ t).1, 0) := by unfold verifyJ; rw [if_neg (by simp [h]), if_neg hk, if_neg (by simpa using hg)]
theorem parts_sig_len (t : List UInt8) : (partsJ t).1.sig.length ≤ 100000 ∧ (partsJ t).1.tag.length ≤ 32 := by
  unfold partsJ
  split
  · simp [JP.no]
  next hl =>
  split
  · next a b c e =>
    split
    · next h p g h1 h2 h3 =>
      split
      · simp [JP.no]
      next hq =>
      split
      · simp [JP.no]
      have ha := partsL_sum 46 t a (by rw [e]; simp)
      have hb := partsL_sum 46 t b (by rw [e]; simp)
      refine ⟨?_, ?_⟩
      · simp only [List.length_append, List.length_cons]
        omega
      · show g.length ≤ 32
        have := fun h => hq (.inr (.inr (.inr h)))
        omega
    · simp [JP.no]
  · simp [JP.no]
set_option maxRecDepth 100000 in
set_option maxHeartbeats 32000000 in
theorem jwsVerify_any (t key : List UInt8) (ak : Option Addr) (ck : Nat) (m : Int) (w : World) (hm : w.cell? ⟨3, 0, none⟩ = some (.int .i64 m)) (hl : t.length ≤ 1000000) (hk : Rd w ak key) (hkl : key.length ≤ 800000) :
    Calls Tryz.prog 35 #[.string ⟨t.toArray⟩, .slice ak key.length ck] w fun e w' => Below w.heap.size w w' ∧ ∃ v, e = .returned (.tuple #[v, .int .i64 (verifyJ t key).2]) ∧ PartsAre (verifyJ t key).1 v w' := by
  have hml := World.block_lt_of_cell? _ _ hm
  have HK := Lib.hid hk
  clear hk
  go_enter Tryz.func35, Tryz.ntmps35
  go_upto_region 1 with (fail)
  have hb1 : Below w.heap.size w (w.alloc (.cells #[.string ⟨#[]⟩, .string ⟨#[]⟩, .slice none 0 0, .string ⟨#[]⟩, .slice none 0 0] 66)) := (Below.refl _ _).alloc (Nat.le_refl _) _
  have hg1 := heap_alloc_new w (.cells #[.string ⟨#[]⟩, .string ⟨#[]⟩, .slice none 0 0, .string ⟨#[]⟩, .slice none 0 0] 66)
  generalize w.alloc _ = w1 at *
  have HB1 := Lib.hid hb1
  have HK1 := Lib.hid (HK.out.below hb1)
  have HG1 : Hid (w1.heap[w.heap.size]? = some (.cells ZP 66 (0, 0))) := Lib.hid hg1
  have hs1 : w.heap.size < w1.heap.size := (Array.getElem?_eq_some_iff.1 hg1).1
  have HW := Lib.hid (jwsParse_any t m w1 ((hb1.cell hml).trans hm) hl)
  clear hb1 hg1 hm HK
  have HV0 := Lib.hid (@ver_no t key)
  have HV1 := Lib.hid (@ver_short t key)
  have HV2 := Lib.hid (@ver_tag t key)
  have HV3 := Lib.hid (@ver_yes t key)
  obtain ⟨hsl, hgl⟩ := parts_sig_len t
  generalize hpj : partsJ t = J at *
  obtain ⟨⟨K, T, P, G, A⟩, E⟩ := J
  change G.length ≤ 100000 at hsl
  change A.length ≤ 32 at hgl
  clear hpj
  go_wp2_with fail
  refine HW.out.mono ?_
  rintro e w4 ⟨hb4, v, rfl, pa, pc, ga, gc, rfl, hr1, hr2⟩
  have HB4 := Lib.hid (HB1.out.trans (hb4.mono HB1.out.size))
  have HG4 := Lib.hid ((hb4.block _ hs1).trans HG1.out)
  have HK4 := Lib.hid (HK1.out.below hb4)
  have HR1 : Hid (Rd w4 pa P) := Lib.hid hr1
  have HR2 : Hid (Rd w4 ga A) := Lib.hid hr2
  have hs4 : w.heap.size < w4.heap.size := Nat.lt_of_lt_of_le hs1 hb4.size
  clear hb4 hr1 hr2 HW HG1 HK1
  go_upto_region 2 with (fail)
  generalize hw5 : w4.alloc _ = w5
  obtain ⟨pb, hpb⟩ : ∃ pb, w4.heap.size = pb := ⟨_, rfl⟩
  have hb5 : Below w4.heap.size w4 w5 := by rw [← hw5]; exact (Below.refl _ _).alloc (Nat.le_refl _) _
  have hx5 : w5.heap[pb]? = some (.cells #[.string ⟨K.toArray⟩, .string ⟨T.toArray⟩, .slice pa P.length pc, .string ⟨G.toArray⟩, .slice ga A.length gc] 66 (0, 0)) := by rw [← hw5, ← hpb]; exact heap_alloc_new _ _
  have HB5 := Lib.hid (HB4.out.trans (hb5.mono HB4.out.size))
  have HG5 := Lib.hid ((hb5.block _ hs4).trans HG4.out)
  have HK5 := Lib.hid (HK4.out.below hb5)
  have HP5 := Lib.hid (HR1.out.below hb5)
  have HA5 := Lib.hid (HR2.out.below hb5)
  have HX5 := Lib.hid hx5
  have hpl : pb < w5.heap.size := (Array.getElem?_eq_some_iff.1 hx5).1
  rw [hpb]
  have hs5 : w.heap.size < w5.heap.size := Nat.lt_of_lt_of_le hs4 hb5.size
  clear hw5 hb5 hx5 HB4 HG4 HK4 HR1 HR2
  obtain ⟨c0, c1, c2, c3, c4⟩ := five_at HG5.out (Below.refl w5.heap.size w5) hs5
  have f0 := Lib.frozen_of_heap HG5.out 0
  have f1 := Lib.frozen_of_heap HG5.out 1
  have f2 := Lib.frozen_of_heap HG5.out 2
  have f3 := Lib.frozen_of_heap HG5.out 3
  have f4 := Lib.frozen_of_heap HG5.out 4
  by_cases hE : E = 0
  case neg =>
    have hv := HV0.out hE
    have hEB : (E != 0) = true := by simp [hE]
    have HV := Lib.hid hv
    clear hv
    go_wp2_with fail
    have hst := five_stored HG5.out (.string ⟨#[]⟩) (.string ⟨#[]⟩) (.slice none 0 0) (.string ⟨#[]⟩) (.slice none 0 0)
    have hbx := below_five HB5.out (Nat.le_refl _) (.string ⟨#[]⟩) (.string ⟨#[]⟩) (.slice none 0 0) (.string ⟨#[]⟩) (.slice none 0 0)
    clear c0 c1 c2 c3 c4 f0 f1 f2 f3 f4
    generalize hw6 : ((((w5.setCell ⟨w.heap.size, 0, none⟩ _).setCell ⟨w.heap.size, 1, none⟩ _).setCell ⟨w.heap.size, 2, none⟩ _).setCell ⟨w.heap.size, 3, none⟩ _).setCell ⟨w.heap.size, 4, none⟩ _ = w6 at *
    have e0 := Lib.cell_of_heap hst 0
    have e1 := Lib.cell_of_heap hst 1
    have e2 := Lib.cell_of_heap hst 2
    have e3 := Lib.cell_of_heap hst 3
    have e4 := Lib.cell_of_heap hst 4
    simp only [List.getElem?_toArray] at e0 e1 e2 e3 e4
    refine bodyPost_ret (v := .tuple #[.agg ZP, .int .i64 E]) (by simp [ZP, results, Tryz.results35, go_sem, e0, e1, e2, e3, e4]) rfl ?_
    refine ⟨hbx, ?_⟩
    rw [HV.out]
    exact ⟨_, rfl, no_parts _⟩
  subst hE
  by_cases hk16 : key.length < 16
  · have hv := HV1.out rfl hk16
    have hI : (key.length : Int) < 16 := by omega
    have HV := Lib.hid hv
    clear hv
    go_wp2_with fail
    have hst := five_stored HG5.out (.string ⟨#[]⟩) (.string ⟨#[]⟩) (.slice none 0 0) (.string ⟨#[]⟩) (.slice none 0 0)
    have hbx := below_five HB5.out (Nat.le_refl _) (.string ⟨#[]⟩) (.string ⟨#[]⟩) (.slice none 0 0) (.string ⟨#[]⟩) (.slice none 0 0)
    clear c0 c1 c2 c3 c4 f0 f1 f2 f3 f4
    generalize hw6 : ((((w5.setCell ⟨w.heap.size, 0, none⟩ _).setCell ⟨w.heap.size, 1, none⟩ _).setCell ⟨w.heap.size, 2, none⟩ _).setCell ⟨w.heap.size, 3, none⟩ _).setCell ⟨w.heap.size, 4, none⟩ _ = w6 at *
    have e0 := Lib.cell_of_heap hst 0
    have e1 := Lib.cell_of_heap hst 1
    have e2 := Lib.cell_of_heap hst 2
    have e3 := Lib.cell_of_heap hst 3
    have e4 := Lib.cell_of_heap hst 4
    simp only [List.getElem?_toArray] at e0 e1 e2 e3 e4
    refine bodyPost_ret (v := .tuple #[.agg ZP, .int .i64 41]) (by simp [ZP, results, Tryz.results35, go_sem, e0, e1, e2, e3, e4]) rfl ?_
    refine ⟨hbx, ?_⟩
    rw [HV.out]
    exact ⟨_, rfl, no_parts _⟩
  have hI : ¬ (key.length : Int) < 16 := by omega
  obtain ⟨r, hr⟩ : ∃ r, (A == mac key G) = r := ⟨_, rfl⟩
  have HRr := Lib.hid hr
  have hI16 := Lib.hid hk16
  clear hk16
  clear hr c0 c1 c2 c3 c4 f0 f1 f2 f3 f4
  go_upto_region 6 with (fail)
  refine wp_region_grow (by kernel_rfl) (by kernel_rfl) [24, 25, 26, 27, 28, 29, 30, 31, 32, 33, 23] rfl (by decide) (by kernel_rfl) (fun iX => [VIs (.pointer (some ⟨pb, 4, none⟩)), VIs (.slice ga A.length gc), VIs (.slice ak key.length ck), VIs (.pointer (some ⟨pb, 3, none⟩)), VIs (.string ⟨G.toArray⟩), VBytes G, VParts [G], VBytes (mac key G), VIs (.bool r), VIs (.bool (!r)), VIs (.bool (!r))].getD iX fun _ _ => True) (stab_list _ ?_) ?_ ?_
  · skip
    intro V hV
    simp only [List.mem_cons, List.mem_nil_iff, or_false] at hV
    rcases hV with rfl | rfl | rfl | rfl | rfl | rfl | rfl | rfl | rfl | rfl | rfl <;> first | exact VIs.stab _ | exact VBytes.stab _ | exact VStr.stab _ | exact VParts.stab _ | exact VRow.stab _ | exact VRow8.stab _ _ | exact VRowIs.stab _ _ _
  · intro iX o ho a' w' hf hb hd
    rcases iX with _ | _ | _ | _ | _ | _ | _ | _ | _ | _ | _ | iX
    · cases ho
      refine grow_op rfl rfl rfl ?_
      have f6 : a'.tmps.getD 6 undef = .pointer (some ⟨pb, 0, none⟩) := (hf.same 6 (by decide)).trans rfl
      refine grow_value (v := .pointer (some ⟨pb, 4, none⟩)) (w' := w') ?_ rfl (Below.refl _ _)
      simp only [execOp, Act.eval]
      go_simp
    · cases ho
      refine grow_op rfl rfl rfl ?_
      have e0 : a'.tmps.getD 24 undef = .pointer (some ⟨pb, 4, none⟩) := hd 0 (by kernel_rfl)
      obtain ⟨x0, x1, x2, x3, x4⟩ := five_at HX5.out hb hpl
      refine grow_value (v := .slice ga A.length gc) (w' := w') ?_ rfl (Below.refl _ _)
      simp only [execOp, Act.eval, e0]
      go_simp
    · cases ho
      refine grow_op rfl rfl rfl (grow_move rfl ?_)
      exact (hf.same 1 (by decide)).trans rfl
    · cases ho
      refine grow_op rfl rfl rfl ?_
      have f6 : a'.tmps.getD 6 undef = .pointer (some ⟨pb, 0, none⟩) := (hf.same 6 (by decide)).trans rfl
      refine grow_value (v := .pointer (some ⟨pb, 3, none⟩)) (w' := w') ?_ rfl (Below.refl _ _)
      simp only [execOp, Act.eval]
      go_simp
    · cases ho
      refine grow_op rfl rfl rfl ?_
      have e3 : a'.tmps.getD 27 undef = .pointer (some ⟨pb, 3, none⟩) := hd 3 (by kernel_rfl)
      obtain ⟨x0, x1, x2, x3, x4⟩ := five_at HX5.out hb hpl
      refine grow_value (v := .string ⟨G.toArray⟩) (w' := w') ?_ rfl (Below.refl _ _)
      simp only [execOp, Act.eval, e3]
      go_simp
    · cases ho
      refine grow_op rfl rfl rfl ?_
      have e : a'.tmps.getD 28 undef = .string ⟨G.toArray⟩ := hd 4 (by kernel_rfl)
      obtain ⟨cc, w4, hcv, hb4, hrd4, -⟩ := bytes_of_str G w'
      refine grow_value (v := .slice (some ⟨w'.heap.size, 0, none⟩) G.length cc) (w' := w4) ?_ ⟨_, _, rfl, hrd4⟩ hb4
      simp only [execOp, Act.eval, e]
      go_simp
    · cases ho
      have e : VBytes G (a'.tmps.getD 29 undef) w' := hd 5 (by kernel_rfl)
      obtain ⟨ad, cd, e1, hr1⟩ := e
      refine grow_op rfl rfl rfl ?_
      exact grow_part rfl e1 hr1
    · cases ho
      have e2 : a'.tmps.getD 26 undef = .slice ak key.length ck := hd 2 (by kernel_rfl)
      refine grow_op rfl rfl rfl ?_
      exact grow_code (M := G) (ps := [G]) (by simp) rfl ⟨ak, ck, e2, HK5.out.below hb⟩ (hd 6 (by kernel_rfl)) hkl (by simp) (by omega)
    · cases ho
      have e1 : a'.tmps.getD 25 undef = .slice ga A.length gc := hd 1 (by kernel_rfl)
      refine grow_op rfl rfl rfl ?_
      exact grow_equal (l := A) (m := mac key G) rfl ⟨ga, gc, e1, HA5.out.below hb⟩ (hd 7 (by kernel_rfl)) (by unfold maxLen; omega) HRr.out
    · cases ho
      refine grow_op rfl rfl rfl ?_
      have e8 : a'.tmps.getD 32 undef = .bool r := hd 8 (by kernel_rfl)
      refine grow_value (v := .bool (!r)) (w' := w') ?_ rfl (Below.refl _ _)
      simp only [execOp, Act.eval, e8]
      go_simp
    · cases ho
      refine grow_op rfl rfl rfl (grow_assign rfl ?_)
      exact hd 9 (by kernel_rfl)
    · simp at ho
  · intro a' w' hf hb hd
    obtain ⟨x29, z29, hv29, -⟩ := hd 5 (by decide)
    obtain ⟨x30, z30, hv30, -⟩ := hd 6 (by decide)
    obtain ⟨x31, z31, hv31, -⟩ := hd 7 (by decide)
    have hv32 := hd 8 (by decide)
    have hv33 := hd 9 (by decide)
    have hv23 := hd 10 (by decide)
    obtain rfl := hf.eq [Value.pointer (some ⟨pb, 4, none⟩), Value.slice ga A.length gc, Value.slice ak key.length ck, Value.pointer (some ⟨pb, 3, none⟩), Value.string ⟨G.toArray⟩, Value.slice x29 G.length z29, Value.slice x30 1 z30, Value.slice x31 (mac key G).length z31, Value.bool r, Value.bool (!r), Value.bool (!r)] (fun j hj => match j, hj with
      | 0, _ => hd 0 (by decide)
      | 1, _ => hd 1 (by decide)
      | 2, _ => hd 2 (by decide)
      | 3, _ => hd 3 (by decide)
      | 4, _ => hd 4 (by decide)
      | 5, _ => hv29
      | 6, _ => hv30
      | 7, _ => hv31
      | 8, _ => hv32
      | 9, _ => hv33
      | 10, _ => hv23
      | k + 11, h => absurd h (by simp)) (by decide) (by kernel_rfl) rfl
    simp only [List.zip_cons_cons, List.zip_nil_right, List.foldl_cons, List.foldl_nil, Act.put, List.setIfInBounds_toArray, List.set_cons_succ, List.set_cons_zero]
    obtain ⟨w6, rfl⟩ : ∃ x : World, x = w' := ⟨_, rfl⟩
    have hs6 := hb.size
    have HB6 := Lib.hid (HB5.out.trans (hb.mono HB5.out.size))
    have HG6 := Lib.hid ((hb.block _ hs5).trans HG5.out)
    have HX6 := Lib.hid ((hb.block _ hpl).trans HX5.out)
    have HP6 := Lib.hid (HP5.out.below hb)
    have HA6 := Lib.hid (HA5.out.below hb)
    have hpl6 : pb < w6.heap.size := by omega
    have hs7 : w.heap.size < w6.heap.size := by omega
    clear hd hf hb HB5 HG5 HX5 HP5 HA5 HK5 hv29 hv30 hv31 hv32 hv33 hv23
    generalize (mac key G).length = n31
    obtain ⟨c0, c1, c2, c3, c4⟩ := five_at HG6.out (Below.refl w6.heap.size w6) hs7
    obtain ⟨p0, p1, p2, p3, p4⟩ := five_at HX6.out (Below.refl w6.heap.size w6) hpl6
    have f0 := Lib.frozen_of_heap HG6.out 0
    have f1 := Lib.frozen_of_heap HG6.out 1
    have f2 := Lib.frozen_of_heap HG6.out 2
    have f3 := Lib.frozen_of_heap HG6.out 3
    have f4 := Lib.frozen_of_heap HG6.out 4
    cases r with
    | false =>
      have hv := HV2.out rfl hI16.out HRr.out
      have HV := Lib.hid hv
      clear hv
      go_wp2_with fail
      have hst := five_stored HG6.out (.string ⟨#[]⟩) (.string ⟨#[]⟩) (.slice none 0 0) (.string ⟨#[]⟩) (.slice none 0 0)
      have hbx := below_five HB6.out (Nat.le_refl _) (.string ⟨#[]⟩) (.string ⟨#[]⟩) (.slice none 0 0) (.string ⟨#[]⟩) (.slice none 0 0)
      clear c0 c1 c2 c3 c4 f0 f1 f2 f3 f4
      generalize hw7 : ((((w6.setCell ⟨w.heap.size, 0, none⟩ _).setCell ⟨w.heap.size, 1, none⟩ _).setCell ⟨w.heap.size, 2, none⟩ _).setCell ⟨w.heap.size, 3, none⟩ _).setCell ⟨w.heap.size, 4, none⟩ _ = w7 at *
      have e0 := Lib.cell_of_heap hst 0
      have e1 := Lib.cell_of_heap hst 1
      have e2 := Lib.cell_of_heap hst 2
      have e3 := Lib.cell_of_heap hst 3
      have e4 := Lib.cell_of_heap hst 4
      simp only [List.getElem?_toArray] at e0 e1 e2 e3 e4
      refine bodyPost_ret (v := .tuple #[.agg ZP, .int .i64 40]) (by simp [ZP, results, Tryz.results35, go_sem, e0, e1, e2, e3, e4]) rfl ?_
      refine ⟨hbx, ?_⟩
      rw [HV.out]
      exact ⟨_, rfl, no_parts _⟩
    | true =>
      have hv := HV3.out rfl hI16.out HRr.out
      have HV := Lib.hid hv
      clear hv
      go_wp2_with fail
      obtain ⟨x0, hx0⟩ : ∃ x, (Value.string ⟨K.toArray⟩) = x := ⟨_, rfl⟩
      obtain ⟨x1, hx1⟩ : ∃ x, (Value.string ⟨T.toArray⟩) = x := ⟨_, rfl⟩
      obtain ⟨x2, hx2⟩ : ∃ x, (Value.slice pa P.length pc) = x := ⟨_, rfl⟩
      obtain ⟨x3, hx3⟩ : ∃ x, (Value.string ⟨G.toArray⟩) = x := ⟨_, rfl⟩
      obtain ⟨x4, hx4⟩ : ∃ x, (Value.slice ga A.length gc) = x := ⟨_, rfl⟩
      rw [hx0, hx1, hx2, hx3, hx4]
      have hst := five_stored HG6.out x0 x1 x2 x3 x4
      have hbx := below_five HB6.out (Nat.le_refl _) x0 x1 x2 x3 x4
      have hr1 := rd_five HG6.out HP6.out x0 x1 x2 x3 x4
      have hr2 := rd_five HG6.out HA6.out x0 x1 x2 x3 x4
      clear c0 c1 c2 c3 c4 f0 f1 f2 f3 f4 p0 p1 p2 p3 p4
      generalize hw7 : ((((w6.setCell ⟨w.heap.size, 0, none⟩ _).setCell ⟨w.heap.size, 1, none⟩ _).setCell ⟨w.heap.size, 2, none⟩ _).setCell ⟨w.heap.size, 3, none⟩ _).setCell ⟨w.heap.size, 4, none⟩ _ = w7 at *
      have e0 := Lib.cell_of_heap hst 0
      have e1 := Lib.cell_of_heap hst 1
      have e2 := Lib.cell_of_heap hst 2
      have e3 := Lib.cell_of_heap hst 3
      have e4 := Lib.cell_of_heap hst 4
      simp only [List.getElem?_toArray] at e0 e1 e2 e3 e4
      refine bodyPost_ret (v := .tuple #[.agg #[x0, x1, x2, x3, x4], .int .i64 0]) (by simp [results, Tryz.results35, go_sem, e0, e1, e2, e3, e4]) rfl ?_
      refine ⟨hbx, ?_⟩
      rw [HV.out]
      refine ⟨_, rfl, pa, pc, ga, gc, ?_, hr1, hr2⟩
      rw [← hx0, ← hx1, ← hx2, ← hx3, ← hx4]
end Go.Proofs.YtfdijcdpmgkdkaaGreatDoor
set_option linter.unusedVariables false
namespace Go.Proofs.YtfdijcdpmgkdkaaGreatDoor
open Go.RowKit

end Go.Proofs.YtfdijcdpmgkdkaaGreatDoor
set_option linter.unusedVariables false
namespace Go.Proofs.YtfdijcdpmgkdkaaGreatDoor
open Go.RowKit

end Go.Proofs.YtfdijcdpmgkdkaaGreatDoor
set_option linter.unusedVariables false
namespace Go.Proofs.YtfdijcdpmgkdkaaGreatDoor

/-- What the reference's number answers. -/
def numI (x : UInt8) : Int := match num64 x with | none => -1 | some k => k
def numCh (c : Nat) : Int := if 65 ≤ c ∧ c ≤ 90 then c - 65 else if 97 ≤ c ∧ c ≤ 122 then c - 71 else if 48 ≤ c ∧ c ≤ 57 then c + 4 else if c = 45 then 62 else if c = 95 then 63 else -1
theorem numI_all : ∀ n, n < 256 → numI (UInt8.ofNat n) = numCh n := by decide +kernel
theorem numI_eq (x : UInt8) : numI x = numCh x.toNat := by
  have := numI_all x.toNat x.toNat_lt
  simpa using this
theorem numI_cases (x : UInt8) : (num64 x = none ∧ numI x = -1) ∨ ∃ k : Nat, num64 x = some k ∧ numI x = k ∧ k < 64 := by
  unfold numI
  cases h : num64 x with
  | none => exact .inl ⟨rfl, rfl⟩
  | some k => exact .inr ⟨k, rfl, rfl, (num64_some x k h).1⟩

/-- The number of up to four letters, after t rounds. -/
def gv (t : Nat) (ms : List Nat) : Nat := ms.foldl (fun a x => a * 64 + x) 0 * 64 ^ (t - ms.length)
theorem gv_more (t : Nat) (ms : List Nat) (x : Nat) (h : ms.length = t) : gv (t + 1) (ms ++ [x]) = gv t ms * 64 + x := by
  simp [gv, h]
theorem gv_skip (t : Nat) (ms : List Nat) (h : ms.length ≤ t) : gv (t + 1) ms = gv t ms * 64 := by
  unfold gv
  rw [show t + 1 - ms.length = (t - ms.length) + 1 by omega, Nat.pow_succ, Nat.mul_assoc]
theorem fold64_lt (ms : List Nat) : ∀ a, (∀ x ∈ ms, x < 64) → ms.foldl (fun a x => a * 64 + x) a < (a + 1) * 64 ^ ms.length := by
  induction ms with
  | nil => intro a _; simp
  | cons x l ih =>
    intro a h
    have h1 := ih (a * 64 + x) (fun y hy => h y (by simp [hy]))
    have hx := h x (by simp)
    simp only [List.foldl_cons, List.length_cons]
    calc _ < (a * 64 + x + 1) * 64 ^ l.length := h1
      _ ≤ ((a + 1) * 64) * 64 ^ l.length := Nat.mul_le_mul_right _ (by omega)
      _ = (a + 1) * 64 ^ (l.length + 1) := by rw [Nat.pow_succ, Nat.mul_assoc, Nat.mul_comm 64]
theorem gv_lt (t : Nat) (ms : List Nat) (h : ms.length ≤ t) (hm : ∀ x ∈ ms, x < 64) : gv t ms < 64 ^ t := by
  unfold gv
  have h1 := fold64_lt ms 0 hm
  calc _ < (0 + 1) * 64 ^ ms.length * 64 ^ (t - ms.length) := Nat.mul_lt_mul_of_pos_right h1 (Nat.pow_pos (by decide))
    _ = 64 ^ t := by rw [Nat.zero_add, Nat.one_mul, ← Nat.pow_add]; congr 1; omega

/-- The three bytes of a number of 24 bits. -/
def three (n : Nat) : List Nat := [n / 65536, n / 256 % 256, n % 256]
theorem dec4_grp (ms : List Nat) (h64 : ∀ x ∈ ms, x < 64) (h2 : 2 ≤ ms.length) (h4 : ms.length ≤ 4) :
    dec4 ms = if (∀ x ∈ (three (gv 4 ms)).drop (ms.length - 1), x = 0) then some (((three (gv 4 ms)).take (ms.length - 1)).map byt) else none := by
  match ms, h2, h4 with
  | [a, b], _, _ =>
    have ha : a < 64 := h64 a (by simp)
    have hb : b < 64 := h64 b (by simp)
    have e0 : gv 4 [a, b] = (a * 64 + b) * 4096 := by simp [gv]
    have e1 : (a * 64 + b) * 4096 / 65536 = a * 4 + b / 16 := by omega
    have e2 : (a * 64 + b) * 4096 / 256 % 256 = b % 16 * 16 := by omega
    have e3 : (a * 64 + b) * 4096 % 256 = 0 := by omega
    rw [e0]
    simp only [dec4, three, e1, e2, e3, List.length_cons, List.length_nil]
    by_cases h : b % 16 = 0
    · simp [h]
    · simp [h]; omega
  | [a, b, c], _, _ =>
    have ha : a < 64 := h64 a (by simp)
    have hb : b < 64 := h64 b (by simp)
    have hc : c < 64 := h64 c (by simp)
    have e0 : gv 4 [a, b, c] = ((a * 64 + b) * 64 + c) * 64 := by simp [gv]
    have e1 : ((a * 64 + b) * 64 + c) * 64 / 65536 = a * 4 + b / 16 := by omega
    have e2 : ((a * 64 + b) * 64 + c) * 64 / 256 % 256 = b % 16 * 16 + c / 4 := by omega
    have e3 : ((a * 64 + b) * 64 + c) * 64 % 256 = c % 4 * 64 := by omega
    rw [e0]
    simp only [dec4, three, e1, e2, e3, List.length_cons, List.length_nil]
    by_cases h : c % 4 = 0
    · simp [h]
    · simp [h]; omega
  | [a, b, c, d], _, _ =>
    have ha : a < 64 := h64 a (by simp)
    have hb : b < 64 := h64 b (by simp)
    have hc : c < 64 := h64 c (by simp)
    have hd : d < 64 := h64 d (by simp)
    have e0 : gv 4 [a, b, c, d] = ((a * 64 + b) * 64 + c) * 64 + d := by simp [gv]
    have e1 : (((a * 64 + b) * 64 + c) * 64 + d) / 65536 = a * 4 + b / 16 := by omega
    have e2 : (((a * 64 + b) * 64 + c) * 64 + d) / 256 % 256 = b % 16 * 16 + c / 4 := by omega
    have e3 : (((a * 64 + b) * 64 + c) * 64 + d) % 256 = c % 4 * 64 + d := by omega
    rw [e0]
    simp [dec4, three, e1, e2, e3]

theorem dec4_app : ∀ (ns rest : List Nat), ns.length % 4 = 0 → dec4 (ns ++ rest) = (dec4 ns).bind fun a => (dec4 rest).map (a ++ ·)
  | [], rest, _ => by cases h : dec4 rest <;> simp [dec4, h]
  | [a], rest, h => by simp at h
  | [a, b], rest, h => by simp at h
  | [a, b, c], rest, h => by simp at h
  | a :: b :: c :: d :: t, rest, h => by
    have := dec4_app t rest (by simp only [List.length_cons] at h; omega)
    simp only [List.cons_append, dec4, this]
    cases dec4 t <;> cases dec4 rest <;> simp

theorem dec_odd (l : List UInt8) (h : l.length % 4 = 1) : dec l = none := by
  rw [dec_eq]
  cases hn : nums l with
  | none => rfl
  | some ns =>
    have hl := nums_len l ns hn
    have : ∀ (ms : List Nat), ms.length % 4 = 1 → dec4 ms = none := by
      intro ms
      fun_induction dec4 ms with
      | case1 a b c d t ih => intro h; simp only [List.length_cons] at h; rw [ih (by omega)]; rfl
      | case2 => intro h; simp at h
      | case3 => intro h; simp at h
      | case4 => intro h; simp at h
      | case5 => intro h; simp at h
      | case6 => intro h; rfl
      | case7 => intro h; simp at h
    exact this ns (by omega)

theorem three_lt (G : Nat) (h : G < 16777216) (q : Nat) (hq : q < 3) : (three G)[q]'hq < 256 := by
  match q, hq with
  | 0, _ => show G / 65536 < 256; omega
  | 1, _ => show G / 256 % 256 < 256; omega
  | 2, _ => show G % 256 < 256; omega
/-- All that stand behind the first ones are noughts, up to the q-th. -/
def Zer (G m q : Nat) : Prop := ∀ i (h : i < 3), i < q → m - 1 ≤ i → (three G)[i]'h = 0
theorem Zer.end {G m : Nat} (h : Zer G m 3) : ∀ x ∈ (three G).drop (m - 1), x = 0 := by
  intro x hx
  obtain ⟨i, hi, rfl⟩ := List.mem_iff_getElem.1 hx
  have h3 : (three G).length = 3 := rfl
  have hi' : m - 1 + i < 3 := by simp only [List.length_drop, h3] at hi; omega
  rw [List.getElem_drop]
  exact h (m - 1 + i) hi' hi' (by omega)
theorem Zer.not {G m q : Nat} (hq : q < 3) (hm : m - 1 ≤ q) (hx : (three G)[q]'hq ≠ 0) : ¬ ∀ x ∈ (three G).drop (m - 1), x = 0 := by
  intro h
  refine hx (h _ (List.mem_iff_getElem.2 ⟨q - (m - 1), ?_, ?_⟩))
  · have h3 : (three G).length = 3 := rfl
    simp only [List.length_drop, h3]; omega
  · rw [List.getElem_drop]; congr 1; omega
end Go.Proofs.YtfdijcdpmgkdkaaGreatDoor

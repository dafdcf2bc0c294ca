/- b64.Encode: what it answers. -/
import Derived.Test.YtgmieceebchmfaaDoorB64a
import Derived.Test.YtgmieceebchmfaaDoorB64p
import Derived.Test.YtgmieceebchmfaaDoorBuild
import Derived.Test.YtgmieceebchmfaaDoorRd
import Derived.Deep.LoopGhost
namespace Go.Proofs.YtgmieceebchmfaaDoor
open Go.RowKit

/-- The accumulator and the builder, s being what they hold. -/
structure EncAt (B : Nat) (w wr : World) (s : List UInt8 × Nat × Nat) : Prop where
  bld : Bld B s.1 wr
  bts : Bts (B + 1) s.2.1 s.2.2 wr
  bel : Below B w wr

theorem push_call (g : Nat) (r c n wd : Nat) (N W : Int) (w : World) (h : Bts g r c w) (hN : N = n) (hW : W = wd) (hw1 : wd ≤ 8) (hc1 : c ≤ 100) (hr : r ≤ 1000000) (hn : n < 2 ^ wd) :
    Calls Tryd.prog 56 #[.pointer (some ⟨g, 0, none⟩), .int .i64 N, .int .i64 W] w fun e w' => e = .returned (.tuple #[]) ∧ Bts g (r * 2 ^ wd + n) (c + wd) w' ∧ But g w w' := by
  subst hN; subst hW
  exact push_any g r c n wd w h hw1 hc1 hr hn

theorem pop_call (g : Nat) (r c wd q : Nat) (W : Int) (w : World) (h : Bts g r c w) (hW : W = wd) (hw1 : wd ≤ 8) (hc1 : c ≤ 20) (hr : r < 2 ^ c) (hlt : wd ≤ c) (hq : r / 2 ^ (c - wd) = q) :
    Calls Tryd.prog 57 #[.pointer (some ⟨g, 0, none⟩), .int .i64 W] w fun e w' => e = .returned (.tuple #[.int .i64 q, .bool true]) ∧ Bts g (r % 2 ^ (c - wd)) (c - wd) w' ∧ But g w w' := by
  subst hW; subst hq
  exact pop_any g r c wd w h hw1 hc1 hr hlt

theorem alpha_at (q : Nat) (h : q < 64) : (((⟨#[65, 66, 67, 68, 69, 70, 71, 72, 73, 74, 75, 76, 77, 78, 79, 80, 81, 82, 83, 84, 85, 86, 87, 88, 89, 90, 97, 98, 99, 100, 101, 102, 103, 104, 105, 106, 107, 108, 109, 110, 111, 112, 113, 114, 115, 116, 117, 118, 119, 120, 121, 122, 48, 49, 50, 51, 52, 53, 54, 55, 56, 57, 45, 95]⟩ : ByteArray)[q]'h).toNat : Int) = ((lt64 q).toNat : Int) := by
  have e : alpha.getD q 0 = alpha[q]'h := by rw [List.getD_eq_getElem?_getD, List.getElem?_eq_getElem (show q < alpha.length from h)]; rfl
  unfold lt64
  simp only [e]
  rfl

theorem alloc2_at (w : World) (x y : Obj) : ((w.alloc x).alloc y).heap[w.heap.size + 1]? = some y := by
  have h := heap_alloc_new (w.alloc x) y
  rw [show (w.alloc x).heap.size = w.heap.size + 1 from by simp] at h
  exact h

theorem Bld.but {b g : Nat} {l : List UInt8} {w w' : World} (h : Bld b l w) (hb : But g w w') (hg : ∃ cs fr, w.heap[g]? = some (.cells cs 88 fr)) : Bld b l w' := by
  obtain ⟨cs, fr, hg⟩ := hg
  have key : ∀ p, Lib.BuilderAtF 52 5 b b p (Lib.byteCells l) w → Lib.BuilderAtF 52 5 b b p (Lib.byteCells l) w' := by
    rintro p ⟨h1, v, h2, h3, h4⟩
    refine ⟨h1, v, ?_, ?_, h4⟩
    · rw [hb.block b (Array.getElem?_eq_some_iff.1 h2).1 ?_]
      · exact h2
      · rintro rfl
        rw [hg] at h2
        simp at h2
    · refine h3.kept (row := some g) ⟨hb.os, hb.tape, hb.output, hb.size, fun k hk hne => hb.block k hk (fun e => hne (by rw [e]))⟩ ?_
      rcases h3.2 with ⟨rfl, _⟩ | ⟨g', cap, cur, fz, rfl, _, hgg, _⟩
      · exact .inl rfl
      · refine .inr ?_
        simp only [Value.ownBlock, ne_eq, Option.some.injEq]
        rintro rfl
        rw [hg] at hgg
        simp at hgg
  exact h.elim (fun x => .inl (key _ x)) (fun x => .inr (key _ x))

theorem but_below {g B : Nat} {a w w' : World} (h : Below B a w) (hb : But g w w') (hg : B ≤ g) (hs : B ≤ w.heap.size) : Below B a w' :=
  h.trans ⟨hb.os, hb.tape, hb.output, hb.size, fun k hk => hb.block k (by omega) (by omega)⟩

theorem EncAt.step {B : Nat} {w wr w' : World} {s : List UInt8 × Nat × Nat} (h : EncAt B w wr s) {r c : Nat} (hB : B ≤ w.heap.size) (hb : Bts (B + 1) r c w') (hk : But (B + 1) wr w') : EncAt B w w' (s.1, r, c) :=
  ⟨h.bld.but hk ⟨_, _, h.bts⟩, hb, but_below h.bel hk (by omega) (Nat.le_trans hB h.bel.size)⟩

theorem EncAt.write {B : Nat} {w wr w' : World} {o o' : List UInt8} {r c : Nat} (h : EncAt B w wr (o, r, c)) (hb : Bld B o' w') (hk : Below B wr w') (ho : Lib.OthersKept 5 (some B) wr w') : EncAt B w w' (o', r, c) :=
  ⟨hb, ho _ _ h.bts (by simp) (by simp), h.bel.trans hk⟩

set_option maxHeartbeats 1000000 in
theorem Encode_any (a : Option Addr) (l : List UInt8) (cp : Nat) (w : World) (hr : Rd w a l) (hl : l.length ≤ 1000000) :
    Calls Tryd.prog 40 #[.slice a l.length cp] w fun e w' => e = .returned (.string ⟨(enc l).toArray⟩) ∧ Below w.heap.size w w' := by
  go_enter Tryd.func40, Tryd.ntmps40
  go_wp2
  go_loopg [15] (l.length) (fun k i wr => ∃ j : Nat, j + k = l.length ∧ i = .int .i64 j ∧ EncAt w.heap.size w wr (encAll (l.take j)))
  case atStart =>
    refine ⟨0, by omega, rfl, ?_⟩
    refine ⟨(Bld.fresh w).alloc _, ?_, ((Below.refl _ _).alloc (Nat.le_refl _) _).alloc (by simp) _⟩
    exact alloc2_at w _ _
  case round =>
    obtain ⟨gO, rfl⟩ : ∃ x : Nat, x = gk := ⟨_, rfl⟩
    obtain ⟨j, hj, rfl, hE⟩ := hrel
    by_cases hlt : j < l.length
    · obtain ⟨b, off, rfl, hc⟩ := hr.at hlt
      have hcj := cell_now hE.bel (hc j hlt)
      have hA := encAll_acc (l.take j)
      have hS := encAll_snoc (l.take j) l[j]
      rw [← take_snoc8 l j hlt] at hS
      have HS := Lib.hid hS
      clear hc hr hS
      have hx : l[j].toNat < 2 ^ 8 := l[j].toNat_lt
      obtain ⟨o, r, c, hs⟩ : ∃ o r c, encAll (l.take j) = (o, r, c) := ⟨_, _, _, rfl⟩
      rw [hs] at hE hA
      have HE := Lib.hid hs
      clear hs
      obtain ⟨hA1, hA2⟩ := hA
      have HO : o.length + 3 < 4000000 := by have := encAll_len (l.take j); rw [HE.out] at this; have h2 : (l.take j).length ≤ l.length := List.length_take_le' _ _; simp only at this; omega
      have hA1' : c < 6 := hA1
      have h26 : 2 ^ c ≤ 2 ^ 6 := Nat.pow_le_pow_right (by decide) (by omega)
      have hr64 : r < 64 := Nat.lt_of_lt_of_le hA2 h26
      clear h26
      go_wp2_with fail
      refine (push_call _ r c l[j].toNat 8 _ _ _ hE.bts (by first | rfl | (unfold wrap64; omega)) rfl (by omega) (by omega) (by omega) hx).mono ?_
      rintro e w1 ⟨rfl, hb1, hk1⟩
      have hE1 := hE.step (Nat.le_refl _) hb1 hk1
      have hend : pop6 3 o (r * 2 ^ 8 + l[j].toNat) (c + 8) = encAll (l.take (j + 1)) := by
        rw [HS.out, HE.out]; rfl
      have hrx : r * 2 ^ 8 + l[j].toNat < 2 ^ (c + 8) := by
        have : r + 1 ≤ 2 ^ c := hA2
        have := Nat.mul_le_mul_right (2 ^ 8) this
        rw [Nat.pow_add]; omega
      have HEND := Lib.hid (And.intro hend hrx)
      clear hend hrx hE hb1
      go_wp2
      go_loopg [] 3 (fun k wq => ∃ (o' : List UInt8) (r' c' : Nat), c' < 14 ∧ c' < 6 + 6 * k ∧ o'.length + k < 4000000 ∧ r' < 2 ^ c' ∧ Hid (pop6 k o' r' c' = encAll (l.take (j + 1))) ∧ EncAt w.heap.size w wq (o', r', c'))
      case atStart =>
        exact ⟨o, _, _, by omega, by omega, HO, HEND.out.2, HEND.out.1, hE1⟩
      case round =>
        obtain ⟨o', r', c', hc1, hc2, hol, hr2, hfin, hE2⟩ := hrel
        by_cases h6 : c' < 6
        · go_wp2_with fail
          refine (pop_none _ r' c' 6 _ hE2.bts h6).mono ?_
          rintro e w2 ⟨rfl, rfl⟩
          go_wp2
          go_roundg (gO - 1)
          case measure => omega
          case rel =>
            refine ⟨j + 1, by omega, by go_num, ?_⟩
            have e1 : (o', r', c') = encAll (l.take (j + 1)) := by
              rw [← hfin.out]
              cases k2 : gk with
              | zero => rfl
              | succ m => unfold pop6; rw [if_pos h6]
            rw [← e1]
            exact hE2
        · obtain ⟨m, rfl⟩ : ∃ m, gk = m + 1 := ⟨gk - 1, by omega⟩
          have hfin2 : pop6 m (o' ++ [lt64 (r' / 2 ^ (c' - 6))]) (r' % 2 ^ (c' - 6)) (c' - 6) = encAll (l.take (j + 1)) := by
            have := hfin.out
            unfold pop6 at this
            rw [if_neg h6] at this
            exact this
          have hmod : r' % 2 ^ (c' - 6) < 2 ^ (c' - 6) := Nat.mod_lt _ (Nat.two_pow_pos _)
          have hq64 : r' / 2 ^ (c' - 6) < 64 := by
            rw [Nat.div_lt_iff_lt_mul (Nat.two_pow_pos _)]
            calc r' < 2 ^ c' := hr2
              _ = 2 ^ (6 + (c' - 6)) := by congr 1; omega
              _ = 64 * 2 ^ (c' - 6) := by rw [Nat.pow_add]
          obtain ⟨q, hq⟩ : ∃ q, r' / 2 ^ (c' - 6) = q := ⟨_, rfl⟩
          rw [hq] at hq64 hfin2
          have HQ := Lib.hid (And.intro hq (And.intro hfin2 hmod))
          clear hq hfin2 hfin hmod
          go_wp2_with fail
          refine (pop_call _ r' c' 6 q _ _ hE2.bts rfl (by omega) (by omega) hr2 (by omega) HQ.out.1).mono ?_
          rintro e w2 ⟨rfl, hb2, hk2⟩
          have hE3 := hE2.step (Nat.le_refl _) hb2 hk2
          clear hE2 hb2
          go_wp2_with fail
          refine (WriteByte_any _ o' _ (lt64 q) (alpha_at q hq64) _ hE3.bld (by omega)).mono ?_
          rintro e w3 ⟨rfl, hb3, hk3, ho3⟩
          have hE4 := hE3.write hb3 hk3 ho3
          go_wp2
          go_roundg m
          case measure => omega
          case rel => exact ⟨_, _, _, by omega, by omega, by simp; omega, HQ.out.2.2, HQ.out.2.1, hE4⟩
    · have hall : l.take j = l := List.take_of_length_le (by omega)
      rw [hall] at hE
      have hA := encAll_acc l
      have hlen := encAll_len l
      obtain ⟨o, r, c, hs⟩ : ∃ o r c, encAll l = (o, r, c) := ⟨_, _, _, rfl⟩
      rw [hs] at hE hA hlen
      have HS := Lib.hid hs
      clear hs hall
      obtain ⟨hA1, hA2⟩ := hA
      simp only at hA1 hA2 hlen
      have h26 : 2 ^ c ≤ 2 ^ 6 := Nat.pow_le_pow_right (by decide) (by omega)
      have hr64 : r < 64 := Nat.lt_of_lt_of_le hA2 h26
      clear h26
      have hc1 : wr.cell? ⟨w.heap.size + 1, 1, none⟩ = some (.int .i64 c) := by rw [Lib.cell_of_heap hE.bts]; rfl
      by_cases h0 : c = 0
      · subst h0
        have hc2 : wr.cell? ⟨w.heap.size + 1, 1, none⟩ = some (.int .i64 0) := hc1
        clear hc1
        go_wp2_with fail
        refine (BString_any _ o _ hE.bld).mono ?_
        rintro e w2 ⟨rfl, hb2, hk2, _⟩
        go_wp2
        go_ret
        refine ⟨?_, hE.bel.trans hk2⟩
        unfold enc encEnd
        rw [HS.out, if_pos rfl]
        rfl
      · have hpos : 0 < c := by omega
        go_wp2_with fail
        refine (push_call _ r c 0 (6 - c) _ _ _ hE.bts rfl (by omega) (by omega) (by omega) (by omega) (Nat.two_pow_pos _)).mono ?_
        rintro e w2 ⟨rfl, hb2, hk2⟩
        have hE2 := hE.step (Nat.le_refl _) hb2 hk2
        have h6 : c + (6 - c) = 6 := by omega
        rw [h6] at hb2 hE2
        have hr6 : r * 2 ^ (6 - c) + 0 < 2 ^ 6 := by
          have h1 : r + 1 ≤ 2 ^ c := hA2
          have h2 := Nat.mul_le_mul_right (2 ^ (6 - c)) h1
          rw [← Nat.pow_add, h6] at h2
          have h3 : 0 < 2 ^ (6 - c) := Nat.two_pow_pos _
          rw [Nat.add_mul] at h2
          omega
        obtain ⟨q, hq⟩ : ∃ q, r * 2 ^ (6 - c) + 0 = q := ⟨_, rfl⟩
        rw [hq] at hr6 hb2 hE2
        have HQ := Lib.hid hq
        have H6 := Lib.hid h6
        clear hq h6 hE hc1
        go_wp2_with fail
        refine (pop_call _ q 6 6 q _ _ hb2 rfl (by omega) (by omega) hr6 (by omega) (by simp)).mono ?_
        rintro e w3 ⟨rfl, hb3, hk3⟩
        have hE3 := hE2.step (Nat.le_refl _) hb3 hk3
        have hq64 : q < 64 := hr6
        clear hb2 hE2 hb3
        go_wp2_with fail
        refine (WriteByte_any _ o _ (lt64 q) (alpha_at q hq64) _ hE3.bld (by omega)).mono ?_
        rintro e w4 ⟨rfl, hb4, hk4, ho4⟩
        have hE4 := hE3.write hb4 hk4 ho4
        go_wp2_with fail
        refine (BString_any _ _ _ hE4.bld).mono ?_
        rintro e w5 ⟨rfl, hb5, hk5, _⟩
        go_wp2
        go_ret
        have henc : enc l = o ++ [lt64 q] := by
          unfold enc encEnd
          rw [HS.out, if_neg h0, ← HQ.out, Nat.add_zero]
        refine ⟨?_, hE4.bel.trans hk5⟩
        rw [henc]
        rfl
theorem Encode_at (a : Option Addr) (l : List UInt8) (n cp : Nat) (w : World) (hr : Rd w a l) (hn : n = l.length) (hl : l.length ≤ 1000000) :
    Calls Tryd.prog 40 #[.slice a n cp] w fun e w' => e = .returned (.string ⟨(enc l).toArray⟩) ∧ Below w.heap.size w w' := by
  subst hn
  exact Encode_any a l cp w hr hl
end Go.Proofs.YtgmieceebchmfaaDoor

/- b64.Decode: what it answers. -/
import Derived.Test.YtgmieceebchmfaaDoorB64b
import Derived.Test.YtgmieceebchmfaaDoorB64r
set_option linter.unusedVariables false
namespace Go.Proofs.YtgmieceebchmfaaDoor
open Go.RowKit

theorem Own.but {B g : Nat} {w w' : World} {v : Value} {l : List UInt8} {cs : Array Value} {T : TypeId} {fr : Nat × Nat} (h : Own B w v l) (hb : But g w w') (hg : w.heap[g]? = some (.cells cs T fr)) (hT : T ≠ 5) : Own B w' v l := by
  refine World.ownsRow.kept (row := some g) h ⟨hb.os, hb.tape, hb.output, hb.size, fun k hk hne => hb.block k hk (fun e => hne (by rw [e]))⟩ ?_
  rcases h.2 with ⟨rfl, _⟩ | ⟨g', cap, cur, rfl, _, hgg, _⟩
  · exact .inl rfl
  · refine .inr ?_
    simp only [Value.ownBlock, ne_eq, Option.some.injEq]
    rintro rfl
    rw [hg] at hgg
    simp at hgg
    exact hT hgg.2.1

/-- What Decode answers. -/
def DecRes (B : Nat) (l : List UInt8) (w : World) (e : Ending) (w' : World) : Prop :=
  Below B w w' ∧ ((dec l = none ∧ e = .returned (.tuple #[.slice none 0 0, .int .i64 10])) ∨ ∃ b v, dec l = some b ∧ b.length ≤ l.length ∧ e = .returned (.tuple #[v, .int .i64 0]) ∧ Own B w' v b)

/-- The accumulator and what is decoded. -/
structure DecAt (B : Nat) (w wr : World) (v : Value) (s : List UInt8 × Nat × Nat) : Prop where
  own : Own B wr v s.1
  bts : Bts B s.2.1 s.2.2 wr
  bel : Below B w wr

theorem index_at (s : ByteArray) (j : Nat) (h : j < s.size) : ((s[j]'h).toNat : Int).toNat.toUInt8 = s.data.toList[j]'(by simpa using h) := by
  simp [Nat.toUInt8]
  rfl

set_option maxRecDepth 100000 in
set_option maxHeartbeats 2000000 in
theorem Decode_any (s : ByteArray) (w : World) (hl : s.size ≤ 1000000) :
    Calls Tryd.prog 44 #[.string s] w fun e w' => DecRes w.heap.size s.data.toList w e w' := by
  have hsz : s.data.toList.length = s.size := by simp
  have HSZ := Lib.hid hsz
  clear hsz
  go_enter Tryd.func44, Tryd.ntmps44
  go_wp2
  go_loopg [4, 12] (s.size) (fun k v i wr => ∃ (j : Nat) (ns : List Nat), j + k = s.size ∧ i = .int .i64 j ∧ Hid (nums (s.data.toList.take j) = some ns) ∧ DecAt w.heap.size w wr v (ns.foldl decStep ([], 0, 0)))
  case atStart =>
    exact ⟨0, [], by omega, rfl, Lib.hid rfl, Own.nil _ _, heap_alloc_new w _, (Below.refl _ _).alloc (Nat.le_refl _) _⟩
  case round =>
    obtain ⟨j, ns, hj, rfl, hns, hD⟩ := hrel
    by_cases hlt : j < s.size
    · have hlt2 : j < s.data.toList.length := by rw [HSZ.out]; exact hlt
      have hix := index_at s j hlt
      have HIX := Lib.hid hix
      have hnlt := (nums_some _ ns hns.out).1
      have hacc := dec_foldl_acc ns ([], 0, 0) hnlt ⟨by decide, by decide⟩
      have hflen := dec_foldl_len ns ([], 0, 0)
      have hnl := nums_len _ ns hns.out
      have HF := Lib.hid (And.intro hflen (And.intro hnl (And.intro hnlt hacc)))
      clear hix hnlt hflen hnl hacc
      go_wp2_with fail
      refine (Tryd.strings_IndexByte _ _ _).mono ?_
      rintro e w1 ⟨rfl, rfl⟩
      rw [HIX.out]
      obtain ⟨y, hy⟩ : ∃ y, Lib.indexByte (ByteArray.mk #[65, 66, 67, 68, 69, 70, 71, 72, 73, 74, 75, 76, 77, 78, 79, 80, 81, 82, 83, 84, 85, 86, 87, 88, 89, 90, 97, 98, 99, 100, 101, 102, 103, 104, 105, 106, 107, 108, 109, 110, 111, 112, 113, 114, 115, 116, 117, 118, 119, 120, 121, 122, 48, 49, 50, 51, 52, 53, 54, 55, 56, 57, 45, 95]).data.toList (s.data.toList[j]) = y := ⟨_, rfl⟩
      rw [hy]
      have hy2 : num64 s.data.toList[j] = if y < 0 then none else some y.toNat := by rw [← hy]; rfl
      have HY := Lib.hid hy2
      clear hy hy2
      by_cases hneg : y < 0
      · go_wp2_with fail
        go_ret2
        refine ⟨hD.bel, .inl ⟨dec_none _ j hlt2 ?_, rfl⟩⟩
        rw [HY.out, if_pos hneg]
      · obtain ⟨k, rfl⟩ : ∃ k : Nat, y = k := ⟨y.toNat, by omega⟩
        have hk : num64 s.data.toList[j] = some k := by rw [HY.out, if_neg hneg]; simp
        have hk64 := (num64_some _ k hk).1
        obtain ⟨o, r, c, hs⟩ : ∃ o r c, ns.foldl decStep ([], 0, 0) = (o, r, c) := ⟨_, _, _, rfl⟩
        have hns2 : nums (s.data.toList.take (j + 1)) = some (ns ++ [k]) := by
          rw [List.take_succ_eq_append_getElem hlt2]
          exact nums_snoc _ _ ns k hns.out hk
        have hfold : (ns ++ [k]).foldl decStep ([], 0, 0) = decStep (o, r, c) k := by simp [hs]
        obtain ⟨hflen, hnl, hnlt, hacc⟩ := HF.out
        rw [hs] at hD hacc hflen
        obtain ⟨hacc1, hbnd⟩ := decStep_acc (o, r, c) k hk64 hacc
        obtain ⟨hc8, hr2⟩ := hacc
        have hol : o.length ≤ j := by
          simp only [List.length_nil, List.length_take] at hflen hnl
          omega
        have HK := Lib.hid (And.intro hns2 hfold)
        clear hk HY HF hs hflen hnl hnlt hacc1 hns hns2 hfold
        simp only at hc8 hr2 hbnd
        have h28 : 2 ^ c ≤ 2 ^ 7 := Nat.pow_le_pow_right (by decide) (by omega)
        have hr128 : r < 128 := Nat.lt_of_lt_of_le hr2 h28
        clear h28
        go_wp2_with fail
        refine (push_call _ r c k 6 _ _ _ hD.bts rfl rfl (by omega) (by omega) (by omega) hk64).mono ?_
        rintro e w2 ⟨rfl, hb2, hk2⟩
        have hown2 := hD.own.but hk2 hD.bts (by decide)
        have hbel2 := but_below hD.bel hk2 (Nat.le_refl _) hD.bel.size
        clear hD
        obtain ⟨R, hR⟩ : ∃ R, r * 2 ^ 6 + k = R := ⟨_, rfl⟩
        rw [hR] at hb2 hbnd
        have HR := Lib.hid hR
        clear hR hr2
        by_cases h8 : c + 6 < 8
        · go_wp2_with fail
          refine (pop_none _ R (c + 6) 8 _ hb2 h8).mono ?_
          rintro e w3 ⟨rfl, rfl⟩
          go_wp2
          go_roundg (gk - 1)
          case measure => omega
          case rel =>
            refine ⟨j + 1, ns ++ [k], by omega, by go_num, Lib.hid HK.out.1, ?_⟩
            have e1 : (ns ++ [k]).foldl decStep ([], 0, 0) = (o, R, c + 6) := by rw [HK.out.2]; unfold decStep; rw [if_pos h8, HR.out]
            rw [e1]
            exact ⟨hown2, hb2, hbel2⟩
        · obtain ⟨q, hq⟩ : ∃ q, R / 2 ^ (c + 6 - 8) = q := ⟨_, rfl⟩
          have hq256 : q < 256 := by
            rw [← hq, Nat.div_lt_iff_lt_mul (Nat.two_pow_pos _)]
            calc R < 2 ^ (c + 6) := hbnd
              _ = 2 ^ (8 + (c + 6 - 8)) := by congr 1; omega
              _ = 256 * 2 ^ (c + 6 - 8) := by rw [Nat.pow_add]
          have HQ := Lib.hid hq
          clear hq
          go_wp2_with fail
          refine (pop_call _ R (c + 6) 8 q _ _ hb2 rfl (by omega) (by omega) hbnd (by omega) HQ.out).mono ?_
          rintro e w3 ⟨rfl, hb3, hk3⟩
          have hown3 := hown2.but hk3 hb2 (by decide)
          have hbel3 := but_below hbel2 hk3 (Nat.le_refl _) hbel2.size
          clear hown2 hbel2 hb2 hbnd
          have hqb : (byt q).toNat = q := toNat_of q hq256
          have HQB := Lib.hid hqb
          have hqI : (q : Int) < 256 := by omega
          clear hqb
          go_wp2_with (at_builtin; go_loud (refine wpList_append_rd rfl (.tmp 28) (.tmp 31) rfl w.heap.size _ o rfl (hown3.alloc _) (some ⟨w3.heap.size, 0, none⟩) [byt q] 1 1 rfl rfl (Rd.of_lit (T := 5) (fr := (0, 0)) [byt q] ?c0) ?c1 ?c2 ?_))
          case c0 => rw [heap_alloc_new]; simp [Lib.byteCells, HQB.out]
          case c1 => simp only [List.length_singleton]; omega
          case c2 => have := hbel3.size; simp; omega
          intro v4 w4 hown4 hg4
          have hb4 : Bts w.heap.size (R % 2 ^ (c + 6 - 8)) (c + 6 - 8) w4 := (hown3.alloc _).other hg4 (block_alloc hb3 _) (by decide)
          have hbel4 := below_grow (hbel3.alloc hbel3.size (.cells #[.int .u8 (q : Int)] 5)) (hown3.alloc _) hg4 (by have := hbel3.size; simp; omega)
          go_wp2
          go_roundg (gk - 1)
          case measure => omega
          case rel =>
            refine ⟨j + 1, ns ++ [k], by omega, by go_num, Lib.hid HK.out.1, ?_⟩
            have e1 : (ns ++ [k]).foldl decStep ([], 0, 0) = (o ++ [byt q], R % 2 ^ (c + 6 - 8), c + 6 - 8) := by rw [HK.out.2]; unfold decStep; rw [if_neg h8, HR.out, HQ.out]
            rw [e1]
            exact ⟨hown4, hb4, hbel4⟩
    · have hns2 : nums s.data.toList = some ns := by
        have := hns.out
        rwa [List.take_of_length_le (by rw [HSZ.out]; omega)] at this
      have hdec := dec_some _ ns hns2
      have hflen := dec_foldl_len ns ([], 0, 0)
      have hnl := nums_len _ ns hns2
      obtain ⟨o, r, c, hs⟩ : ∃ o r c, ns.foldl decStep ([], 0, 0) = (o, r, c) := ⟨_, _, _, rfl⟩
      rw [hs] at hD hdec hflen
      have hol : o.length ≤ s.data.toList.length := by simp only [List.length_nil] at hflen; omega
      have hacc := dec_foldl_acc ns ([], 0, 0) (nums_some _ ns hns2).1 ⟨by decide, by decide⟩
      rw [hs] at hacc
      have hc8 : c < 8 := hacc.1
      have h28 : 2 ^ c ≤ 2 ^ 7 := Nat.pow_le_pow_right (by decide) (by omega)
      have hr128 : r < 128 := Nat.lt_of_lt_of_le hacc.2 h28
      have HD := Lib.hid (And.intro hdec hol)
      clear hdec hol hflen hnl hs hns2 hns hacc h28
      have hown := hD.own
      have hbel := hD.bel
      have hc1 : wr.cell? ⟨w.heap.size, 1, none⟩ = some (.int .i64 c) := by rw [Lib.cell_of_heap hD.bts]; rfl
      have hc0 : wr.cell? ⟨w.heap.size, 0, none⟩ = some (.int .i64 r) := by rw [Lib.cell_of_heap hD.bts]; rfl
      clear hD
      by_cases h6 : 6 ≤ c
      · go_wp2_with fail
        go_ret2
        refine ⟨hbel, .inl ⟨?_, rfl⟩⟩
        rw [HD.out.1]
        unfold decEnd
        rw [if_pos (.inl h6)]
      · by_cases h0 : r = 0
        · subst h0
          have hz : ((0 : Int) != 0) = false := rfl
          go_wp2_with fail
          go_ret2
          refine ⟨hbel, .inr ⟨o, _, ?_, HD.out.2, rfl, hown⟩⟩
          rw [HD.out.1]
          unfold decEnd
          rw [if_neg (by simp; omega)]
        · have hz : ((r : Int) != 0) = true := by simp; omega
          go_wp2_with fail
          go_ret2
          refine ⟨hbel, .inl ⟨?_, rfl⟩⟩
          rw [HD.out.1]
          unfold decEnd
          rw [if_pos (.inr h0)]

end Go.Proofs.YtgmieceebchmfaaDoor

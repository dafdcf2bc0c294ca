/- Merged: B64f, Tok12, Tok10, Tok13, Tok14, Tok15, RowF, Tok16, Laid. -/
import Derived.Deep.DeepCutAuto
import Derived.WalkLawsBesides
import Derived.Lib.SlBytesConst
import Derived.Stop.LaidErr
import Derived.Lib.LaidTab
import Derived.MakeChecks
import Derived.Test.YtbblnlddiafkhaaDoorMg1
import Derived.Test.YtbblnlddiafkhaaDoorMg2
import Derived.Test.YtbblnlddiafkhaaDoorMg3
import Derived.Test.YtbblnlddiafkhaaDoorMg4
/- The reference of package b64: letters as bytes, four at a time. -/
set_option linter.unusedVariables false
namespace Go.Proofs.YtbblnlddiafkhaaDoor
open Go.RowKit

set_option maxHeartbeats 1000000 in
theorem number_walk (c : Nat) (w : World) (hc : c < 256) :
    Calls Tryd.prog 49 #[.int .u8 c] w fun e w' => e = .returned (.int .i64 (numC c)) ∧ w' = w := by
  by_cases h1 : 65 ≤ c ∧ c ≤ 90
  · have hv : numC c = c - 65 := by unfold numC; rw [if_pos h1]
    have HV := Lib.hid hv
    obtain ⟨h1, h2⟩ := h1
    clear hv
    go_enter Tryd.func49, Tryd.ntmps49
    go_wp2
    go_ret
    exact ⟨by rw [HV.out]; simp, rfl⟩
  by_cases h2 : 97 ≤ c ∧ c ≤ 122
  · have hv : numC c = c - 71 := by unfold numC; rw [if_neg h1, if_pos h2]
    have HV := Lib.hid hv
    obtain ⟨h3, h4⟩ := h2
    clear hv
    go_enter Tryd.func49, Tryd.ntmps49
    go_wp2
    go_ret
    exact ⟨by rw [HV.out]; simp; omega, rfl⟩
  by_cases h3 : 48 ≤ c ∧ c ≤ 57
  · have hv : numC c = c + 4 := by unfold numC; rw [if_neg h1, if_neg h2, if_pos h3]
    have HV := Lib.hid hv
    obtain ⟨h5, h6⟩ := h3
    clear hv
    go_enter Tryd.func49, Tryd.ntmps49
    go_wp2
    go_ret
    exact ⟨by rw [HV.out]; simp; omega, rfl⟩
  by_cases h4 : c = 45
  · subst h4
    go_enter Tryd.func49, Tryd.ntmps49
    go_wp2
    go_ret
    exact ⟨rfl, rfl⟩
  by_cases h5 : c = 95
  · subst h5
    go_enter Tryd.func49, Tryd.ntmps49
    go_wp2
    go_ret
    exact ⟨rfl, rfl⟩
  · have hv : numC c = -1 := by unfold numC; rw [if_neg h1, if_neg h2, if_neg h3, if_neg h4, if_neg h5]
    have HV := Lib.hid hv
    clear hv
    have e4 : ((c : Int) == 45) = false := by simp; omega
    have e5 : ((c : Int) == 95) = false := by simp; omega
    go_enter Tryd.func49, Tryd.ntmps49
    go_wp2
    all_goals (go_ret; exact ⟨by rw [HV.out]; rfl, rfl⟩)

theorem number_any (C : Int) (x : UInt8) (w : World) (hC : C = x.toNat) :
    Calls Tryd.prog 49 #[.int .u8 C] w fun e w' => e = .returned (.int .i64 (numI x)) ∧ w' = w := by
  subst hC
  rw [numI_eq]
  exact number_walk x.toNat w x.toNat_lt

/-- What the reference's Decode answers. -/
def RefDec (B : Nat) (l : List UInt8) (w : World) (e : Ending) (w' : World) : Prop :=
  Below B w w' ∧ ((dec l = none ∧ e = .returned (.tuple #[.slice none 0 0, .bool false])) ∨ ∃ b v, dec l = some b ∧ b.length ≤ l.length ∧ e = .returned (.tuple #[v, .bool true]) ∧ Own B w' v b)

/-- At the head of a group: what is told so far. -/
def Head4 (l : List UInt8) (i : Nat) (ns : List Nat) (o : List UInt8) : Prop :=
  nums (l.take i) = some ns ∧ (i < l.length → ns.length % 4 = 0) ∧ dec4 ns = some o ∧ i % 4 = 0
/-- In a group: the numbers of its letters. -/
def In4 (l : List UInt8) (i t : Nat) (ns ms : List Nat) : Prop :=
  nums (l.take (i + t)) = some (ns ++ ms) ∧ ms.length ≤ t ∧ ms.length + i = min (i + t) l.length

theorem In4.more {l : List UInt8} {i t k : Nat} {ns ms : List Nat} (h : In4 l i t ns ms) (hlt : i + t < l.length) (hk : num64 l[i + t] = some k) : In4 l i (t + 1) ns (ms ++ [k]) ∧ gv (t + 1) (ms ++ [k]) = gv t ms * 64 + k := by
  obtain ⟨h1, h2, h3⟩ := h
  refine ⟨⟨?_, by simp; omega, by simp; omega⟩, gv_more t ms k (by omega)⟩
  rw [show i + (t + 1) = (i + t) + 1 by omega, List.take_succ_eq_append_getElem hlt, ← List.append_assoc]
  exact nums_snoc _ _ _ _ h1 hk
theorem In4.skip {l : List UInt8} {i t : Nat} {ns ms : List Nat} (h : In4 l i t ns ms) (hlt : l.length ≤ i + t) : In4 l i (t + 1) ns ms ∧ gv (t + 1) ms = gv t ms * 64 := by
  obtain ⟨h1, h2, h3⟩ := h
  refine ⟨⟨?_, by omega, by omega⟩, gv_skip t ms h2⟩
  rw [List.take_of_length_le (by omega)] at h1 ⊢
  exact h1
theorem In4.lt {l : List UInt8} {i t : Nat} {ns ms : List Nat} (h : In4 l i t ns ms) : ∀ x ∈ ms, x < 64 := fun x hx => (nums_some _ _ h.1).1 x (by simp [hx])

set_option maxRecDepth 100000 in
set_option maxHeartbeats 4000000 in
theorem refDecode_any (s : ByteArray) (w : World) (hl : s.size ≤ 1000000) :
    Calls Tryd.prog 35 #[.string s] w fun e w' => RefDec w.heap.size s.data.toList w e w' := by
  have hsz : s.data.toList.length = s.size := by simp
  have HSZ := Lib.hid hsz
  by_cases hodd : s.size % 4 = 1
  · have ht : (((s.size : Int) % 4) == 1) = true := by simp; omega
    have hd := dec_odd s.data.toList (by rw [hsz]; exact hodd)
    clear hsz hodd
    have HD := Lib.hid hd
    clear hd
    go_enter Tryd.func35, Tryd.ntmps35
    go_wp2
    go_ret2
    exact ⟨Below.refl _ _, .inl ⟨HD.out, rfl⟩⟩
  have ht : (((s.size : Int) % 4) == 1) = false := by simp; omega
  have HODD := Lib.hid hodd
  clear hsz hodd
  go_enter Tryd.func35, Tryd.ntmps35
  go_wp2
  go_loopg [4, 5] (s.size + 4) (fun k v i wr => ∃ (j : Nat) (ns : List Nat) (o : List UInt8), j + k = s.size + 4 ∧ j < s.size + 4 ∧ i = .int .i64 j ∧ o.length ≤ j ∧ (s.size ≤ j → o.length ≤ s.size) ∧ Hid (Head4 s.data.toList j ns o) ∧ Own w.heap.size wr v o ∧ Below w.heap.size w wr)
  case atStart => exact ⟨0, [], [], by omega, by omega, rfl, by simp, by simp, Lib.hid ⟨rfl, fun _ => rfl, rfl, rfl⟩, Own.nil _ _, Below.refl _ _⟩
  case round =>
    obtain ⟨gO, rfl⟩ : ∃ x : Nat, x = gk := ⟨_, rfl⟩
    obtain ⟨j, ns, o, hj, hj4, rfl, hol, hol2, hhead, hown, hbel⟩ := hrel
    by_cases hlt : j < s.size
    · go_wp2
      go_loopg [6, 7, 8] 4 (fun q x y z wq => ∃ (t : Nat) (ms : List Nat), t + q = 4 ∧ z = .int .i64 (↑(j + t)) ∧ x = .int .i64 (gv t ms) ∧ y = .int .i64 ms.length ∧ Hid (In4 s.data.toList j t ns ms) ∧ wr = wq)
      case atStart =>
        refine ⟨0, [], by omega, rfl, rfl, rfl, Lib.hid ⟨?_, by simp, ?_⟩, rfl⟩
        · simpa using hhead.out.1
        · simp [HSZ.out]; omega
      case round =>
        obtain ⟨t, ms, ht4, rfl, rfl, rfl, hin, rfl⟩ := hrel
        have hgv := gv_lt t ms hin.out.2.1 hin.out.lt
        by_cases htt : t < 4
        · have hgv3 : gv t ms < 262144 := Nat.lt_of_lt_of_le hgv (Nat.pow_le_pow_right (by decide) (show t ≤ 3 by omega))
          have hml : ms.length ≤ 3 := by have := hin.out.2.1; omega
          obtain ⟨G, hG⟩ : ∃ G, gv t ms = G := ⟨_, rfl⟩
          rw [hG] at hgv3
          rw [hG]
          have HG := Lib.hid hG
          clear hgv hG
          by_cases hjt : j + t < s.size
          · have hix := index_at s (j + t) hjt
            have hjt2 : j + t < s.data.toList.length := by rw [HSZ.out]; exact hjt
            have hval : ((s[j + t].toNat : Nat) : Int) = ((s.data.toList[j + t]).toNat : Int) := by simp; rfl
            have HVAL := Lib.hid hval
            clear hix hval
            go_wp2_with fail
            refine (number_any _ s.data.toList[j + t] _ ?_).mono ?_
            · exact HVAL.out
            rintro e w1 ⟨rfl, rfl⟩
            rcases numI_cases s.data.toList[j + t] with ⟨hn, he⟩ | ⟨k, hn, he, hk64⟩
            · rw [he]
              have HN := Lib.hid hn
              clear hn he
              go_wp2
              go_ret2
              exact ⟨hbel, .inl ⟨dec_none _ _ hjt2 HN.out, rfl⟩⟩
            · rw [he]
              have HN := Lib.hid hn
              clear hn he
              go_wp2
              go_roundg (gk - 1)
              case measure => omega
              case rel =>
                obtain ⟨h1, h2⟩ := hin.out.more hjt2 HN.out
                rw [HG.out] at h2
                exact ⟨t + 1, ms ++ [k], by omega, by go_num, by rw [h2]; go_num, by simp, Lib.hid h1, rfl⟩
          · go_wp2
            go_roundg (gk - 1)
            case measure => omega
            case rel =>
              obtain ⟨h1, h2⟩ := hin.out.skip (by rw [HSZ.out]; omega)
              rw [HG.out] at h2
              exact ⟨t + 1, ms, by omega, by go_num, by rw [h2]; go_num, rfl, Lib.hid h1, rfl⟩
        · have ht4' : t = 4 := by omega
          subst ht4'
          have hgv4 : gv 4 ms < 16777216 := hgv
          obtain ⟨G, hG⟩ : ∃ G, gv 4 ms = G := ⟨_, rfl⟩
          rw [hG] at hgv4
          rw [hG]
          have HG := Lib.hid hG
          clear hgv hG
          have hml4 : ms.length ≤ 4 := hin.out.2.1
          have hml2 : 2 ≤ ms.length := by
            have h3 := hin.out.2.2
            have h4 := hhead.out.2.2.2
            have h5 := HODD.out
            rw [HSZ.out] at h3
            omega
          obtain ⟨m, hm⟩ : ∃ m, ms.length = m := ⟨_, rfl⟩
          rw [hm] at hml4 hml2
          rw [hm]
          have HM := Lib.hid hm
          clear hm
          have hcells : ints8 (three G) = [.int .u8 ((G : Int) / 65536), .int .u8 ((G : Int) / 256 % 256), .int .u8 ((G : Int) % 256)] := by simp [ints8, three]
          have HC := Lib.hid hcells
          clear hcells
          have hown2 := hown.alloc (.cells #[.int .u8 ((G : Int) / 65536), .int .u8 ((G : Int) / 256 % 256), .int .u8 ((G : Int) % 256)] 78)
          have hbel2 := hbel.alloc hbel.size (.cells #[.int .u8 ((G : Int) / 65536), .int .u8 ((G : Int) / 256 % 256), .int .u8 ((G : Int) % 256)] 78)
          have hblock : (wr.alloc (.cells #[.int .u8 ((G : Int) / 65536), .int .u8 ((G : Int) / 256 % 256), .int .u8 ((G : Int) % 256)] 78)).heap[wr.heap.size]? = some (.cells (ints8 (three G)).toArray 78) := by
            rw [HC.out]; exact heap_alloc_new wr _
          have HB := Lib.hid hblock
          clear hblock
          go_wp2
          obtain ⟨wo, rfl⟩ : ∃ wo : World, wo = wr := ⟨_, rfl⟩
          go_loopg [4, 11] 3 (fun k v2 x wq => ∃ q : Nat, q + k = 3 ∧ x = .int .i64 q ∧ Own w.heap.size wq v2 (o ++ ((three G).take (min q (m - 1))).map byt) ∧ Below w.heap.size w wq ∧ Hid (wq.heap[wo.heap.size]? = some (.cells (ints8 (three G)).toArray 78)) ∧ Hid (Zer G m q))
          case atStart =>
            refine ⟨0, by omega, rfl, ?_, ?_, ?_, ?_⟩
            · simpa using hown2
            · exact hbel2
            · exact HB
            · exact Lib.hid (fun i h3 hi => by omega)
          case round =>
            clear hown2 hbel2 HB
            obtain ⟨q, hq, rfl, hown3, hbel3, hblk, hzer⟩ := hrel
            by_cases hq3 : q < 3
            · have hq3L : q < (three G).length := hq3
              have hcell := cell_ints8 hblk.out (j := q) hq3L
              have hb256 : (three G)[q]'hq3L < 256 := three_lt G hgv4 q hq3
              obtain ⟨x, hx⟩ : ∃ x, (three G)[q]'hq3L = x := ⟨_, rfl⟩
              rw [hx] at hcell hb256
              have HX := Lib.hid hx
              clear hx
              by_cases hqm : q < m - 1
              · have hqm' : (q : Int) < (m : Int) - 1 := by omega
                have htk : (o ++ ((three G).take (min q (m - 1))).map byt) ++ [byt x] = o ++ ((three G).take (min (q + 1) (m - 1))).map byt := by
                  rw [Nat.min_eq_left (by omega), Nat.min_eq_left (by omega), List.take_succ_eq_append_getElem hq3L, HX.out]
                  simp
                have HT := Lib.hid htk
                have hle : (o ++ ((three G).take (min q (m - 1))).map byt).length ≤ 5000000 := by
                  have : ((three G).take (min q (m - 1))).length ≤ 3 := by
                    have := List.length_take_le (min q (m - 1)) (three G); have h3 : (three G).length = 3 := rfl; simp only [List.length_take, h3]; omega
                  simp only [List.length_append, List.length_map]
                  omega
                clear htk
                have hxb : (byt x).toNat = x := toNat_of x hb256
                have HXB := Lib.hid hxb
                clear hxb
                go_wp2_with (at_builtin; go_loud (refine wpList_append_rd rfl (.tmp 65) (.tmp 69) rfl w.heap.size _ (o ++ ((three G).take (min q (m - 1))).map byt) rfl (hown3.alloc _) (some ⟨wr.heap.size, 0, none⟩) [byt x] 1 1 rfl rfl (Rd.of_lit (T := 5) (fr := (0, 0)) [byt x] ?c0) ?c1 ?c2 ?_))
                case c0 => rw [heap_alloc_new]; simp [Lib.byteCells, HXB.out]
                case c1 => simp only [List.length_singleton]; omega
                case c2 => have := hbel3.size; simp; omega
                intro v4 w4 hown4 hg4
                have hblk4 := Lib.hid ((hown3.alloc (.cells #[.int .u8 (x : Int)] 5)).other hg4 (block_alloc hblk.out _) (by decide))
                have hbel4 := below_grow (hbel3.alloc hbel3.size (.cells #[.int .u8 (x : Int)] 5)) (hown3.alloc _) hg4 (by have := hbel3.size; simp; omega)
                go_wp2
                go_roundg (gk - 1)
                case measure => omega
                case rel => exact ⟨q + 1, by omega, by go_num, by rw [← HT.out]; simpa using hown4, hbel4, hblk4, Lib.hid (fun i h3 hi hm => by
                  rcases Nat.lt_or_ge i q with h' | h'
                  · exact hzer.out i h3 h' hm
                  · omega)⟩
              · have hqm' : ¬ (q : Int) < (m : Int) - 1 := by omega
                by_cases hx0 : x = 0
                · have ht0 : ((x : Int) != 0) = false := by simp [hx0]
                  have HX0 := Lib.hid hx0
                  clear hx0
                  go_wp2
                  go_roundg (gk - 1)
                  case measure => omega
                  case rel =>
                    refine ⟨q + 1, by omega, by go_num, ?_, hbel3, hblk, Lib.hid (fun i h3 hi hm => ?_)⟩
                    · rw [Nat.min_eq_right (by omega)] at hown3 ⊢
                      exact hown3
                    · rcases Nat.lt_or_ge i q with h' | h'
                      · exact hzer.out i h3 h' hm
                      · have : i = q := by omega
                        subst this
                        exact HX.out.trans HX0.out
                · have ht0 : ((x : Int) != 0) = true := by simp; omega
                  have hnot : dec s.data.toList = none := by
                    have h1 := hin.out.1
                    rw [List.take_of_length_le (by rw [HSZ.out]; have := hin.out.2.2; rw [HSZ.out, HM.out] at this; omega)] at h1
                    rw [dec_eq, h1]
                    simp only
                    rw [dec4_app ns ms (hhead.out.2.1 (by rw [HSZ.out]; exact hlt)), hhead.out.2.2.1, dec4_grp ms hin.out.lt (by rw [HM.out]; exact hml2) (by rw [HM.out]; exact hml4), HM.out, HG.out, if_neg (Zer.not hq3 (by omega) (fun e => hx0 (HX.out.symm.trans e)))]
                    rfl
                  have HNOT := Lib.hid hnot
                  clear hnot
                  go_wp2
                  go_ret2
                  exact ⟨hbel3, .inl ⟨HNOT.out, rfl⟩⟩
            · have hq3' : q = 3 := by omega
              subst hq3'
              rw [Nat.min_eq_right (by omega)] at hown3
              go_wp2
              go_roundg (gO - 4)
              case measure => omega
              case rel =>
                have h32 := hin.out.2.2
                rw [HSZ.out, HM.out] at h32
                have hd4 := dec4_app ns ms (hhead.out.2.1 (by rw [HSZ.out]; exact hlt))
                rw [hhead.out.2.2.1, dec4_grp ms hin.out.lt (by rw [HM.out]; exact hml2) (by rw [HM.out]; exact hml4), HM.out, HG.out, if_pos hzer.out.end] at hd4
                have h3l : (three G).length = 3 := rfl
                have hhl := hhead.out.2.1 (by rw [HSZ.out]; exact hlt)
                refine ⟨j + 4, ns ++ ms, _, by omega, by omega, by go_num, ?_, ?_, Lib.hid ⟨hin.out.1, ?_, hd4, by have := hhead.out.2.2.2; omega⟩, hown3, hbel3⟩
                · simp only [List.length_append, List.length_map, List.length_take, h3l]; omega
                · intro hsz; simp only [List.length_append, List.length_map, List.length_take, h3l]; omega
                · intro h; rw [HSZ.out] at h; simp only [List.length_append, HM.out]; omega
    · have hdec : dec s.data.toList = some o := by
        have h1 := hhead.out.1
        rw [List.take_of_length_le (by rw [HSZ.out]; omega)] at h1
        rw [dec_eq, h1]
        exact hhead.out.2.2.1
      have hol3 : o.length ≤ s.data.toList.length := by rw [HSZ.out]; exact hol2 (by omega)
      have HDEC := Lib.hid (And.intro hdec hol3)
      clear hdec hol3 hol2
      go_wp2
      go_ret2
      exact ⟨hbel, .inr ⟨o, _, HDEC.out.1, HDEC.out.2, rfl, hown⟩⟩
end Go.Proofs.YtbblnlddiafkhaaDoor
/- The document's Split. -/
set_option linter.unusedVariables false
namespace Go.Proofs.YtbblnlddiafkhaaDoor
open Go.RowKit

/-- What the document's Split answers. -/
def SplitRes (W : List UInt8) (e : Ending) : Prop :=
  (∃ k n t, IsWord W k n t ∧ e = .returned (.tuple #[.int .u8 (k.toNat : Int), .int .i64 (n : Int), .bool true])) ∨
  ((∀ k n t, ¬ IsWord W k n t) ∧ ∃ (a b : Int), e = .returned (.tuple #[.int .u8 a, .int .i64 b, .bool false]))
theorem SplitRes.no {W : List UInt8} (h : ∀ k n t, ¬ IsWord W k n t) (a b : Int) : SplitRes W (.returned (.tuple #[.int .u8 a, .int .i64 b, .bool false])) := .inr ⟨h, a, b, rfl⟩
theorem word_len {W : List UInt8} {k : UInt8} {n : Nat} {t : List UInt8} (h : IsWord W k n t) : 3 ≤ W.length ∧ knownB (W.getD 0 0) = true := by
  obtain ⟨rfl, hk, _, _, hl, _⟩ := h
  unfold frontL
  refine ⟨by simp; omega, by simpa using hk⟩
set_option maxRecDepth 100000 in
set_option maxHeartbeats 16000000 in
theorem refsplit_any (W : List UInt8) (w : World) (hl : W.length ≤ 1000) :
    Calls Tryd.prog 18 #[.string ⟨W.toArray⟩] w fun e w' => SplitRes W e ∧ Below w.heap.size w w' := by
  by_cases h3 : W.length < 3
  · have h3I : ((W.length : Nat) : Int) < 3 := by omega
    have h3d : decide (((W.length : Nat) : Int) < 3) = true := decide_eq_true h3I
    have hno : ∀ k n t, ¬ IsWord W k n t := fun k n t h => by have := (word_len h).1; omega
    have HN := Lib.hid hno
    clear hno
    go_enter Tryd.func18, Tryd.ntmps18
    go_wp2_with fail
    go_ret3
    exact ⟨SplitRes.no HN.out _ _, Below.refl _ _⟩
  · have h3I : ¬ ((W.length : Nat) : Int) < 3 := by omega
    have h3d : decide (((W.length : Nat) : Int) < 3) = false := decide_eq_false h3I
    obtain ⟨c0, hc0⟩ : ∃ c, W[0]'(by omega) = c := ⟨_, rfl⟩
    have hix0 : ∀ w, (Instr.index 9 (.string ⟨W.toArray⟩) (.int .i64 0)).run Tryd.prog w = .ok (.int .u8 (c0.toNat : Nat)) w := by rw [← hc0]; exact str_at W 0 (by omega)
    have HG0 := Lib.hid (show W.getD 0 0 = c0 by rw [getD_at W 0 (by omega), hc0])
    clear hc0
    go_enter Tryd.func18, Tryd.ntmps18
    go_wp2_with fail
    refine (refknown_any c0 w).mono ?_
    rintro e w' ⟨rfl, rfl⟩
    cases hkn : knownB c0 with
    | false =>
      have HN := Lib.hid (show ∀ k n t, ¬ IsWord W k n t from fun k n t h => by have := (word_len h).2; rw [HG0.out, hkn] at this; cases this)
      clear hkn
      go_wp2_with fail
      go_ret3
      exact ⟨SplitRes.no HN.out _ _, Below.refl _ _⟩
    | true =>
      have HK := Lib.hid hkn
      clear hkn
      go_wp2_with fail
      go_loopg [5, 6] (15) (fun k iv nv wr => ∃ (j n : Nat), j + k = 16 ∧ 1 ≤ j ∧ j ≤ 15 ∧ j ≤ W.length ∧ n ≤ 100000000000000 ∧ iv = .int .i64 (j : Int) ∧ nv = .int .i64 (n : Int) ∧ Hid (Lib.decFrom 0 ((W.drop 1).take (j - 1)) = some n) ∧ wr = w')
      case atStart => exact ⟨1, 0, by omega, by omega, by omega, by omega, by omega, rfl, rfl, Lib.hid (by simp [Lib.decFrom]), rfl⟩
      case round =>
        obtain ⟨j, n, hj, hj1, hj15, hjl, hnb, rfl, rfl, hdf, rfl⟩ := hrel
        have hgo : (∃ hlt : j < W.length, 48 ≤ W[j].toNat ∧ W[j].toNat ≤ 57 ∧ j < 15) ∨ ((j < W.length → 48 ≤ (W.getD j 0).toNat → (W.getD j 0).toNat ≤ 57 → ¬ j < 15)) := by
          by_cases hlt : j < W.length
          · by_cases h : 48 ≤ W[j].toNat ∧ W[j].toNat ≤ 57 ∧ j < 15
            · exact .inl ⟨hlt, h⟩
            · right
              intro _ h1 h2 h3
              rw [getD_at W j hlt] at h1 h2
              exact h ⟨h1, h2, h3⟩
          · right
            intro h
            exact absurd h hlt
        rcases hgo with ⟨hlt, d1, d2, hlt15⟩ | hend
        · have hstep := decFrom_step W j n hj1 hlt hdf.out d1 d2
          obtain ⟨c, hc⟩ : ∃ c, W[j]'hlt = c := ⟨_, rfl⟩
          have hix : ∀ w, (Instr.index 9 (.string ⟨W.toArray⟩) (.int .i64 (j : Int))).run Tryd.prog w = .ok (.int .u8 (c.toNat : Nat)) w := by rw [← hc]; exact str_at W j hlt
          rw [hc] at hstep d1 d2
          have hsm := decFrom_small W (j + 1) _ hstep (by omega)
          have hn13 : 10 * n + (c.toNat - 48) ≤ 100000000000000 := by omega
          have HST := Lib.hid hstep
          have e1 : ((c.toNat : Nat) : Int) - 48 = ((c.toNat - 48 : Nat) : Int) := by omega
          have l1 : decide (((j : Nat) : Int) < ((W.length : Nat) : Int)) = true := decide_eq_true (by omega)
          have l2 : decide ((48 : Int) ≤ ((c.toNat : Nat) : Int)) = true := decide_eq_true (by omega)
          have l3 : decide (((c.toNat : Nat) : Int) ≤ 57) = true := decide_eq_true (by omega)
          have l4 : decide (((j : Nat) : Int) < 15) = true := decide_eq_true (by omega)
          have d1I : (48 : Int) ≤ ((c.toNat : Nat) : Int) := by omega
          have d2I : ((c.toNat : Nat) : Int) ≤ 57 := by omega
          have E1 := Lib.hid e1
          clear hc hstep hsm hdf e1
          go_wp2_with fail
          go_roundg (gk - 1)
          case measure => omega
          case rel =>
            refine ⟨j + 1, 10 * n + (c.toNat - 48), by omega, by omega, by omega, by omega, hn13, by go_num, ?_, Lib.hid (by simpa using HST.out), rfl⟩
            have : (10 : Int) * (n : Int) + (((c.toNat : Nat) : Int) - 48) = ((10 * n + (c.toNat - 48) : Nat) : Int) := by rw [E1.out]; omega
            rw [← this]
        · have HEND := Lib.hid hend
          by_cases hlt : j < W.length
          · obtain ⟨c, hc⟩ : ∃ c, W[j]'hlt = c := ⟨_, rfl⟩
            have hix : ∀ w, (Instr.index 9 (.string ⟨W.toArray⟩) (.int .i64 (j : Int))).run Tryd.prog w = .ok (.int .u8 (c.toNat : Nat)) w := by rw [← hc]; exact str_at W j hlt
            have l1 : decide (((j : Nat) : Int) < ((W.length : Nat) : Int)) = true := decide_eq_true (by omega)
            have HCJ := Lib.hid (show W.getD j 0 = c by rw [getD_at W j hlt, hc])
            rw [getD_at W j hlt, hc] at hend
            have hend2 := hend hlt
            clear hend hc
            by_cases d1 : 48 ≤ c.toNat
            · have l2 : decide ((48 : Int) ≤ ((c.toNat : Nat) : Int)) = true := decide_eq_true (by omega)
              by_cases d2 : c.toNat ≤ 57
              · have l3 : decide (((c.toNat : Nat) : Int) ≤ 57) = true := decide_eq_true (by omega)
                have d3 := hend2 d1 d2
                have l4 : decide (((j : Nat) : Int) < 15) = false := decide_eq_false (by omega)
                clear hend2
                have hj2 : 2 ≤ j ∨ j = 1 := by omega
                rcases hj2 with hj2 | rfl
                · have q1 : (((j : Nat) : Int) == 1) = false := by simp only [beq_eq_false_iff_ne, ne_eq]; omega
                  obtain ⟨c1, hc1⟩ : ∃ c, W[1]'(by omega) = c := ⟨_, rfl⟩
                  have hx1 : ∀ w, (Instr.index 9 (.string ⟨W.toArray⟩) (.int .i64 1)).run Tryd.prog w = .ok (.int .u8 (c1.toNat : Nat)) w := by rw [← hc1]; exact str_at W 1 (by omega)
                  have g1 : W.getD 1 0 = c1 := by rw [getD_at W 1 (by omega), hc1]
                  clear hc1
                  by_cases hz : c1.toNat = 48
                  · have q2 : (((c1.toNat : Nat) : Int) == 48) = true := by rw [hz]; rfl
                    have HN : Hid (∀ k m t, ¬ IsWord W k m t) := Lib.hid (fun k m t hw => (word_passes W j n hj1 hjl hdf.out HEND.out k m t hw).1.nz (by rw [g1]; exact UInt8.toNat_inj.1 (by rw [hz]; rfl)))
                    clear hz g1
                    go_wp2_with fail
                    go_ret3
                    exact ⟨SplitRes.no HN.out _ _, Below.refl _ _⟩
                  · have q2 : (((c1.toNat : Nat) : Int) == 48) = false := by simp only [beq_eq_false_iff_ne, ne_eq]; omega
                    have HZ := Lib.hid (show W.getD 1 0 ≠ 48 from fun e => hz (by rw [← g1, e]; rfl))
                    clear hz g1
                    by_cases hbig : 1099511627776 < n
                    · have q3 : decide (1099511627776 < ((n : Nat) : Int)) = true := decide_eq_true (by omega)
                      have HN : Hid (∀ k m t, ¬ IsWord W k m t) := Lib.hid (fun k m t hw => absurd (word_passes W j n hj1 hjl hdf.out HEND.out k m t hw).1.hi (by omega))
                      go_wp2_with fail
                      go_ret3
                      exact ⟨SplitRes.no HN.out _ _, Below.refl _ _⟩
                    · have q3 : decide (1099511627776 < ((n : Nat) : Int)) = false := decide_eq_false (by omega)
                      by_cases hje : j = W.length
                      · have q4 : (((j : Nat) : Int) == ((W.length : Nat) : Int)) = true := by rw [hje]; simp
                        have HN : Hid (∀ k m t, ¬ IsWord W k m t) := Lib.hid (fun k m t hw => absurd (word_passes W j n hj1 hjl hdf.out HEND.out k m t hw).1.lt (by omega))
                        clear hje
                        go_wp2_with fail
                        go_ret3
                        exact ⟨SplitRes.no HN.out _ _, Below.refl _ _⟩
                      · have q4 : (((j : Nat) : Int) == ((W.length : Nat) : Int)) = false := by simp only [beq_eq_false_iff_ne, ne_eq]; omega
                        have hjlt : j < W.length := by omega
                        clear hje
                        have gj := HCJ.out
                        by_cases hdot : c.toNat = 46
                        · have q5 : (((c.toNat : Nat) : Int) != 46) = false := by rw [hdot]; rfl
                          have HD := Lib.hid (show W.getD j 0 = 46 by rw [gj]; exact UInt8.toNat_inj.1 (by rw [hdot]; rfl))
                          clear hdot gj
                          by_cases hlen : W.length = j + 23
                          · have q6 : ((((W.length : Nat) : Int) - ((j : Nat) : Int)) != 23) = false := by
                              have : ((W.length : Nat) : Int) - ((j : Nat) : Int) = 23 := by omega
                              rw [this]; rfl
                            have hst : ∀ w, (Instr.slice 9 (.string ⟨W.toArray⟩) (some (.int .i64 ((j : Int) + 1))) none none).run Tryd.prog w = .ok (.string ⟨(W.drop (j + 1)).toArray⟩) w := str_tail W (j + 1) (by omega) ((j : Int) + 1) (by omega)
                            have HL := Lib.hid hlen
                            clear hlen
                            go_wp2_with fail
                            refine (refDecode_any ⟨(W.drop (j + 1)).toArray⟩ _ (by rw [str_len, List.length_drop]; omega)).mono ?_
                            rintro e w2 ⟨hb2, hR⟩
                            rw [show (⟨(W.drop (j + 1)).toArray⟩ : ByteArray).data.toList = W.drop (j + 1) from rfl] at hR
                            have HB2 := Lib.hid hb2
                            clear hb2
                            rcases hR with ⟨hd, rfl⟩ | ⟨b, v, hd, hbl, rfl, hown⟩
                            · have HN : Hid (∀ k m t, ¬ IsWord W k m t) := Lib.hid (fun k m t hw => hw.de (by rw [← (word_passes W j n hj1 hjl hdf.out HEND.out k m t hw).2.2.2]; exact hd))
                              clear hd
                              go_wp2_with fail
                              go_ret3
                              exact ⟨SplitRes.no HN.out _ _, HB2.out⟩
                            · have HW := Lib.hid (passes_word W j n hdf.out ⟨hj2, HZ.out, by omega, hjlt, HD.out, HL.out⟩ (by rw [HG0.out]; exact HK.out) (by rw [hd]; simp))
                              clear hd hbl hown
                              go_wp2_with fail
                              go_ret3
                              refine ⟨.inl ⟨_, _, _, HW.out, ?_⟩, HB2.out⟩
                              rw [HG0.out]
                              rfl
                          · have q6 : ((((W.length : Nat) : Int) - ((j : Nat) : Int)) != 23) = true := by simp only [bne_iff_ne, ne_eq]; omega
                            have HN : Hid (∀ k m t, ¬ IsWord W k m t) := Lib.hid (fun k m t hw => absurd (word_passes W j n hj1 hjl hdf.out HEND.out k m t hw).1.len hlen)
                            clear hlen
                            go_wp2_with fail
                            go_ret3
                            exact ⟨SplitRes.no HN.out _ _, Below.refl _ _⟩
                        · have q5 : (((c.toNat : Nat) : Int) != 46) = true := by simp only [bne_iff_ne, ne_eq]; omega
                          have HN : Hid (∀ k m t, ¬ IsWord W k m t) := Lib.hid (fun k m t hw => hdot (by have := (word_passes W j n hj1 hjl hdf.out HEND.out k m t hw).1.dot; rw [gj] at this; rw [this]; rfl))
                          clear hdot gj
                          go_wp2_with fail
                          go_ret3
                          exact ⟨SplitRes.no HN.out _ _, Below.refl _ _⟩
                · exfalso; omega
              · have l3 : decide (((c.toNat : Nat) : Int) ≤ 57) = false := decide_eq_false (by omega)
                clear hend2
                have hj2 : 2 ≤ j ∨ j = 1 := by omega
                rcases hj2 with hj2 | rfl
                · have q1 : (((j : Nat) : Int) == 1) = false := by simp only [beq_eq_false_iff_ne, ne_eq]; omega
                  obtain ⟨c1, hc1⟩ : ∃ c, W[1]'(by omega) = c := ⟨_, rfl⟩
                  have hx1 : ∀ w, (Instr.index 9 (.string ⟨W.toArray⟩) (.int .i64 1)).run Tryd.prog w = .ok (.int .u8 (c1.toNat : Nat)) w := by rw [← hc1]; exact str_at W 1 (by omega)
                  have g1 : W.getD 1 0 = c1 := by rw [getD_at W 1 (by omega), hc1]
                  clear hc1
                  by_cases hz : c1.toNat = 48
                  · have q2 : (((c1.toNat : Nat) : Int) == 48) = true := by rw [hz]; rfl
                    have HN : Hid (∀ k m t, ¬ IsWord W k m t) := Lib.hid (fun k m t hw => (word_passes W j n hj1 hjl hdf.out HEND.out k m t hw).1.nz (by rw [g1]; exact UInt8.toNat_inj.1 (by rw [hz]; rfl)))
                    clear hz g1
                    go_wp2_with fail
                    go_ret3
                    exact ⟨SplitRes.no HN.out _ _, Below.refl _ _⟩
                  · have q2 : (((c1.toNat : Nat) : Int) == 48) = false := by simp only [beq_eq_false_iff_ne, ne_eq]; omega
                    have HZ := Lib.hid (show W.getD 1 0 ≠ 48 from fun e => hz (by rw [← g1, e]; rfl))
                    clear hz g1
                    by_cases hbig : 1099511627776 < n
                    · have q3 : decide (1099511627776 < ((n : Nat) : Int)) = true := decide_eq_true (by omega)
                      have HN : Hid (∀ k m t, ¬ IsWord W k m t) := Lib.hid (fun k m t hw => absurd (word_passes W j n hj1 hjl hdf.out HEND.out k m t hw).1.hi (by omega))
                      go_wp2_with fail
                      go_ret3
                      exact ⟨SplitRes.no HN.out _ _, Below.refl _ _⟩
                    · have q3 : decide (1099511627776 < ((n : Nat) : Int)) = false := decide_eq_false (by omega)
                      by_cases hje : j = W.length
                      · have q4 : (((j : Nat) : Int) == ((W.length : Nat) : Int)) = true := by rw [hje]; simp
                        have HN : Hid (∀ k m t, ¬ IsWord W k m t) := Lib.hid (fun k m t hw => absurd (word_passes W j n hj1 hjl hdf.out HEND.out k m t hw).1.lt (by omega))
                        clear hje
                        go_wp2_with fail
                        go_ret3
                        exact ⟨SplitRes.no HN.out _ _, Below.refl _ _⟩
                      · have q4 : (((j : Nat) : Int) == ((W.length : Nat) : Int)) = false := by simp only [beq_eq_false_iff_ne, ne_eq]; omega
                        have hjlt : j < W.length := by omega
                        clear hje
                        have gj := HCJ.out
                        by_cases hdot : c.toNat = 46
                        · have q5 : (((c.toNat : Nat) : Int) != 46) = false := by rw [hdot]; rfl
                          have HD := Lib.hid (show W.getD j 0 = 46 by rw [gj]; exact UInt8.toNat_inj.1 (by rw [hdot]; rfl))
                          clear hdot gj
                          by_cases hlen : W.length = j + 23
                          · have q6 : ((((W.length : Nat) : Int) - ((j : Nat) : Int)) != 23) = false := by
                              have : ((W.length : Nat) : Int) - ((j : Nat) : Int) = 23 := by omega
                              rw [this]; rfl
                            have hst : ∀ w, (Instr.slice 9 (.string ⟨W.toArray⟩) (some (.int .i64 ((j : Int) + 1))) none none).run Tryd.prog w = .ok (.string ⟨(W.drop (j + 1)).toArray⟩) w := str_tail W (j + 1) (by omega) ((j : Int) + 1) (by omega)
                            have HL := Lib.hid hlen
                            clear hlen
                            go_wp2_with fail
                            refine (refDecode_any ⟨(W.drop (j + 1)).toArray⟩ _ (by rw [str_len, List.length_drop]; omega)).mono ?_
                            rintro e w2 ⟨hb2, hR⟩
                            rw [show (⟨(W.drop (j + 1)).toArray⟩ : ByteArray).data.toList = W.drop (j + 1) from rfl] at hR
                            have HB2 := Lib.hid hb2
                            clear hb2
                            rcases hR with ⟨hd, rfl⟩ | ⟨b, v, hd, hbl, rfl, hown⟩
                            · have HN : Hid (∀ k m t, ¬ IsWord W k m t) := Lib.hid (fun k m t hw => hw.de (by rw [← (word_passes W j n hj1 hjl hdf.out HEND.out k m t hw).2.2.2]; exact hd))
                              clear hd
                              go_wp2_with fail
                              go_ret3
                              exact ⟨SplitRes.no HN.out _ _, HB2.out⟩
                            · have HW := Lib.hid (passes_word W j n hdf.out ⟨hj2, HZ.out, by omega, hjlt, HD.out, HL.out⟩ (by rw [HG0.out]; exact HK.out) (by rw [hd]; simp))
                              clear hd hbl hown
                              go_wp2_with fail
                              go_ret3
                              refine ⟨.inl ⟨_, _, _, HW.out, ?_⟩, HB2.out⟩
                              rw [HG0.out]
                              rfl
                          · have q6 : ((((W.length : Nat) : Int) - ((j : Nat) : Int)) != 23) = true := by simp only [bne_iff_ne, ne_eq]; omega
                            have HN : Hid (∀ k m t, ¬ IsWord W k m t) := Lib.hid (fun k m t hw => absurd (word_passes W j n hj1 hjl hdf.out HEND.out k m t hw).1.len hlen)
                            clear hlen
                            go_wp2_with fail
                            go_ret3
                            exact ⟨SplitRes.no HN.out _ _, Below.refl _ _⟩
                        · have q5 : (((c.toNat : Nat) : Int) != 46) = true := by simp only [bne_iff_ne, ne_eq]; omega
                          have HN : Hid (∀ k m t, ¬ IsWord W k m t) := Lib.hid (fun k m t hw => hdot (by have := (word_passes W j n hj1 hjl hdf.out HEND.out k m t hw).1.dot; rw [gj] at this; rw [this]; rfl))
                          clear hdot gj
                          go_wp2_with fail
                          go_ret3
                          exact ⟨SplitRes.no HN.out _ _, Below.refl _ _⟩
                · have hix' : ∀ w, (Instr.index 9 (.string ⟨W.toArray⟩) (.int .i64 1)).run Tryd.prog w = .ok (.int .u8 (c.toNat : Nat)) w := hix
                  have l1' : decide ((1 : Int) < ((W.length : Nat) : Int)) = true := l1
                  clear hix l1
                  have HN : Hid (∀ k m t, ¬ IsWord W k m t) := Lib.hid (fun k m t hw => absurd (word_passes W 1 n hj1 hjl hdf.out HEND.out k m t hw).1.two (by omega))
                  go_wp2_with fail
                  go_ret3
                  exact ⟨SplitRes.no HN.out _ _, Below.refl _ _⟩
            · have l2 : decide ((48 : Int) ≤ ((c.toNat : Nat) : Int)) = false := decide_eq_false (by omega)
              clear hend2
              have hj2 : 2 ≤ j ∨ j = 1 := by omega
              rcases hj2 with hj2 | rfl
              · have q1 : (((j : Nat) : Int) == 1) = false := by simp only [beq_eq_false_iff_ne, ne_eq]; omega
                obtain ⟨c1, hc1⟩ : ∃ c, W[1]'(by omega) = c := ⟨_, rfl⟩
                have hx1 : ∀ w, (Instr.index 9 (.string ⟨W.toArray⟩) (.int .i64 1)).run Tryd.prog w = .ok (.int .u8 (c1.toNat : Nat)) w := by rw [← hc1]; exact str_at W 1 (by omega)
                have g1 : W.getD 1 0 = c1 := by rw [getD_at W 1 (by omega), hc1]
                clear hc1
                by_cases hz : c1.toNat = 48
                · have q2 : (((c1.toNat : Nat) : Int) == 48) = true := by rw [hz]; rfl
                  have HN : Hid (∀ k m t, ¬ IsWord W k m t) := Lib.hid (fun k m t hw => (word_passes W j n hj1 hjl hdf.out HEND.out k m t hw).1.nz (by rw [g1]; exact UInt8.toNat_inj.1 (by rw [hz]; rfl)))
                  clear hz g1
                  go_wp2_with fail
                  go_ret3
                  exact ⟨SplitRes.no HN.out _ _, Below.refl _ _⟩
                · have q2 : (((c1.toNat : Nat) : Int) == 48) = false := by simp only [beq_eq_false_iff_ne, ne_eq]; omega
                  have HZ := Lib.hid (show W.getD 1 0 ≠ 48 from fun e => hz (by rw [← g1, e]; rfl))
                  clear hz g1
                  by_cases hbig : 1099511627776 < n
                  · have q3 : decide (1099511627776 < ((n : Nat) : Int)) = true := decide_eq_true (by omega)
                    have HN : Hid (∀ k m t, ¬ IsWord W k m t) := Lib.hid (fun k m t hw => absurd (word_passes W j n hj1 hjl hdf.out HEND.out k m t hw).1.hi (by omega))
                    go_wp2_with fail
                    go_ret3
                    exact ⟨SplitRes.no HN.out _ _, Below.refl _ _⟩
                  · have q3 : decide (1099511627776 < ((n : Nat) : Int)) = false := decide_eq_false (by omega)
                    by_cases hje : j = W.length
                    · have q4 : (((j : Nat) : Int) == ((W.length : Nat) : Int)) = true := by rw [hje]; simp
                      have HN : Hid (∀ k m t, ¬ IsWord W k m t) := Lib.hid (fun k m t hw => absurd (word_passes W j n hj1 hjl hdf.out HEND.out k m t hw).1.lt (by omega))
                      clear hje
                      go_wp2_with fail
                      go_ret3
                      exact ⟨SplitRes.no HN.out _ _, Below.refl _ _⟩
                    · have q4 : (((j : Nat) : Int) == ((W.length : Nat) : Int)) = false := by simp only [beq_eq_false_iff_ne, ne_eq]; omega
                      have hjlt : j < W.length := by omega
                      clear hje
                      have gj := HCJ.out
                      by_cases hdot : c.toNat = 46
                      · have q5 : (((c.toNat : Nat) : Int) != 46) = false := by rw [hdot]; rfl
                        have HD := Lib.hid (show W.getD j 0 = 46 by rw [gj]; exact UInt8.toNat_inj.1 (by rw [hdot]; rfl))
                        clear hdot gj
                        by_cases hlen : W.length = j + 23
                        · have q6 : ((((W.length : Nat) : Int) - ((j : Nat) : Int)) != 23) = false := by
                            have : ((W.length : Nat) : Int) - ((j : Nat) : Int) = 23 := by omega
                            rw [this]; rfl
                          have hst : ∀ w, (Instr.slice 9 (.string ⟨W.toArray⟩) (some (.int .i64 ((j : Int) + 1))) none none).run Tryd.prog w = .ok (.string ⟨(W.drop (j + 1)).toArray⟩) w := str_tail W (j + 1) (by omega) ((j : Int) + 1) (by omega)
                          have HL := Lib.hid hlen
                          clear hlen
                          go_wp2_with fail
                          refine (refDecode_any ⟨(W.drop (j + 1)).toArray⟩ _ (by rw [str_len, List.length_drop]; omega)).mono ?_
                          rintro e w2 ⟨hb2, hR⟩
                          rw [show (⟨(W.drop (j + 1)).toArray⟩ : ByteArray).data.toList = W.drop (j + 1) from rfl] at hR
                          have HB2 := Lib.hid hb2
                          clear hb2
                          rcases hR with ⟨hd, rfl⟩ | ⟨b, v, hd, hbl, rfl, hown⟩
                          · have HN : Hid (∀ k m t, ¬ IsWord W k m t) := Lib.hid (fun k m t hw => hw.de (by rw [← (word_passes W j n hj1 hjl hdf.out HEND.out k m t hw).2.2.2]; exact hd))
                            clear hd
                            go_wp2_with fail
                            go_ret3
                            exact ⟨SplitRes.no HN.out _ _, HB2.out⟩
                          · have HW := Lib.hid (passes_word W j n hdf.out ⟨hj2, HZ.out, by omega, hjlt, HD.out, HL.out⟩ (by rw [HG0.out]; exact HK.out) (by rw [hd]; simp))
                            clear hd hbl hown
                            go_wp2_with fail
                            go_ret3
                            refine ⟨.inl ⟨_, _, _, HW.out, ?_⟩, HB2.out⟩
                            rw [HG0.out]
                            rfl
                        · have q6 : ((((W.length : Nat) : Int) - ((j : Nat) : Int)) != 23) = true := by simp only [bne_iff_ne, ne_eq]; omega
                          have HN : Hid (∀ k m t, ¬ IsWord W k m t) := Lib.hid (fun k m t hw => absurd (word_passes W j n hj1 hjl hdf.out HEND.out k m t hw).1.len hlen)
                          clear hlen
                          go_wp2_with fail
                          go_ret3
                          exact ⟨SplitRes.no HN.out _ _, Below.refl _ _⟩
                      · have q5 : (((c.toNat : Nat) : Int) != 46) = true := by simp only [bne_iff_ne, ne_eq]; omega
                        have HN : Hid (∀ k m t, ¬ IsWord W k m t) := Lib.hid (fun k m t hw => hdot (by have := (word_passes W j n hj1 hjl hdf.out HEND.out k m t hw).1.dot; rw [gj] at this; rw [this]; rfl))
                        clear hdot gj
                        go_wp2_with fail
                        go_ret3
                        exact ⟨SplitRes.no HN.out _ _, Below.refl _ _⟩
              · have hix' : ∀ w, (Instr.index 9 (.string ⟨W.toArray⟩) (.int .i64 1)).run Tryd.prog w = .ok (.int .u8 (c.toNat : Nat)) w := hix
                have l1' : decide ((1 : Int) < ((W.length : Nat) : Int)) = true := l1
                clear hix l1
                have HN : Hid (∀ k m t, ¬ IsWord W k m t) := Lib.hid (fun k m t hw => absurd (word_passes W 1 n hj1 hjl hdf.out HEND.out k m t hw).1.two (by omega))
                go_wp2_with fail
                go_ret3
                exact ⟨SplitRes.no HN.out _ _, Below.refl _ _⟩
          · have l1 : decide (((j : Nat) : Int) < ((W.length : Nat) : Int)) = false := decide_eq_false (by omega)
            clear hend
            have hj2 : 2 ≤ j ∨ j = 1 := by omega
            rcases hj2 with hj2 | rfl
            · have q1 : (((j : Nat) : Int) == 1) = false := by simp only [beq_eq_false_iff_ne, ne_eq]; omega
              obtain ⟨c1, hc1⟩ : ∃ c, W[1]'(by omega) = c := ⟨_, rfl⟩
              have hx1 : ∀ w, (Instr.index 9 (.string ⟨W.toArray⟩) (.int .i64 1)).run Tryd.prog w = .ok (.int .u8 (c1.toNat : Nat)) w := by rw [← hc1]; exact str_at W 1 (by omega)
              have g1 : W.getD 1 0 = c1 := by rw [getD_at W 1 (by omega), hc1]
              clear hc1
              by_cases hz : c1.toNat = 48
              · have q2 : (((c1.toNat : Nat) : Int) == 48) = true := by rw [hz]; rfl
                have HN : Hid (∀ k m t, ¬ IsWord W k m t) := Lib.hid (fun k m t hw => (word_passes W j n hj1 hjl hdf.out HEND.out k m t hw).1.nz (by rw [g1]; exact UInt8.toNat_inj.1 (by rw [hz]; rfl)))
                clear hz g1
                go_wp2_with fail
                go_ret3
                exact ⟨SplitRes.no HN.out _ _, Below.refl _ _⟩
              · have q2 : (((c1.toNat : Nat) : Int) == 48) = false := by simp only [beq_eq_false_iff_ne, ne_eq]; omega
                have HZ := Lib.hid (show W.getD 1 0 ≠ 48 from fun e => hz (by rw [← g1, e]; rfl))
                clear hz g1
                by_cases hbig : 1099511627776 < n
                · have q3 : decide (1099511627776 < ((n : Nat) : Int)) = true := decide_eq_true (by omega)
                  have HN : Hid (∀ k m t, ¬ IsWord W k m t) := Lib.hid (fun k m t hw => absurd (word_passes W j n hj1 hjl hdf.out HEND.out k m t hw).1.hi (by omega))
                  go_wp2_with fail
                  go_ret3
                  exact ⟨SplitRes.no HN.out _ _, Below.refl _ _⟩
                · have q3 : decide (1099511627776 < ((n : Nat) : Int)) = false := decide_eq_false (by omega)
                  by_cases hje : j = W.length
                  · have q4 : (((j : Nat) : Int) == ((W.length : Nat) : Int)) = true := by rw [hje]; simp
                    have HN : Hid (∀ k m t, ¬ IsWord W k m t) := Lib.hid (fun k m t hw => absurd (word_passes W j n hj1 hjl hdf.out HEND.out k m t hw).1.lt (by omega))
                    clear hje
                    go_wp2_with fail
                    go_ret3
                    exact ⟨SplitRes.no HN.out _ _, Below.refl _ _⟩
                  · exfalso; omega
            · exfalso; omega
end Go.Proofs.YtbblnlddiafkhaaDoor
/- The document's Word. -/
set_option linter.unusedVariables false
namespace Go.Proofs.YtbblnlddiafkhaaDoor
open Go.RowKit

set_option maxRecDepth 100000 in
set_option maxHeartbeats 8000000 in
theorem refword_any (ak : Option Addr) (ck : Nat) (key : List UInt8) (k : UInt8) (n : Nat) (w : World) (hrk : Rd w ak key) (hk : key.length ≤ 1000) (hn : n ≤ 1099511627776) :
    Calls Tryd.prog 17 #[.slice ak key.length ck, .int .u8 (k.toNat : Int), .int .i64 (n : Int)] w fun e w' => e = .returned (.string ⟨(wordL key k n).toArray⟩) ∧ Below w.heap.size w w' := by
  have HR0 := Lib.hid hrk
  have hlen := dec_len n 13 (by decide) (by have : (10 : Nat) ^ 13 = 10000000000000 := by decide
                                            omega)
  have hcat : (⟨#[k]⟩ : ByteArray) ++ (⟨(Lib.decDigits n).toArray⟩ : ByteArray) = ⟨(k :: Lib.decDigits n).toArray⟩ := by
    apply ByteArray.ext
    simp
  have HCAT := Lib.hid hcat
  clear hcat hrk
  go_enter Tryd.func17, Tryd.ntmps17
  go_upto_region 1 with (fail)
  refine wp_region_grow (by kernel_rfl) (by kernel_rfl) [8, 9, 10, 11, 12, 13, 7] rfl (by decide) (by kernel_rfl) (fun iX => [VIs (.int .u8 (k.toNat : Int)), VBytes [k], VStr [k], VIs (.int .i64 (n : Int)), VIs (.string ⟨(Lib.decDigits n).toArray⟩), VIs (.string ⟨(k :: Lib.decDigits n).toArray⟩), VIs (.string ⟨(k :: Lib.decDigits n).toArray⟩)].getD iX fun _ _ => True) (stab_list _ ?_) ?_ ?_
  · skip
    intro V hV
    simp only [List.mem_cons, List.mem_nil_iff, or_false] at hV
    rcases hV with rfl | rfl | rfl | rfl | rfl | rfl | rfl <;> first | exact VIs.stab _ | exact VBytes.stab _ | exact VStr.stab _ | exact VParts.stab _ | exact VRow.stab _ | exact VRow8.stab _ _ | exact VRowIs.stab _ _ _
  · intro iX o ho a' w' hf hb hd
    rcases iX with _ | _ | _ | _ | _ | _ | _ | iX
    · cases ho
      refine grow_op rfl rfl rfl (grow_move rfl ?_)
      exact (hf.same 1 (by decide)).trans rfl
    · cases ho
      refine grow_op rfl rfl rfl ?_
      exact grow_byte1 rfl (hd 0 (by kernel_rfl))
    · cases ho
      refine grow_op rfl rfl rfl ?_
      exact grow_str rfl (hd 1 (by kernel_rfl))
    · cases ho
      refine grow_op rfl rfl rfl (grow_move rfl ?_)
      exact (hf.same 2 (by decide)).trans rfl
    · cases ho
      refine grow_op rfl rfl rfl ?_
      have e3 : a'.tmps.getD 11 undef = .int .i64 (n : Int) := hd 3 (by kernel_rfl)
      refine grow_call ent_digits rfl ?_
      simp only [List.map_toArray, List.map_cons, List.map_nil, Act.eval, e3]
      exact (digits_any n w' hn).mono (fun e w'' ⟨h1, h2⟩ => ⟨_, h1, rfl, h2⟩)
    · cases ho
      refine grow_op rfl rfl rfl ?_
      have e2 : a'.tmps.getD 10 undef = .string ⟨[k].toArray⟩ := hd 2 (by kernel_rfl)
      have e4 : a'.tmps.getD 12 undef = .string ⟨(Lib.decDigits n).toArray⟩ := hd 4 (by kernel_rfl)
      refine grow_value (v := .string ⟨(k :: Lib.decDigits n).toArray⟩) (w' := w') ?_ rfl (Below.refl _ _)
      simp only [execOp, Act.eval, e2, e4]
      go_simp
      rw [if_neg (by omega), HCAT.out]
    · cases ho
      refine grow_op rfl rfl rfl (grow_assign rfl ?_)
      exact hd 5 (by kernel_rfl)
    · simp at ho
  · intro a' w' hf hb hd
    obtain ⟨a9, c9, hv9, _⟩ := hd 1 (by decide)
    obtain rfl := hf.eq [Value.int IntKind.u8 (k.toNat : Int), Value.slice a9 [k].length c9, Value.string ⟨[k].toArray⟩, Value.int IntKind.i64 (n : Int), Value.string ⟨(Lib.decDigits n).toArray⟩, Value.string ⟨(k :: Lib.decDigits n).toArray⟩, Value.string ⟨(k :: Lib.decDigits n).toArray⟩] (fun j hj => match j, hj with
      | 0, _ => hd 0 (by decide)
      | 1, _ => hv9
      | 2, _ => hd 2 (by decide)
      | 3, _ => hd 3 (by decide)
      | 4, _ => hd 4 (by decide)
      | 5, _ => hd 5 (by decide)
      | 6, _ => hd 6 (by decide)
      | k + 7, h => absurd h (by simp)) (by decide) (by kernel_rfl) rfl
    simp only [List.zip_cons_cons, List.zip_nil_right, List.foldl_cons, List.foldl_nil, Act.put, List.setIfInBounds_toArray, List.set_cons_succ, List.set_cons_zero]
    have HB1 := Lib.hid hb
    have HR1 := Lib.hid (HR0.out.below hb)
    clear hd hf hb hv9 HR0 HCAT
    rw [show k :: Lib.decDigits n = frontL k n from rfl]
    have hfl : (frontL k n).length ≤ 14 := by unfold frontL; simp; omega
    have HW := Lib.hid (show wordL key k n = frontL k n ++ 46 :: enc ((mac key (frontL k n)).take 16) from rfl)
    clear hlen
    generalize frontL k n = F at *
    obtain ⟨cs, w2, hcv, hb2, hrs, hz2⟩ := bytes_of_str F w'
    have hco := rcode_any ak ck key.length key F (some ⟨w'.heap.size, 0, none⟩) F.length cs w2 (HR1.out.below hb2) rfl hrs rfl (by omega) (by omega)
    have HB2 := Lib.hid (HB1.out.trans (hb2.mono HB1.out.size))
    have HCO := Lib.hid hco
    have hml := mac_len key F
    clear hb2 hrs hco hz2
    go_wp2_with fail
    refine HCO.out.mono ?_
    rintro e w3 ⟨v, rfl, htl, hb3⟩
    obtain ⟨am, cm, rfl, hrm, hlc, _, _⟩ := htl.shape
    have HB3 := Lib.hid (HB2.out.trans (hb3.mono HB2.out.size))
    have hrt := hrm.take 16
    have hlt : ((mac key F).take 16).length = 16 := by rw [List.length_take, hml]; rfl
    have hel := enc_len ((mac key F).take 16)
    rw [hlt] at hel
    have hel2 : (enc ((mac key F).take 16)).length ≤ 22 := by omega
    have HRT := Lib.hid hrt
    have HLT := Lib.hid hlt
    clear hb3 HCO hrm hrt htl hel
    rw [hml] at hlc
    clear hlt hml
    generalize (mac key F).take 16 = T at *
    go_wp2_with fail
    refine (refEncode_at am T 16 cm w3 HRT.out HLT.out.symm (by rw [HLT.out]; decide)).mono ?_
    rintro e w4 ⟨rfl, hb4⟩
    have HB4 := Lib.hid (HB3.out.trans (hb4.mono HB3.out.size))
    clear hb4
    generalize enc T = E at *
    go_wp2_with fail
    go_ret
    refine ⟨?_, HB4.out⟩
    rw [HW.out]
    have e : (⟨F.toArray⟩ : ByteArray) ++ (⟨#[46]⟩ : ByteArray) ++ (⟨E.toArray⟩ : ByteArray) = ⟨(F ++ 46 :: E).toArray⟩ := by
      apply ByteArray.ext
      simp
    rw [← e]
    rfl
end Go.Proofs.YtbblnlddiafkhaaDoor
/- The anchor of klaxonlaw15; a literal key. -/
set_option linter.unusedVariables false
namespace Go.Proofs.YtbblnlddiafkhaaDoor
open Go.RowKit

def key16 : List UInt8 := [48, 49, 50, 51, 52, 53, 54, 55, 56, 57, 97, 98, 99, 100, 101, 102]
theorem front_12 : frontL 97 12 = [97, 49, 50] := by
  unfold frontL
  rw [dec_big 12 (by decide), dec_small (12 / 10) (by decide)]
  rfl
theorem wordL_len (key : List UInt8) (k : UInt8) (n : Nat) (h1 : 1 ≤ n) (h2 : n ≤ 1099511627776) : 25 ≤ (wordL key k n).length ∧ (wordL key k n).length ≤ 40 := by
  have hdl := dec_len n 13 (by decide) (by have : (10 : Nat) ^ 13 = 10000000000000 := by decide
                                           omega)
  have hdp : 1 ≤ (Lib.decDigits n).length := List.length_pos_iff.2 (dec_ne n)
  have ht := (tail_is key (frontL k n)).1
  unfold wordL
  simp only [List.length_append, List.length_cons, ht]
  unfold frontL
  simp only [List.length_cons]
  omega
/-- How Read ends. -/
def ReadRes (key W : List UInt8) (e : Ending) : Prop :=
  (∃ (k : UInt8) (n : Nat), knownB k = true ∧ 1 ≤ n ∧ n ≤ 1099511627776 ∧ W = wordL key k n ∧ e = .returned (.tuple #[.int .u8 (k.toNat : Int), .int .i64 (n : Int), .int .i64 0])) ∨
  ((∀ (k : UInt8) (n : Nat), knownB k = true → 1 ≤ n → n ≤ 1099511627776 → W ≠ wordL key k n) ∧ ∃ c : Int, (c = 40 ∧ (∃ k n t, IsWord W k n t) ∨ c = 10 ∧ ∀ k n t, ¬ IsWord W k n t) ∧ e = .returned (.tuple #[.int .u8 0, .int .i64 0, .int .i64 c]))
theorem read_any (g : Nat) (key W : List UInt8) (w : World) (hm : Mt w g key) (hk : key.length ≤ 1000) (hl : W.length ≤ 1000) (hs : Std w) :
    Calls Tryd.prog 16 #[.pointer (some ⟨g, 0, none⟩), .string ⟨W.toArray⟩] w fun e w' => ReadRes key W e ∧ Below w.heap.size w w' := by
  by_cases hw : ∃ k n t, IsWord W k n t
  · obtain ⟨k, n, t, hw⟩ := hw
    refine (read_is g key W k n t _ w hm hk hw rfl hs).mono ?_
    rintro e w' ⟨rfl, hb⟩
    refine ⟨?_, hb⟩
    cases ht : t == tailL key (frontL k n) with
    | true =>
      have e1 : t = tailL key (frontL k n) := by simpa using ht
      exact .inl ⟨k, n, hw.kn, hw.lo, hw.hi, by rw [hw.eq, e1]; rfl, rfl⟩
    | false =>
      refine .inr ⟨fun k' n' h1 h2 h3 e1 => ?_, 40, .inl ⟨rfl, k, n, t, hw⟩, rfl⟩
      have h4 := word_is key k' n' h1 h2 h3
      rw [← e1] at h4
      obtain ⟨rfl, rfl, rfl⟩ := hw.uniq h4
      simp at ht
  · have hno : ∀ k n t, ¬ IsWord W k n t := fun k n t h => hw ⟨k, n, t, h⟩
    refine (read_form g W w hl hno hs).mono ?_
    rintro e w' ⟨rfl, hb⟩
    refine ⟨.inr ⟨fun k' n' h1 h2 h3 e1 => hno k' n' _ (by rw [e1]; exact word_is key k' n' h1 h2 h3), 10, .inr ⟨rfl, hno⟩, rfl⟩, hb⟩
theorem read_word (g : Nat) (key : List UInt8) (k : UInt8) (n : Nat) (w : World) (hm : Mt w g key) (hk : key.length ≤ 1000) (hkn : knownB k = true) (h1 : 1 ≤ n) (h2 : n ≤ 1099511627776) (hs : Std w) :
    Calls Tryd.prog 16 #[.pointer (some ⟨g, 0, none⟩), .string ⟨(wordL key k n).toArray⟩] w fun e w' => e = .returned (.tuple #[.int .u8 (k.toNat : Int), .int .i64 (n : Int), .int .i64 0]) ∧ Below w.heap.size w w' := by
  refine (read_is g key _ k n _ true w hm hk (word_is key k n hkn h1 h2) (by simp) hs).mono ?_
  rintro e w' ⟨rfl, hb⟩
  exact ⟨rfl, hb⟩
def key16Cells : Array Value := #[.int .u8 48, .int .u8 49, .int .u8 50, .int .u8 51, .int .u8 52, .int .u8 53, .int .u8 54, .int .u8 55, .int .u8 56, .int .u8 57, .int .u8 97, .int .u8 98, .int .u8 99, .int .u8 100, .int .u8 101, .int .u8 102]
set_option maxRecDepth 100000 in
set_option maxHeartbeats 8000000 in
theorem anchor15_any (w : World) (hs : Std w) : Calls Tryd.prog 12 #[] w fun e w' => e = .returned (.bool true) ∧ Below w.heap.size w w' := by
  have kc := fun (w : World) (C : Array Value) (n c : Nat) => Lib.run_convert_bytes_const (P := Tryd.prog) w 28 5 C n c Tryd.underlying28 Tryd.underlying5
  have HS := Lib.hid hs
  clear hs
  go_enter Tryd.func12, Tryd.ntmps12
  go_wp2_with fail
  have hA : Rd (w.alloc (.cells key16Cells 5 (16, 17))) (some ⟨w.heap.size, 0, none⟩) key16 := Rd.of_lit (T := 5) (fr := (16, 17)) _ (by rw [heap_alloc_new]; rfl)
  have hbA : Below w.heap.size w (w.alloc (.cells key16Cells 5 (16, 17))) := (Below.refl _ _).alloc (Nat.le_refl _) _
  have HB := Lib.hid hbA
  have HS0 := Lib.hid (HS.out.below hbA)
  clear kc hbA
  unfold key16Cells at *
  refine (new_ok (some ⟨w.heap.size, 0, none⟩) 16 key16 _ hA (by decide) (by decide)).mono ?_
  rintro e w1 ⟨g, rfl, hmt, hb1⟩
  have HB1 := Lib.hid (HB.out.trans (hb1.mono HB.out.size))
  have HS1 := Lib.hid (HS0.out.below hb1)
  have HM1 := Lib.hid hmt
  clear hA hb1 HB HS0 hmt
  go_wp2_with fail
  refine (make_ok g key16 97 12 w1 HM1.out HS1.out.pow (by decide) (by decide) (by decide) (by decide)).mono ?_
  rintro e w2 ⟨rfl, hb2⟩
  have HB2 := Lib.hid (HB1.out.trans (hb2.mono HB1.out.size))
  have HS2 := Lib.hid (HS1.out.below hb2)
  have HM2 := Lib.hid (HM1.out.below hb2)
  have HR := Lib.hid (read_word g key16 97 12 w2 HM2.out (by decide) (by decide) (by decide) (by decide) HS2.out)
  have hwl : wordL key16 97 12 = [97, 49, 50, 46] ++ tailL key16 [97, 49, 50] := by
    unfold wordL
    rw [front_12]
    rfl
  have ht := (tail_is key16 [97, 49, 50]).1
  have hlen : (wordL key16 97 12).length = 26 := by rw [hwl, List.length_append, ht]; rfl
  have hq : ((((wordL key16 97 12).length : Nat) : Int) == 26) = true := by rw [hlen]; rfl
  have hq2 : (4 : Int) ≤ (((wordL key16 97 12).length : Nat) : Int) := by omega
  have hsl : ∀ w, (Instr.slice 9 (.string ⟨(wordL key16 97 12).toArray⟩) none (some (.int .i64 4)) none).run Tryd.prog w = .ok (.string ⟨#[97, 49, 50, 46]⟩) w := by
    intro w
    rw [str_head (wordL key16 97 12) 4 (by omega) 4 rfl w, hwl]
    rfl
  clear hb2 hwl ht hlen
  generalize wordL key16 97 12 = W at *
  go_wp2_with fail
  refine HR.out.mono ?_
  rintro e w3 ⟨rfl, hb3⟩
  have HB3 := Lib.hid (HB2.out.trans (hb3.mono HB2.out.size))
  clear hb3
  go_wp2_with fail
  go_ret
  exact ⟨rfl, HB3.out⟩
end Go.Proofs.YtbblnlddiafkhaaDoor
/- The walks of the laws TokenHashes, TokenMakes, TokenReads, TokenUnlike. -/
set_option linter.unusedVariables false
namespace Go.Proofs.YtbblnlddiafkhaaDoor
open Go.RowKit

theorem bytes_list (s : ByteArray) : ∃ l : List UInt8, s = ⟨l.toArray⟩ := ⟨s.data.toList, by cases s; rfl⟩
theorem u8_of {x : Int} (h : (Lit.int .u8 x).wf = true) : ∃ k : UInt8, x = (k.toNat : Int) := by
  have h1 : 0 ≤ x ∧ x ≤ 255 := by
    simp only [Lit.wf, Bool.and_eq_true, IntKind.min, IntKind.max] at h
    exact ⟨by simpa [IntKind.signed] using h.1, by simpa [IntKind.signed, IntKind.bits] using h.2⟩
  refine ⟨UInt8.ofNat x.toNat, ?_⟩
  rw [UInt8.toNat_ofNat']
  omega
set_option maxRecDepth 100000 in
set_option maxHeartbeats 8000000 in
theorem tokenHashes_walk (a : Option Addr) (c : Nat) (l : List UInt8) (n1 n2 : ByteArray) (w : World) (hr : Rd w a l) (h1 : n1.size ≤ maxLen) (h2 : n2.size ≤ maxLen)
    (hm : ∃ m, w.cell? ⟨0, 0, none⟩ = some (.int .i64 m)) (hst : Pow w ∧ Sent w "strconv.ErrRange" ∧ Sent w "strconv.ErrSyntax") :
    Calls Tryd.prog 8 #[.slice a l.length c, .string n1, .string n2] w fun e w' => e = .returned (.bool true) ∧ Below w.heap.size w w' := by
  have hs : Std w := ⟨hst.1, hst.2.2, hst.2.1, hm⟩
  unfold maxLen at h1 h2
  obtain ⟨A, rfl⟩ := bytes_list n1
  obtain ⟨B, rfl⟩ := bytes_list n2
  rw [str_len] at h1 h2
  have HS := Lib.hid hs
  have HR := Lib.hid hr
  clear hm hst hs hr
  go_enter Tryd.func8, Tryd.ntmps8
  go_wp2_with fail
  refine (anchor15_any w HS.out).mono ?_
  rintro e w1 ⟨rfl, hb1⟩
  have HB1 := Lib.hid hb1
  have HR1 := Lib.hid (HR.out.below hb1)
  clear hb1
  by_cases c1 : 100 < l.length
  · have d1 : decide ((100 : Int) < ((l.length : Nat) : Int)) = true := decide_eq_true (by omega)
    go_wp2_with fail
    go_ret
    exact ⟨rfl, HB1.out⟩
  have d1 : decide ((100 : Int) < ((l.length : Nat) : Int)) = false := decide_eq_false (by omega)
  by_cases c2 : l.length < 16
  · have d2 : decide (((l.length : Nat) : Int) < 16) = true := decide_eq_true (by omega)
    go_wp2_with fail
    go_ret
    exact ⟨rfl, HB1.out⟩
  have d2 : decide (((l.length : Nat) : Int) < 16) = false := decide_eq_false (by omega)
  by_cases c3 : 300 < A.length
  · have d3 : decide ((300 : Int) < ((A.length : Nat) : Int)) = true := decide_eq_true (by omega)
    go_wp2_with fail
    go_ret
    exact ⟨rfl, HB1.out⟩
  have d3 : decide ((300 : Int) < ((A.length : Nat) : Int)) = false := decide_eq_false (by omega)
  by_cases c4 : 300 < B.length
  · have d4 : decide ((300 : Int) < ((B.length : Nat) : Int)) = true := decide_eq_true (by omega)
    go_wp2_with fail
    go_ret
    exact ⟨rfl, HB1.out⟩
  have d4 : decide ((300 : Int) < ((B.length : Nat) : Int)) = false := decide_eq_false (by omega)
  go_wp2_with fail
  refine (new_ok a c l w1 HR1.out (by omega) (by omega)).mono ?_
  rintro e w2 ⟨g, rfl, hmt, hb2⟩
  have HB2 := Lib.hid (HB1.out.trans (hb2.mono HB1.out.size))
  have HM2 := Lib.hid hmt
  have HR2 := Lib.hid (HR1.out.below hb2)
  clear hb2 hmt
  go_wp2_with fail
  refine (hash_any g l A B w2 HM2.out (by omega) (by omega) (by omega)).mono ?_
  rintro e w3 ⟨rfl, hb3⟩
  have HB3 := Lib.hid (HB2.out.trans (hb3.mono HB2.out.size))
  have HR3 := Lib.hid (HR2.out.below hb3)
  have HH := Lib.hid (refhash_any a c l A B w3 HR3.out (by omega) (by omega) (by omega))
  clear hb3
  generalize hashL l A B = H at *
  go_wp2_with fail
  refine HH.out.mono ?_
  rintro e w4 ⟨rfl, hb4⟩
  have HB4 := Lib.hid (HB3.out.trans (hb4.mono HB3.out.size))
  clear hb4
  go_wp2_with fail
  go_ret
  exact ⟨rfl, HB4.out⟩
set_option maxRecDepth 100000 in
set_option maxHeartbeats 8000000 in
theorem tokenUnlike_walk (a : Option Addr) (c : Nat) (l : List UInt8) (x n y m : Int) (w : World) (hr : Rd w a l) (hx : (Lit.int .u8 x).wf = true) (hn : (Lit.int .i64 n).wf = true) (hy : (Lit.int .u8 y).wf = true) (hmm : (Lit.int .i64 m).wf = true)
    (hm : ∃ m, w.cell? ⟨0, 0, none⟩ = some (.int .i64 m)) (hst : Pow w ∧ Sent w "strconv.ErrRange" ∧ Sent w "strconv.ErrSyntax") :
    Calls Tryd.prog 7 #[.slice a l.length c, .int .u8 x, .int .i64 n, .int .u8 y, .int .i64 m] w fun e w' => e = .returned (.bool true) ∧ Below w.heap.size w w' := by
  have hs : Std w := ⟨hst.1, hst.2.2, hst.2.1, hm⟩
  obtain ⟨k, rfl⟩ := u8_of hx
  obtain ⟨q, rfl⟩ := u8_of hy
  have HS := Lib.hid hs
  have HR := Lib.hid hr
  clear hm hst hs hr hn hmm hx hy
  go_enter Tryd.func7, Tryd.ntmps7
  go_wp2_with fail
  refine (anchor15_any w HS.out).mono ?_
  rintro e w1 ⟨rfl, hb1⟩
  have HB1 := Lib.hid hb1
  have HR1 := Lib.hid (HR.out.below hb1)
  have HS1 := Lib.hid (HS.out.below hb1)
  clear hb1
  by_cases c2 : l.length < 16
  · have d2 : decide (((l.length : Nat) : Int) < 16) = true := decide_eq_true (by omega)
    go_wp2_with fail
    go_ret
    exact ⟨rfl, HB1.out⟩
  have d2 : decide (((l.length : Nat) : Int) < 16) = false := decide_eq_false (by omega)
  by_cases c1 : 100 < l.length
  · have d1 : decide ((100 : Int) < ((l.length : Nat) : Int)) = true := decide_eq_true (by omega)
    go_wp2_with fail
    go_ret
    exact ⟨rfl, HB1.out⟩
  have d1 : decide ((100 : Int) < ((l.length : Nat) : Int)) = false := decide_eq_false (by omega)
  go_wp2_with fail
  refine (refknown_any k w1).mono ?_
  rintro e w2 ⟨rfl, rfl⟩
  cases hk : knownB k with
  | false =>
    go_wp2_with fail
    go_ret
    exact ⟨rfl, HB1.out⟩
  | true =>
    have HK := Lib.hid hk
    clear hk
    go_wp2_with fail
    refine (refknown_any q w2).mono ?_
    rintro e w3 ⟨rfl, rfl⟩
    cases hq : knownB q with
    | false =>
      go_wp2_with fail
      go_ret
      exact ⟨rfl, HB1.out⟩
    | true =>
      have HQ := Lib.hid hq
      clear hq
      by_cases e1 : n < 1
      · have f1 : decide (n < 1) = true := decide_eq_true e1
        go_wp2_with fail
        go_ret
        exact ⟨rfl, HB1.out⟩
      have f1 : decide (n < 1) = false := decide_eq_false e1
      by_cases e2 : 1099511627776 < n
      · have f2 : decide (1099511627776 < n) = true := decide_eq_true e2
        go_wp2_with fail
        go_ret
        exact ⟨rfl, HB1.out⟩
      have f2 : decide (1099511627776 < n) = false := decide_eq_false e2
      by_cases e3 : m < 1
      · have f3 : decide (m < 1) = true := decide_eq_true e3
        go_wp2_with fail
        go_ret
        exact ⟨rfl, HB1.out⟩
      have f3 : decide (m < 1) = false := decide_eq_false e3
      by_cases e4 : 1099511627776 < m
      · have f4 : decide (1099511627776 < m) = true := decide_eq_true e4
        go_wp2_with fail
        go_ret
        exact ⟨rfl, HB1.out⟩
      have f4 : decide (1099511627776 < m) = false := decide_eq_false e4
      obtain ⟨N, rfl⟩ : ∃ k : Nat, n = (k : Int) := ⟨n.toNat, by omega⟩
      obtain ⟨M, rfl⟩ : ∃ k : Nat, m = (k : Int) := ⟨m.toNat, by omega⟩
      have hN1 : 1 ≤ N := by omega
      have hM1 : 1 ≤ M := by omega
      have hN2 : N ≤ 1099511627776 := by omega
      have hM2 : M ≤ 1099511627776 := by omega
      go_wp2_with fail
      refine (new_ok a c l w3 HR1.out (by omega) (by omega)).mono ?_
      rintro e w4 ⟨g, rfl, hmt, hb4⟩
      have HB4 := Lib.hid (HB1.out.trans (hb4.mono HB1.out.size))
      have HM4 := Lib.hid hmt
      have HS4 := Lib.hid (HS1.out.below hb4)
      clear hb4 hmt
      go_wp2_with fail
      refine (make_ok g l k N w4 HM4.out HS4.out.pow (by omega) HK.out hN1 hN2).mono ?_
      rintro e w5 ⟨rfl, hb5⟩
      have HB5 := Lib.hid (HB4.out.trans (hb5.mono HB4.out.size))
      have HM5 := Lib.hid (HM4.out.below hb5)
      have HS5 := Lib.hid (HS4.out.below hb5)
      have HMK := Lib.hid (make_ok g l q M w5 HM5.out HS5.out.pow (by omega) HQ.out hM1 hM2)
      have heq : (wordL l k N == wordL l q M) = (decide (((k.toNat : Nat) : Int) = ((q.toNat : Nat) : Int)) && decide (((N : Nat) : Int) = ((M : Nat) : Int))) := by
        rw [Bool.eq_iff_iff]
        simp only [beq_iff_eq, Bool.and_eq_true, decide_eq_true_eq]
        constructor
        · intro h
          obtain ⟨rfl, rfl⟩ := word_inj HK.out hN1 hN2 HQ.out hM1 hM2 h
          exact ⟨rfl, rfl⟩
        · rintro ⟨h1, h2⟩
          have h3 : k = q := UInt8.toNat_inj.1 (by omega)
          have h4 : N = M := by omega
          rw [h3, h4]
      have HEQ := Lib.hid heq
      clear hb5 heq
      generalize wordL l k N = S at *
      generalize wordL l q M = T at *
      go_wp2_with fail
      refine HMK.out.mono ?_
      rintro e w6 ⟨rfl, hb6⟩
      have HB6 := Lib.hid (HB5.out.trans (hb6.mono HB5.out.size))
      clear hb6
      have heq := HEQ.out
      by_cases kq : ((k.toNat : Nat) : Int) = ((q.toNat : Nat) : Int)
      · have b1 : ((((k.toNat : Nat) : Int)) == ((q.toNat : Nat) : Int)) = true := by simpa using kq
        by_cases nm : ((N : Nat) : Int) = ((M : Nat) : Int)
        · have b2 : (((N : Nat) : Int) == ((M : Nat) : Int)) = true := by simpa using nm
          rw [decide_eq_true kq, decide_eq_true nm] at heq
          have b3 : (S == T) = true := heq
          clear heq kq nm HEQ
          go_wp2_with fail
          go_ret
          exact ⟨rfl, HB6.out⟩
        · have b2 : (((N : Nat) : Int) == ((M : Nat) : Int)) = false := by simpa using nm
          rw [decide_eq_true kq, decide_eq_false nm] at heq
          have b3 : (S == T) = false := heq
          clear heq kq nm HEQ
          go_wp2_with fail
          go_ret
          exact ⟨rfl, HB6.out⟩
      · have b1 : ((((k.toNat : Nat) : Int)) == ((q.toNat : Nat) : Int)) = false := by simpa using kq
        rw [decide_eq_false kq] at heq
        have b3 : (S == T) = false := heq
        clear heq kq HEQ
        go_wp2_with fail
        go_ret
        exact ⟨rfl, HB6.out⟩
end Go.Proofs.YtbblnlddiafkhaaDoor
/- The walks of the laws TokenMakes, TokenReads. -/
set_option linter.unusedVariables false
namespace Go.Proofs.YtbblnlddiafkhaaDoor
open Go.RowKit

set_option maxRecDepth 100000 in
set_option maxHeartbeats 8000000 in
theorem tokenMakes_walk (a : Option Addr) (c : Nat) (l : List UInt8) (x n : Int) (w : World) (hr : Rd w a l) (hx : (Lit.int .u8 x).wf = true) (hn : (Lit.int .i64 n).wf = true)
    (hm : ∃ m, w.cell? ⟨0, 0, none⟩ = some (.int .i64 m)) (hst : Pow w ∧ Sent w "strconv.ErrRange" ∧ Sent w "strconv.ErrSyntax") :
    Calls Tryd.prog 4 #[.slice a l.length c, .int .u8 x, .int .i64 n] w fun e w' => e = .returned (.bool true) ∧ Below w.heap.size w w' := by
  have hs : Std w := ⟨hst.1, hst.2.2, hst.2.1, hm⟩
  obtain ⟨k, rfl⟩ := u8_of hx
  have HS := Lib.hid hs
  have HR := Lib.hid hr
  clear hm hst hs hr hn hx
  go_enter Tryd.func4, Tryd.ntmps4
  go_wp2_with fail
  refine (anchor15_any w HS.out).mono ?_
  rintro e w1 ⟨rfl, hb1⟩
  have HB1 := Lib.hid hb1
  have HR1 := Lib.hid (HR.out.below hb1)
  have HS1 := Lib.hid (HS.out.below hb1)
  clear hb1
  by_cases c1 : 100 < l.length
  · have d1 : decide ((100 : Int) < ((l.length : Nat) : Int)) = true := decide_eq_true (by omega)
    go_wp2_with fail
    go_ret
    exact ⟨rfl, HB1.out⟩
  have d1 : decide ((100 : Int) < ((l.length : Nat) : Int)) = false := decide_eq_false (by omega)
  by_cases c2 : l.length < 16
  · have d2 : decide (((l.length : Nat) : Int) < 16) = true := decide_eq_true (by omega)
    go_wp2_with fail
    refine (new_short a c l w1 c2).mono ?_
    rintro e w2 ⟨rfl, rfl⟩
    go_wp2_with fail
    go_ret
    exact ⟨rfl, HB1.out⟩
  have d2 : decide (((l.length : Nat) : Int) < 16) = false := decide_eq_false (by omega)
  go_wp2_with fail
  refine (new_ok a c l w1 HR1.out (by omega) (by omega)).mono ?_
  rintro e w2 ⟨g, rfl, hmt, hb2⟩
  have HB2 := Lib.hid (HB1.out.trans (hb2.mono HB1.out.size))
  have HM2 := Lib.hid hmt
  have HS2 := Lib.hid (HS1.out.below hb2)
  have HR2 := Lib.hid (HR1.out.below hb2)
  clear hb2 hmt
  cases hk : knownB k with
  | false =>
    have HK := Lib.hid hk
    clear hk
    go_wp2_with fail
    refine (make_kind g k n w2 HK.out).mono ?_
    rintro e w3 ⟨rfl, rfl⟩
    go_wp2_with fail
    refine (refknown_any k w3).mono ?_
    rintro e w4 ⟨rfl, rfl⟩
    rw [HK.out]
    go_wp2_with fail
    go_ret
    exact ⟨rfl, HB2.out⟩
  | true =>
    have HK := Lib.hid hk
    clear hk
    by_cases e1 : n < 1
    · have f1 : decide (n < 1) = true := decide_eq_true e1
      go_wp2_with fail
      refine (make_range g k n w2 HK.out (.inl e1)).mono ?_
      rintro e w3 ⟨rfl, rfl⟩
      go_wp2_with fail
      refine (refknown_any k w3).mono ?_
      rintro e w4 ⟨rfl, rfl⟩
      rw [HK.out]
      go_wp2_with fail
      go_ret
      exact ⟨rfl, HB2.out⟩
    have f1 : decide (n < 1) = false := decide_eq_false e1
    by_cases e2 : 1099511627776 < n
    · have f2 : decide (1099511627776 < n) = true := decide_eq_true e2
      go_wp2_with fail
      refine (make_range g k n w2 HK.out (.inr e2)).mono ?_
      rintro e w3 ⟨rfl, rfl⟩
      go_wp2_with fail
      refine (refknown_any k w3).mono ?_
      rintro e w4 ⟨rfl, rfl⟩
      rw [HK.out]
      go_wp2_with fail
      go_ret
      exact ⟨rfl, HB2.out⟩
    have f2 : decide (1099511627776 < n) = false := decide_eq_false e2
    obtain ⟨N, rfl⟩ : ∃ k : Nat, n = (k : Int) := ⟨n.toNat, by omega⟩
    have hN1 : 1 ≤ N := by omega
    have hN2 : N ≤ 1099511627776 := by omega
    go_wp2_with fail
    refine (make_ok g l k N w2 HM2.out HS2.out.pow (by omega) HK.out hN1 hN2).mono ?_
    rintro e w3 ⟨rfl, hb3⟩
    have HB3 := Lib.hid (HB2.out.trans (hb3.mono HB2.out.size))
    have HM3 := Lib.hid (HM2.out.below hb3)
    have HS3 := Lib.hid (HS2.out.below hb3)
    have HR3 := Lib.hid (HR2.out.below hb3)
    have HRW := Lib.hid (fun w hm hs => read_word g l k N w hm (by omega) HK.out hN1 hN2 hs)
    have HRF := Lib.hid (fun w hr => refword_any a c l k N w hr (by omega) hN2)
    clear hb3
    generalize wordL l k N = S at *
    go_wp2_with fail
    refine (refknown_any k w3).mono ?_
    rintro e w4 ⟨rfl, rfl⟩
    rw [HK.out]
    go_wp2_with fail
    refine (HRW.out w4 HM3.out HS3.out).mono ?_
    rintro e w5 ⟨rfl, hb5⟩
    have HB5 := Lib.hid (HB3.out.trans (hb5.mono HB3.out.size))
    have HR5 := Lib.hid (HR3.out.below hb5)
    clear hb5
    go_wp2_with fail
    refine (HRF.out w5 HR5.out).mono ?_
    rintro e w6 ⟨rfl, hb6⟩
    have HB6 := Lib.hid (HB5.out.trans (hb6.mono HB5.out.size))
    clear hb6
    go_wp2_with fail
    go_ret
    exact ⟨rfl, HB6.out⟩
set_option maxRecDepth 100000 in
set_option maxHeartbeats 8000000 in
theorem tokenReads_walk (a : Option Addr) (c : Nat) (l : List UInt8) (s : ByteArray) (w : World) (hr : Rd w a l) (h1 : s.size ≤ maxLen)
    (hm : ∃ m, w.cell? ⟨0, 0, none⟩ = some (.int .i64 m)) (hst : Pow w ∧ Sent w "strconv.ErrRange" ∧ Sent w "strconv.ErrSyntax") :
    Calls Tryd.prog 5 #[.slice a l.length c, .string s] w fun e w' => e = .returned (.bool true) ∧ Below w.heap.size w w' := by
  have hs : Std w := ⟨hst.1, hst.2.2, hst.2.1, hm⟩
  unfold maxLen at h1
  obtain ⟨W, rfl⟩ := bytes_list s
  rw [str_len] at h1
  have HS := Lib.hid hs
  have HR := Lib.hid hr
  clear hm hst hs hr
  go_enter Tryd.func5, Tryd.ntmps5
  go_wp2_with fail
  refine (anchor15_any w HS.out).mono ?_
  rintro e w1 ⟨rfl, hb1⟩
  have HB1 := Lib.hid hb1
  have HR1 := Lib.hid (HR.out.below hb1)
  have HS1 := Lib.hid (HS.out.below hb1)
  clear hb1
  by_cases c1 : 100 < l.length
  · have d1 : decide ((100 : Int) < ((l.length : Nat) : Int)) = true := decide_eq_true (by omega)
    go_wp2_with fail
    go_ret
    exact ⟨rfl, HB1.out⟩
  have d1 : decide ((100 : Int) < ((l.length : Nat) : Int)) = false := decide_eq_false (by omega)
  by_cases c2 : l.length < 16
  · have d2 : decide (((l.length : Nat) : Int) < 16) = true := decide_eq_true (by omega)
    go_wp2_with fail
    go_ret
    exact ⟨rfl, HB1.out⟩
  have d2 : decide (((l.length : Nat) : Int) < 16) = false := decide_eq_false (by omega)
  by_cases c3 : 200 < W.length
  · have d3 : decide ((200 : Int) < ((W.length : Nat) : Int)) = true := decide_eq_true (by omega)
    go_wp2_with fail
    go_ret
    exact ⟨rfl, HB1.out⟩
  have d3 : decide ((200 : Int) < ((W.length : Nat) : Int)) = false := decide_eq_false (by omega)
  go_wp2_with fail
  refine (new_ok a c l w1 HR1.out (by omega) (by omega)).mono ?_
  rintro e w2 ⟨g, rfl, hmt, hb2⟩
  have HB2 := Lib.hid (HB1.out.trans (hb2.mono HB1.out.size))
  have HM2 := Lib.hid hmt
  have HS2 := Lib.hid (HS1.out.below hb2)
  have HR2 := Lib.hid (HR1.out.below hb2)
  clear hb2 hmt
  by_cases hw : ∃ k n t, IsWord W k n t
  · obtain ⟨k, n, t, hw⟩ := hw
    have HRS := Lib.hid (fun b hb => read_is g l W k n t b w2 HM2.out (by omega) hw hb HS2.out)
    have HRW := Lib.hid (fun w hr => refword_any a c l k n w hr (by omega) hw.hi)
    have hcmp : (wordL l k n == W) = (t == tailL l (frontL k n)) := by
      rw [Bool.eq_iff_iff]
      simp only [beq_iff_eq]
      have e := hw.eq
      constructor
      · intro h
        rw [← h] at e
        unfold wordL at e
        have := List.append_cancel_left e
        simp only [List.cons.injEq, true_and] at this
        exact this.symm
      · intro h
        rw [e, h]
        rfl
    have HSP := Lib.hid (show ∀ e, SplitRes W e → e = .returned (.tuple #[.int .u8 (k.toNat : Int), .int .i64 (n : Int), .bool true]) by
      rintro e (⟨k', n', t', h, rfl⟩ | ⟨h, _⟩)
      · obtain ⟨rfl, rfl, rfl⟩ := hw.uniq h
        rfl
      · exact absurd hw (h k n t))
    have HC := Lib.hid hcmp
    clear hw hcmp
    go_wp2_with fail
    cases ht : t == tailL l (frontL k n) with
    | true =>
      have hc := HC.out
      rw [ht] at hc
      have HCC := Lib.hid hc
      refine (HRS.out true ht).mono ?_
      rintro e w3 ⟨rfl, hb3⟩
      have HB3 := Lib.hid (HB2.out.trans (hb3.mono HB2.out.size))
      have HR3 := Lib.hid (HR2.out.below hb3)
      clear hb3 hc ht HC HRS
      go_wp2_with fail
      refine (refsplit_any W w3 (by omega)).mono ?_
      rintro e w4 ⟨hsr, hb4⟩
      obtain rfl := HSP.out e hsr
      have HB4 := Lib.hid (HB3.out.trans (hb4.mono HB3.out.size))
      have HR4 := Lib.hid (HR3.out.below hb4)
      clear hb4 hsr
      go_wp2_with fail
      refine (HRW.out w4 HR4.out).mono ?_
      rintro e w5 ⟨rfl, hb5⟩
      have HB5 := Lib.hid (HB4.out.trans (hb5.mono HB4.out.size))
      clear hb5 HRW
      generalize wordL l k n = S at *
      have hcc := HCC.out
      go_wp2_with fail
      go_ret
      exact ⟨rfl, HB5.out⟩
    | false =>
      have hc := HC.out
      rw [ht] at hc
      have HCC := Lib.hid hc
      refine (HRS.out false ht).mono ?_
      rintro e w3 ⟨rfl, hb3⟩
      have HB3 := Lib.hid (HB2.out.trans (hb3.mono HB2.out.size))
      have HR3 := Lib.hid (HR2.out.below hb3)
      clear hb3 hc ht HC HRS
      go_wp2_with fail
      refine (refsplit_any W w3 (by omega)).mono ?_
      rintro e w4 ⟨hsr, hb4⟩
      obtain rfl := HSP.out e hsr
      have HB4 := Lib.hid (HB3.out.trans (hb4.mono HB3.out.size))
      have HR4 := Lib.hid (HR3.out.below hb4)
      clear hb4 hsr
      go_wp2_with fail
      refine (HRW.out w4 HR4.out).mono ?_
      rintro e w5 ⟨rfl, hb5⟩
      have HB5 := Lib.hid (HB4.out.trans (hb5.mono HB4.out.size))
      clear hb5 HRW
      generalize wordL l k n = S at *
      have hcc := HCC.out
      go_wp2_with fail
      go_ret
      exact ⟨rfl, HB5.out⟩
  · have hno : ∀ k n t, ¬ IsWord W k n t := fun k n t h => hw ⟨k, n, t, h⟩
    have HN := Lib.hid hno
    clear hw hno
    go_wp2_with fail
    refine (read_form g W w2 (by omega) HN.out HS2.out).mono ?_
    rintro e w3 ⟨rfl, hb3⟩
    have HB3 := Lib.hid (HB2.out.trans (hb3.mono HB2.out.size))
    clear hb3
    go_wp2_with fail
    refine (refsplit_any W w3 (by omega)).mono ?_
    rintro e w4 ⟨hsr, hb4⟩
    have HB4 := Lib.hid (HB3.out.trans (hb4.mono HB3.out.size))
    clear hb4
    rcases hsr with ⟨k', n', t', h, rfl⟩ | ⟨h, x, y, rfl⟩
    · exact absurd h (HN.out k' n' t')
    · clear h
      go_wp2_with fail
      go_ret
      exact ⟨rfl, HB4.out⟩
end Go.Proofs.YtbblnlddiafkhaaDoor
/- A row of bytes made of a string: written in place, appended to. -/
set_option linter.unusedVariables false
namespace Go.Proofs.YtbblnlddiafkhaaDoor
open Go.RowKit

/-- The bytes l in a block g from block B on, none of them frozen. -/
def Tf (B : Nat) (w : World) (v : Value) (l : List UInt8) : Prop :=
  ∃ g cap cur fr, v = .slice (some ⟨g, 0, none⟩) l.length cap ∧ B ≤ g ∧ w.heap[g]? = some (.cells cur 5 fr) ∧ (fr.1 = fr.2 ∨ cap ≤ fr.1) ∧ l.length ≤ cap ∧ cap ≤ cur.size ∧ cap ≤ maxLen ∧ ∀ j (h : j < l.length), cur[j]? = some (.int .u8 (l[j]).toNat)
theorem frozen_no {w : World} {g cap : Nat} {cur : Array Value} {T : TypeId} {fr : Nat × Nat} (hg : w.heap[g]? = some (.cells cur T fr)) (hf : fr.1 = fr.2 ∨ cap ≤ fr.1) (o : Nat) (ho : o < cap) : w.frozen? ⟨g, o, none⟩ = false := by
  unfold World.frozen?
  simp only [hg]
  rcases hf with h | h
  · simp; omega
  · simp; omega
theorem Tf.shape {B : Nat} {w : World} {v : Value} {l : List UInt8} (h : Tf B w v l) : ∃ g c, v = .slice (some ⟨g, 0, none⟩) l.length c ∧ B ≤ g ∧ g < w.heap.size ∧ Rd w (some ⟨g, 0, none⟩) l ∧ (∀ j (hj : j < l.length), w.cell? ⟨g, j, none⟩ = some (.int .u8 (l[j]).toNat)) ∧ (∀ j, j < l.length → w.frozen? ⟨g, j, none⟩ = false) := by
  obtain ⟨g, cap, cur, fr, rfl, hB, hg, hf, hc, _, _, hl⟩ := h
  exact ⟨g, cap, rfl, hB, (Array.getElem?_eq_some_iff.1 hg).1, .inr ⟨g, 0, rfl, fun i hi => by rw [Lib.cell_of_heap hg, Nat.zero_add]; exact hl i hi⟩, fun j hj => by rw [Lib.cell_of_heap hg]; exact hl j hj, fun j hj => frozen_no hg hf j (by omega)⟩
theorem Tf.keep {B : Nat} {w w' : World} {v : Value} {l : List UInt8} (h : Tf B w v l) (hb : Below w.heap.size w w') : Tf B w' v l := by
  obtain ⟨g, cap, cur, fr, rfl, hB, hg, h⟩ := h
  exact ⟨g, cap, cur, fr, rfl, hB, (hb.block _ (Array.getElem?_eq_some_iff.1 hg).1).trans hg, h⟩
theorem Tf.of_own {B : Nat} {w : World} {v : Value} {l : List UInt8} (h : Own B w v l) (hl : l ≠ []) : Tf B w v l := by
  rcases h.2 with ⟨rfl, h0⟩ | ⟨g, cap, cur, rfl, hB, hg, hlc, hm, hsz, htake⟩
  · exact absurd (List.eq_nil_of_length_eq_zero h0) hl
  · refine ⟨g, cap, cur, (0, 0), rfl, hB, hg, .inl rfl, hlc, by omega, hm, fun j hj => ?_⟩
    have h1 : (cur.toList.take (l.length * 1))[j]? = (Lib.byteCells l)[j]? := by rw [htake]
    rw [List.getElem?_take, if_pos (by omega)] at h1
    rw [← Array.getElem?_toList, h1]
    simp [Lib.byteCells, hj]
theorem Tf.set {B : Nat} {w : World} {g n c : Nat} {l : List UInt8} (h : Tf B w (.slice (some ⟨g, 0, none⟩) n c) l) (j : Nat) (x : UInt8) (hj : j < l.length) : Tf B (w.setCell ⟨g, j, none⟩ (.int .u8 x.toNat)) (.slice (some ⟨g, 0, none⟩) n c) (l.set j x) := by
  obtain ⟨g', cap, cur, fr, he, hB, hg, hf, hc, hs, hm, hl⟩ := h
  simp at he
  obtain ⟨rfl, rfl, rfl⟩ := he
  refine ⟨g, c, cur.setIfInBounds j (.int .u8 x.toNat), fr, by simp, hB, by simp [World.setCell, Array.getElem?_modify, hg], hf, by simpa using hc, by simpa using hs, hm, fun i hi => ?_⟩
  simp only [List.length_set] at hi
  by_cases e : i = j
  · subst e
    have hi2 : i < cur.size := by omega
    simp [hi2]
  · rw [Array.getElem?_setIfInBounds_ne (fun h => e h.symm), hl i hi, List.getElem_set_ne (fun h => e h.symm)]
/-- []byte(s) -/
theorem tf_of_str (l : List UInt8) (w : World) (hl : l.length ≤ 1000000) : ∃ g c w', (convert 9 28 (.string ⟨l.toArray⟩)).run Tryd.prog w = .ok (.slice (some ⟨g, 0, none⟩) l.length c) w' ∧ Below w.heap.size w w' ∧ Tf w.heap.size w' (.slice (some ⟨g, 0, none⟩) l.length c) l := by
  have h := Lib.run_convert_string_bytes (P := Tryd.prog) w 9 28 5 ⟨l.toArray⟩ Tryd.underlying9 Tryd.underlying28 Tryd.underlying5
  have hs : (⟨l.toArray⟩ : ByteArray).size = l.length := by simp [ByteArray.size]
  rw [hs] at h
  have hge := grownCap_ge w l.length 0 5
  have hle := grownCap_le_maxLen w l.length 0 5 (by unfold maxLen; omega)
  have hcs : (Lib.bytesCells w 5 ⟨l.toArray⟩).size = grownCap w l.length 0 5 := by
    unfold Lib.bytesCells
    rw [hs]
    simp
    omega
  refine ⟨_, _, _, h, ⟨rfl, rfl, rfl, by rw [Lib.bytesWorld_size]; omega, fun k hk => Lib.bytesWorld_at_old _ _ _ _ hk⟩, ?_⟩
  refine ⟨w.heap.size, grownCap w l.length 0 5, _, _, rfl, Nat.le_refl _, Lib.bytesWorld_at_new w 5 ⟨l.toArray⟩, .inr ?_, hge, by omega, hle, fun j hj => ?_⟩
  · rw [hcs]; exact Nat.le_refl _
  · simp [Lib.bytesCells, Array.getElem?_append, hj]
/-- append(l, m...) -/
theorem run_append_tf (ty : TypeId) {B : Nat} {w : World} {v : Value} {l : List UInt8} (h : Tf B w v l) {x : Addr} {m : List UInt8} {n c : Nat} (hn : n = m.length) (hm : m ≠ []) (hrd : Rd w (some x) m) (hlen : l.length + m.length ≤ 140737488355328) (hB : B ≤ w.heap.size) :
    ∃ v' w', (Builtin.append_ #[28, 28] ty #[v, .slice (some x) n c]).run Tryd.prog w = .ok v' w' ∧ Tf B w' v' (l ++ m) ∧ w.grownBy w' v.ownBlock := by
  subst hn
  obtain ⟨i0, hi, hz0, hz1, hz2⟩ := info_u8'
  have hc : ∀ j u, (Lib.byteCells m)[j]? = some u → w.cell? (x.add j) = some u := by
    intro j u hu
    have hj : j < m.length := by have := (List.getElem?_eq_some_iff.1 hu).1; simpa [Lib.byteCells] using this
    rcases hrd with rfl | ⟨b, off, e, hc⟩
    · simp at hj
    · simp at e
      subst e
      have e1 : u = .int .u8 (m[j]).toNat := by
        simp [Lib.byteCells, hj] at hu
        exact hu.symm
      rw [e1, ← hc j hj, Addr.add_lit]
  obtain ⟨g, cap, cur, fr, rfl, hBg, hg, hf, hlc, hsz, hmx, hl⟩ := h
  by_cases hroom : l.length + m.length ≤ cap
  · have hcur : ∀ j, j < (Lib.byteCells m).length → w.cell? ⟨g, 0 + l.length * i0.size + j, none⟩ = cur[l.length + j]? := by
      intro j hj
      rw [hz1, Nat.mul_one, Nat.zero_add, Lib.cell_of_heap hg]
    have h1 := run_append_room_cells (P := Tryd.prog) w 28 ty 5 i0 Tryd.underlying28 hi g 0 l.length cap x m.length c (Lib.byteCells m) (by simp [byteCells_len, hz1]) hc (byteCells_one m) hroom
      (fun j hj => by
        rw [hcur j hj]
        rw [byteCells_len] at hj
        rw [Array.getElem?_eq_getElem (by omega)]
        rfl) (fun j hj => frozen_no hg hf _ (by rw [byteCells_len] at hj; rw [hz1]; omega))
    rw [hz1, Nat.mul_one, Nat.zero_add] at h1
    obtain ⟨cs', f1, f2, f3, f4, f5⟩ := setCells_block (Lib.byteCells m) l.length w cur hg
    refine ⟨_, _, h1, ⟨g, cap, cs', fr, by rw [List.length_append], hBg, f1, hf, by rw [List.length_append]; omega, by omega, hmx, ?_⟩, ⟨setCells_os _ _ _ _, setCells_tape _ _ _ _, setCells_output _ _ _ _, Nat.le_of_eq (setCells_size _ _ _ _).symm, ?_⟩⟩
    · intro j hj
      rw [List.length_append] at hj
      by_cases hjl : j < l.length
      · rw [f3 _ hjl, hl j hjl, List.getElem_append_left hjl]
      · have := f4 (j - l.length) (by rw [byteCells_len]; omega) (by omega)
        rw [show l.length + (j - l.length) = j by omega] at this
        rw [this, List.getElem_append_right (by omega)]
        simp [Lib.byteCells]
    · intro k hk hne
      exact World.heap_setCells_other w g _ _ hk (fun e => hne (by subst e; rfl))
  · obtain ⟨v', w', e1, e2, e3⟩ := run_append_arg_grows (P := Tryd.prog) w 28 ty 5 i0 (.int .u8 0) 1 1 Tryd.underlying28 hi hz0 hz1 hz2 rfl (by decide) ⟨g, 0, none⟩ l.length cap (Lib.byteCells l) (by simp [byteCells_len])
      (fun j u hu => by
        have hj : j < l.length := by have := (List.getElem?_eq_some_iff.1 hu).1; simpa [Lib.byteCells] using this
        have e1 : u = .int .u8 (l[j]).toNat := by
          simp [Lib.byteCells, hj] at hu
          exact hu.symm
        rw [Addr.add_lit, Nat.zero_add, Lib.cell_of_heap hg, hl j hj, e1])
      x m.length c (Lib.byteCells m) (by simp [byteCells_len]) hc (by omega) (by unfold maxLen; omega) (by omega)
    have hown : Own w.heap.size w' v' (l ++ m) := by
      unfold Own
      rw [byteCells_app, List.length_append]
      exact e2
    obtain ⟨g', cap', cur', fr', h1, h2, h3⟩ := Tf.of_own hown (by simp [hm])
    exact ⟨v', w', e1, ⟨g', cap', cur', fr', h1, Nat.le_trans hB h2, h3⟩, ⟨e3.os, e3.tape, e3.output, e3.size, fun k hk _ => e3.block k hk (by simp)⟩⟩
/-- .. for the walk: one byte. -/
theorem wpList_append_tf {ops : Array Oper} {rest : List Oper} {o : Oper} {a : Act} {w : World} {Q : Exit → Act → World → Prop} (hgd : o.guard = none) (s x : Operand)
    (ho : o.op = .call { callee := .builtin .append, args := #[s, x], argTypes := #[28, 28] })
    (B : Nat) (v : Value) (l : List UInt8) (hs : a.eval s = v) (h : Tf B w v l) (ad : Addr) (m : List UInt8) (n c : Nat) (hx : a.eval x = .slice (some ad) n c) (hn : n = m.length) (hm : m ≠ []) (hrd : Rd w (some ad) m)
    (hlen : l.length + m.length ≤ 140737488355328) (hB : B ≤ w.heap.size)
    (hk : ∀ v' w', Tf B w' v' (l ++ m) → w.grownBy w' v.ownBlock → wpList Tryd.prog ops Q rest (a.put o.dst v') w') : wpList Tryd.prog ops Q (o :: rest) a w := by
  refine wpList_plain hgd fun K hK' => ?_
  obtain ⟨v', w', h1, h2, h3⟩ := run_append_tf o.type h hn hm hrd hlen hB
  unfold Oper.wp execOp
  simp only [ho, resolve, invoke, builtin, Sem.run_bind, Sem.run_pure, Result.andThen_ok, List.map_toArray, List.map_cons, List.map_nil, hs, hx]
  erw [h1]
  exact hK' _ _ (hk v' w' h2 h3)
theorem below_tf {B : Nat} {a w w' : World} {v : Value} {l : List UInt8} (h : Below B a w) (ht : Tf B w v l) (hg : w.grownBy w' v.ownBlock) (hB : B ≤ w.heap.size) : Below B a w' := by
  refine h.grown hg hB fun k hk => ?_
  obtain ⟨g, c, rfl, hB, _⟩ := ht.shape
  simp [Value.ownBlock] at hk
  omega
end Go.Proofs.YtbblnlddiafkhaaDoor
/- The walk of the law TokenTurned. -/
set_option linter.unusedVariables false
namespace Go.Proofs.YtbblnlddiafkhaaDoor
open Go.RowKit

set_option maxRecDepth 100000 in
set_option maxHeartbeats 8000000 in
theorem tokenTurned_walk (x n t y : Int) (w : World) (hx : (Lit.int .u8 x).wf = true) (hn : (Lit.int .i64 n).wf = true) (ht : (Lit.int .i64 t).wf = true) (hy : (Lit.int .u8 y).wf = true)
    (hm : ∃ m, w.cell? ⟨0, 0, none⟩ = some (.int .i64 m)) (hst : Pow w ∧ Sent w "strconv.ErrRange" ∧ Sent w "strconv.ErrSyntax") :
    Calls Tryd.prog 6 #[.int .u8 x, .int .i64 n, .int .i64 t, .int .u8 y] w fun e w' => e = .returned (.bool true) ∧ Below w.heap.size w w' := by
  have hs : Std w := ⟨hst.1, hst.2.2, hst.2.1, hm⟩
  obtain ⟨k, rfl⟩ := u8_of hx
  obtain ⟨X, rfl⟩ := u8_of hy
  have kc := fun (w : World) (C : Array Value) (n c : Nat) => Lib.run_convert_bytes_const (P := Tryd.prog) w 28 5 C n c Tryd.underlying28 Tryd.underlying5
  have HS := Lib.hid hs
  have htb : t ≤ 9223372036854775807 := by
    simp only [Lit.wf, Bool.and_eq_true, IntKind.min, IntKind.max] at ht
    simpa [IntKind.signed, IntKind.bits] using ht.2
  clear hm hst hs hn hx hy ht
  go_enter Tryd.func6, Tryd.ntmps6
  go_wp2_with fail
  refine (anchor15_any w HS.out).mono ?_
  rintro e w1 ⟨rfl, hb1⟩
  have HB1 := Lib.hid hb1
  have HS1 := Lib.hid (HS.out.below hb1)
  clear hb1
  have hA : Rd (w1.alloc (.cells key16Cells 5 (16, 17))) (some ⟨w1.heap.size, 0, none⟩) key16 := Rd.of_lit (T := 5) (fr := (16, 17)) _ (by rw [heap_alloc_new]; rfl)
  have hbA : Below w1.heap.size w1 (w1.alloc (.cells key16Cells 5 (16, 17))) := (Below.refl _ _).alloc (Nat.le_refl _) _
  go_wp2_with fail
  have HB2 := Lib.hid (HB1.out.trans (hbA.mono HB1.out.size))
  have HS2 := Lib.hid (HS1.out.below hbA)
  have HA := Lib.hid hA
  clear kc hbA hA
  unfold key16Cells at *
  obtain ⟨w2, hw2⟩ : ∃ q, w1.alloc (.cells #[.int .u8 48, .int .u8 49, .int .u8 50, .int .u8 51, .int .u8 52, .int .u8 53, .int .u8 54, .int .u8 55, .int .u8 56, .int .u8 57, .int .u8 97, .int .u8 98, .int .u8 99, .int .u8 100, .int .u8 101, .int .u8 102] 5 (16, 17)) = q := ⟨_, rfl⟩
  rw [hw2] at HB2 HS2 HA ⊢
  clear hw2
  refine (refknown_any k w2).mono ?_
  rintro e w3 ⟨rfl, rfl⟩
  cases hk : knownB k with
  | false =>
    go_wp2_with fail
    go_ret
    exact ⟨rfl, HB2.out⟩
  | true =>
    have HK := Lib.hid hk
    clear hk
    by_cases e1 : n < 1
    · have f1 : decide (n < 1) = true := decide_eq_true e1
      go_wp2_with fail
      go_ret
      exact ⟨rfl, HB2.out⟩
    have f1 : decide (n < 1) = false := decide_eq_false e1
    by_cases e2 : 1099511627776 < n
    · have f2 : decide (1099511627776 < n) = true := decide_eq_true e2
      go_wp2_with fail
      go_ret
      exact ⟨rfl, HB2.out⟩
    have f2 : decide (1099511627776 < n) = false := decide_eq_false e2
    by_cases e3 : t < 0
    · have f3 : decide (t < 0) = true := decide_eq_true e3
      go_wp2_with fail
      go_ret
      exact ⟨rfl, HB2.out⟩
    have f3 : decide (t < 0) = false := decide_eq_false e3
    obtain ⟨N, rfl⟩ : ∃ k : Nat, n = (k : Int) := ⟨n.toNat, by omega⟩
    obtain ⟨A, rfl⟩ : ∃ k : Nat, t = (k : Int) := ⟨t.toNat, by omega⟩
    have hN1 : 1 ≤ N := by omega
    have hN2 : N ≤ 1099511627776 := by omega
    go_wp2_with fail
    refine (new_ok (some ⟨w1.heap.size, 0, none⟩) 16 key16 w3 HA.out (by decide) (by decide)).mono ?_
    rintro e w4 ⟨g, rfl, hmt, hb4⟩
    have HB4 := Lib.hid (HB2.out.trans (hb4.mono HB2.out.size))
    have HM4 := Lib.hid hmt
    have HS4 := Lib.hid (HS2.out.below hb4)
    clear hb4 hmt HA
    go_wp2_with fail
    refine (make_ok g key16 k N w4 HM4.out HS4.out.pow (by decide) HK.out hN1 hN2).mono ?_
    rintro e w5 ⟨rfl, hb5⟩
    have HB5 := Lib.hid (HB4.out.trans (hb5.mono HB4.out.size))
    have HM5 := Lib.hid (HM4.out.below hb5)
    have HS5 := Lib.hid (HS4.out.below hb5)
    clear hb5
    obtain ⟨hl1, hl2⟩ := wordL_len key16 k N hN1 hN2
    obtain ⟨S, hS⟩ : ∃ S, wordL key16 k N = S := ⟨_, rfl⟩
    rw [hS] at hl1 hl2 ⊢
    have HSW := Lib.hid hS
    clear hS
    have q1 : decide (((S.length : Nat) : Int) < 25) = false := decide_eq_false (by omega)
    obtain ⟨gb, cb, w6, hcv, hb6, htf⟩ := tf_of_str S w5 (by omega)
    obtain ⟨j, hjd⟩ : ∃ j, A % S.length = j := ⟨_, rfl⟩
    have hjl : j < S.length := by rw [← hjd]; exact Nat.mod_lt _ (by omega)
    have HB6 := Lib.hid (HB5.out.trans (hb6.mono HB5.out.size))
    have HB56 := Lib.hid hb6
    have HM6 := Lib.hid (HM5.out.below hb6)
    have HS6 := Lib.hid (HS5.out.below hb6)
    obtain ⟨g', c', he, hgB, hgl, hrd, hcell, hfz⟩ := htf.shape
    simp only [Value.slice.injEq, Option.some.injEq, Addr.mk.injEq, and_true, true_and] at he
    obtain ⟨rfl, rfl⟩ := he
    have hc1 := hcell j hjl
    have hf1 := hfz j hjl
    have HTF := Lib.hid htf
    clear hb6 htf hrd hcell hfz
    have hmod : ((A : Nat) : Int) % ((S.length : Nat) : Int) = ((j : Nat) : Int) := by rw [← hjd]; omega
    have hjI : ((j : Nat) : Int) < ((S.length : Nat) : Int) := by omega
    clear hjd
    obtain ⟨d, hd⟩ : ∃ d, S[j]'hjl = d := ⟨_, rfl⟩
    rw [hd] at hc1
    by_cases hdx : d.toNat = X.toNat
    · have q2 : (((d.toNat : Nat) : Int) == ((X.toNat : Nat) : Int)) = true := by simp only [beq_iff_eq]; omega
      clear hdx hd
      go_wp2_with fail
      go_ret
      exact ⟨rfl, HB6.out⟩
    · have q2 : (((d.toNat : Nat) : Int) == ((X.toNat : Nat) : Int)) = false := by simp only [beq_eq_false_iff_ne, ne_eq]; omega
      have hne : S.set j X ≠ S := by
        intro e
        have h1 : (S.set j X)[j]'(by simpa using hjl) = X := List.getElem_set_self _
        have h2 : (S.set j X)[j]'(by simpa using hjl) = S[j]'hjl := by simp only [e]
        rw [h2, hd] at h1
        exact hdx (by rw [h1])
      have HNE := Lib.hid hne
      obtain ⟨g2, c2, he, _, _, hrd, _, _⟩ := (HTF.out.set j X hjl).shape
      simp only [Value.slice.injEq, Option.some.injEq, Addr.mk.injEq, and_true] at he
      obtain ⟨rfl, -, rfl⟩ := he
      have hst := str_of_rd hrd S.length cb (by simp)
      have HB7 := Lib.hid (HB6.out.setCell (p := ⟨gb, j, none⟩) (Nat.le_trans HB5.out.size hgB) (.int .u8 (X.toNat : Nat)))
      have hb7 := (Below.setCell HB56.out (p := ⟨gb, j, none⟩) hgB (.int .u8 (X.toNat : Nat)))
      have HM7 := Lib.hid (HM5.out.below hb7)
      have HS7 := Lib.hid (HS5.out.below hb7)
      have hl7 : (S.set j X).length ≤ 40 := by simpa using hl2
      clear hd hdx hne hrd hb7 HTF HB6 HM6 HS6
      go_wp2_with fail
      generalize w6.setCell ⟨gb, j, none⟩ (.int .u8 (X.toNat : Nat)) = w7 at *
      refine (read_any g key16 (S.set j X) w7 HM7.out (by decide) (by omega) HS7.out).mono ?_
      rintro e w8 ⟨hR, hb8⟩
      have HB8 := Lib.hid (HB7.out.trans (hb8.mono HB7.out.size))
      clear hb8 hst
      rcases hR with ⟨k', n', h1, h2, h3, h4, rfl⟩ | ⟨_, c, hc, rfl⟩
      · by_cases hkk : k'.toNat = k.toNat
        · have hkk2 : k' = k := UInt8.toNat_inj.1 hkk
          have hnn : n' ≠ N := by
            rintro rfl
            apply HNE.out
            rw [h4, hkk2, HSW.out]
          have r1 : (((k'.toNat : Nat) : Int) != ((k.toNat : Nat) : Int)) = false := by simp only [bne_eq_false_iff_eq]; omega
          have r2 : (((n' : Nat) : Int) != ((N : Nat) : Int)) = true := by simp only [bne_iff_ne, ne_eq]; omega
          clear h4 hkk hkk2 hnn HNE HSW
          go_wp2_with fail
          go_ret
          exact ⟨rfl, HB8.out⟩
        · have r1 : (((k'.toNat : Nat) : Int) != ((k.toNat : Nat) : Int)) = true := by simp only [bne_iff_ne, ne_eq]; omega
          clear h4 hkk HNE HSW
          go_wp2_with fail
          go_ret
          exact ⟨rfl, HB8.out⟩
      · have r1 : (c != 0) = true := by
          rcases hc with ⟨rfl, _⟩ | ⟨rfl, _⟩ <;> rfl
        clear hc
        go_wp2_with fail
        go_ret
        exact ⟨rfl, HB8.out⟩
end Go.Proofs.YtbblnlddiafkhaaDoor
/- What a card's listed variables give a walk. -/
set_option linter.unusedVariables false
namespace Go.Proofs.YtbblnlddiafkhaaDoor
open Go.RowKit Go.ChangeShapes

theorem laid_drop {P : Program} {w : World} : ∀ (l : List (String × DataW Unit)) (i : Nat), laidMet P l w → laidMet P (l.drop i) w
  | l, 0, h => h
  | [], i + 1, h => h
  | x :: l, i + 1, h => laid_drop l i h.tail
theorem sent_of_head {n nm : String} {d : DataW Unit} {r : List (String × DataW Unit)} {W : World} {g : Nat} {ti : TypeId} {ms : Array (String × TypeId)}
    (h : laidMet Tryd.prog ((n, .iface nm d) :: r) W) (hg : Tryd.prog.globalNamed n = some g) (ht : (Tryd.prog.globals[g]?).map (·.type) = some ti) (hi : Tryd.prog.underlying ti = some (.interface ms)) : Sent W n := by
  obtain ⟨ps, ⟨g0, t0, cs0, f0, p0, q0, hg0, ht0, hv0, hd0, _, e0⟩, _, hrows⟩ := h
  obtain rfl := Option.some.inj (hg.symm.trans hg0)
  obtain rfl := Option.some.inj (ht.symm.trans ht0)
  obtain ⟨l0⟩ := cs0
  obtain ⟨f1, u, v, hcs, _, _⟩ := iface_of_trod hi hd0
  refine ⟨u, v, ?_⟩
  rw [hv0]
  simp only at hcs
  rw [hcs]
theorem std_of {W : World} {laid : List (String × DataW Unit)} (hL : laidMetH Tryd.prog laid W) (hp : (laid.all fun x => x.2.handleName?.isNone) = true)
    {i j k : Nat} {r1 r2 r3 : List (String × DataW Unit)} {n1 n2 : String} {d1 d2 : DataW Unit}
    (h1 : laid.drop i = ("internal/strconv.uint64pow10", Lib.tabData .u64 Lib.pow10Tab) :: r1) (h2 : laid.drop j = ("strconv.ErrRange", .iface n1 d1) :: r2) (h3 : laid.drop k = ("strconv.ErrSyntax", .iface n2 d2) :: r3) :
    Pow W ∧ Sent W "strconv.ErrRange" ∧ Sent W "strconv.ErrSyntax" := by
  rw [MakeChecks.laidMetH_plain _ _ _ hp] at hL
  have a1 := laid_drop _ i hL
  have a2 := laid_drop _ j hL
  have a3 := laid_drop _ k hL
  rw [h1] at a1
  rw [h2] at a2
  rw [h3] at a3
  refine ⟨?_, ?_, ?_⟩
  · exact Lib.tabIs_of_head (g := 3) (t := 142) (e := 117) (n := 20) (by kernel_rfl) (by kernel_rfl) (by kernel_rfl) (by kernel_rfl) (by kernel_rfl) (by kernel_rfl) a1
  · exact sent_of_head (g := 2) (ti := 53) (ms := #[("Error", 88)]) a2 (by kernel_rfl) (by kernel_rfl) (by kernel_rfl)
  · exact sent_of_head (g := 1) (ti := 53) (ms := #[("Error", 88)]) a3 (by kernel_rfl) (by kernel_rfl) (by kernel_rfl)
end Go.Proofs.YtbblnlddiafkhaaDoor
